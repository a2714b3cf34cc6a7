/- Something is done to the document's net: the law's helper has. -/
import Derived.Deep.CutRange
import Derived.Deep.CutBlock
import Derived.Test.YtonfpifikblnjaaNetRefNew
namespace Go.Proofs.Ytonfpifikblnjaa.Net
open Go.RowKit

def Rf.has (R : Rf) (c : ActV) : (Int × Option Pk) × Rf :=
  match c.k.toNat % 8 with
  | 2 => (((R.deliver c.i).1, none), (R.deliver c.i).2)
  | 3 => (((R.drop c.i).1, none), (R.drop c.i).2)
  | 4 => (((R.double c.i).1, none), (R.double c.i).2)
  | 5 => (((R.delay c.i).1, none), (R.delay c.i).2)
  | 6 => ((0, (R.receive c.to).1), (R.receive c.to).2)
  | 7 => ((0, none), R.clear c.to)
  | _ => (((R.send ⟨c.i, c.to, c.b⟩).1, none), (R.send ⟨c.i, c.to, c.b⟩).2)
section
variable (R : Rf) (c : ActV)
theorem has_2 (h : c.k.toNat % 8 = 2) : R.has c = (((R.deliver c.i).1, none), (R.deliver c.i).2) := by unfold Rf.has; rw [h]; rfl
theorem has_3 (h : c.k.toNat % 8 = 3) : R.has c = (((R.drop c.i).1, none), (R.drop c.i).2) := by unfold Rf.has; rw [h]; rfl
theorem has_4 (h : c.k.toNat % 8 = 4) : R.has c = (((R.double c.i).1, none), (R.double c.i).2) := by unfold Rf.has; rw [h]; rfl
theorem has_5 (h : c.k.toNat % 8 = 5) : R.has c = (((R.delay c.i).1, none), (R.delay c.i).2) := by unfold Rf.has; rw [h]; rfl
theorem has_6 (h : c.k.toNat % 8 = 6) : R.has c = ((0, (R.receive c.to).1), (R.receive c.to).2) := by unfold Rf.has; rw [h]; rfl
theorem has_7 (h : c.k.toNat % 8 = 7) : R.has c = ((0, none), R.clear c.to) := by unfold Rf.has; rw [h]; rfl
theorem has_0 (h : c.k.toNat % 8 = 0 ∨ c.k.toNat % 8 = 1) : R.has c = (((R.send ⟨c.i, c.to, c.b⟩).1, none), (R.send ⟨c.i, c.to, c.b⟩).2) := by
  unfold Rf.has
  rcases h with h | h <;> rw [h] <;> rfl
end
theorem rkept {S S' : Nat → Prop} {w v : World} {B b : Nat} (ht : RTurn S S' w v) (hS : ∀ b, S b → b < B) (hb : B ≤ b) (hlt : b < w.heap.size) : v.heap[b]? = w.heap[b]? := ht.off.block b hlt (fun hs => by have := hS b hs; omega)
theorem rnotin {S S' : Nat → Prop} {w v : World} {B b : Nat} (ht : RTurn S S' w v) (hS : ∀ b, S b → b < B) (hb : B ≤ b) (hlt : b < w.heap.size) : ¬ S' b := fun hs => by
  rcases ht.sub b hs with e | e
  · have := hS b e; omega
  · omega

set_option maxRecDepth 100000 in
set_option maxHeartbeats 8000000 in
theorem has_at (T : Nat → Prop) (m : Nat) (R : Rf) (c : ActV) (w : World) (h : RefAt w T m R) (hok : R.OK) :
    Calls Try.prog 19 #[.pointer (some ⟨m, 0, none⟩), .agg #[.int .u8 (c.k.toNat : Int), .int .i64 c.i, .int .i64 c.to, strV c.b]] w fun e w' =>
      e = .returned (.tuple #[.int .i64 (R.has c).1.1, .agg #[.int .i64 ((R.has c).1.2.getD ⟨0, 0, []⟩).src, .int .i64 ((R.has c).1.2.getD ⟨0, 0, []⟩).to, strV ((R.has c).1.2.getD ⟨0, 0, []⟩).b], .bool (R.has c).1.2.isSome]) ∧
      ∃ T', RefAt w' T' m (R.has c).2 ∧ RTurn T T' w w' := by
  obtain ⟨wz, hwz⟩ : ∃ wz, wz = ((w.alloc (.cells #[.int .u8 (c.k.toNat : Int), .int .i64 c.i, .int .i64 c.to, strV c.b] 33)).alloc (.cells #[.int .i64 0, .int .i64 0, .string ⟨#[]⟩] 48)).alloc (.cells #[.int .i64 0, .int .i64 0, .string ⟨#[]⟩] 48) := ⟨_, rfl⟩
  have hz : wz.heap[w.heap.size]? = some (.cells #[.int .u8 (c.k.toNat : Int), .int .i64 c.i, .int .i64 c.to, strV c.b] 33) ∧ wz.heap[w.heap.size + 1]? = some (.cells #[.int .i64 0, .int .i64 0, .string ⟨#[]⟩] 48) ∧ wz.heap[w.heap.size + 1 + 1]? = some (.cells #[.int .i64 0, .int .i64 0, .string ⟨#[]⟩] 48) ∧ w.heap.size + 1 + 1 < wz.heap.size := by
    have s1 : (w.alloc (.cells #[.int .u8 (c.k.toNat : Int), .int .i64 c.i, .int .i64 c.to, strV c.b] 33)).heap.size = w.heap.size + 1 := World.size_alloc ..
    have s2 : ((w.alloc (.cells #[.int .u8 (c.k.toNat : Int), .int .i64 c.i, .int .i64 c.to, strV c.b] 33)).alloc (.cells #[.int .i64 0, .int .i64 0, .string ⟨#[]⟩] 48)).heap.size = w.heap.size + 1 + 1 := by rw [World.size_alloc, s1]
    have b0 := (MapKept.heap_alloc w (.cells #[.int .u8 (c.k.toNat : Int), .int .i64 c.i, .int .i64 c.to, strV c.b] 33)).1
    have b1 := (MapKept.heap_alloc (w.alloc (.cells #[.int .u8 (c.k.toNat : Int), .int .i64 c.i, .int .i64 c.to, strV c.b] 33)) (.cells #[.int .i64 0, .int .i64 0, .string ⟨#[]⟩] 48)).1
    have b2 := (MapKept.heap_alloc ((w.alloc (.cells #[.int .u8 (c.k.toNat : Int), .int .i64 c.i, .int .i64 c.to, strV c.b] 33)).alloc (.cells #[.int .i64 0, .int .i64 0, .string ⟨#[]⟩] 48)) (.cells #[.int .i64 0, .int .i64 0, .string ⟨#[]⟩] 48)).1
    have g1 := World.grownBy_alloc (w.alloc (.cells #[.int .u8 (c.k.toNat : Int), .int .i64 c.i, .int .i64 c.to, strV c.b] 33)) (.cells #[.int .i64 0, .int .i64 0, .string ⟨#[]⟩] 48) none
    have g2 := World.grownBy_alloc ((w.alloc (.cells #[.int .u8 (c.k.toNat : Int), .int .i64 c.i, .int .i64 c.to, strV c.b] 33)).alloc (.cells #[.int .i64 0, .int .i64 0, .string ⟨#[]⟩] 48)) (.cells #[.int .i64 0, .int .i64 0, .string ⟨#[]⟩] 48) none
    rw [s1] at b1
    rw [s2] at b2
    rw [hwz]
    exact ⟨(g2.block _ (by omega) (by simp)).trans ((g1.block _ (by omega) (by simp)).trans b0), (g2.block _ (by omega) (by simp)).trans b1, b2, by rw [World.size_alloc, s2]; omega⟩
  have hgz : w.grownBy wz none := by
    rw [hwz]
    exact ((World.grownBy_alloc w _ none).andThen (World.grownBy_alloc _ _ none) (fun _ hj => .inr hj)).andThen (World.grownBy_alloc _ _ none) (fun _ hj => .inr hj)
  have hnz := h.grown hgz
  have HSL := Lib.hid h.lt
  have HZ := Lib.hid hz
  have HGZ := Lib.hid hgz
  have HWZ := Lib.hid hwz
  have HNZ := Lib.hid hnz
  have HOK := Lib.hid hok
  clear h hz hgz hwz hnz hok
  go_enter Try.func19, Try.ntmps19
  go_upto_block 0 with fail
  rw [← HWZ.out]
  generalize hk8 : ((c.k.toNat : Int) % 8) = r
  have hr8 : r = ((c.k.toNat % 8 : Nat) : Int) := by omega
  clear hk8
  go_cut [8, 9] from 10 to 59 (fun s8 s9 wx => ∃ T', s9 = .int .i64 (R.has c).1.1 ∧ s8 = .bool (R.has c).1.2.isSome ∧
    wx.heap[w.heap.size + 1 + 1]? = some (.cells #[.int .i64 ((R.has c).1.2.getD ⟨0, 0, []⟩).src, .int .i64 ((R.has c).1.2.getD ⟨0, 0, []⟩).to, strV ((R.has c).1.2.getD ⟨0, 0, []⟩).b] 48) ∧
    wx.heap[w.heap.size + 1]? = some (.cells #[.int .i64 0, .int .i64 0, .string ⟨#[]⟩] 48) ∧ RefAt wx T' m (R.has c).2 ∧ RTurn T T' w wx ∧ ¬ T' (w.heap.size + 1))
  case first =>
    have hnz := HNZ.out
    have hb0 := HZ.out.1
    have ca1 : wz.cell? ⟨w.heap.size, 1, none⟩ = some (.int .i64 c.i) := by simp only [World.cell?, hb0]; rfl
    have ca2 : wz.cell? ⟨w.heap.size, 2, none⟩ = some (.int .i64 c.to) := by simp only [World.cell?, hb0]; rfl
    have ca3 : wz.cell? ⟨w.heap.size, 3, none⟩ = some (strV c.b) := by simp only [World.cell?, hb0]; rfl
    clear hb0
    generalize hr : c.k.toNat % 8 = mm at hr8
    have hm : mm = 0 ∨ mm = 1 ∨ mm = 2 ∨ mm = 3 ∨ mm = 4 ∨ mm = 5 ∨ mm = 6 ∨ mm = 7 := by omega
    subst hr8
    rcases hm with rfl | rfl | rfl | rfl | rfl | rfl | rfl | rfl
    · have HOP := Lib.hid (rsend_at T m R ⟨c.i, c.to, c.b⟩ wz hnz (by have := HOK.out.few; omega) HOK.out.way)
      have HD := Lib.hid (show R.has c = _ from has_0 R c (by omega))
      clear hr
      go_wp2_with fail
      refine HOP.out.mono ?_
      rintro e v ⟨rfl, T', hn, ht⟩
      have HN := Lib.hid hn
      have HT := Lib.hid ht
      clear hn ht HOP
      go_wp2_with fail
      go_meet
      rw [HD.out]
      exact ⟨T', rfl, rfl, (rkept HT.out HSL.out (by omega) HZ.out.2.2.2).trans HZ.out.2.2.1, (rkept HT.out HSL.out (by omega) (by have := HZ.out.2.2.2; omega)).trans HZ.out.2.1, HN.out, (RTurn.grown HSL.out HGZ.out).trans HT.out, rnotin HT.out HSL.out (by omega) (by have := HZ.out.2.2.2; omega)⟩
    · have HOP := Lib.hid (rsend_at T m R ⟨c.i, c.to, c.b⟩ wz hnz (by have := HOK.out.few; omega) HOK.out.way)
      have HD := Lib.hid (show R.has c = _ from has_0 R c (by omega))
      clear hr
      go_wp2_with fail
      refine HOP.out.mono ?_
      rintro e v ⟨rfl, T', hn, ht⟩
      have HN := Lib.hid hn
      have HT := Lib.hid ht
      clear hn ht HOP
      go_wp2_with fail
      go_meet
      rw [HD.out]
      exact ⟨T', rfl, rfl, (rkept HT.out HSL.out (by omega) HZ.out.2.2.2).trans HZ.out.2.2.1, (rkept HT.out HSL.out (by omega) (by have := HZ.out.2.2.2; omega)).trans HZ.out.2.1, HN.out, (RTurn.grown HSL.out HGZ.out).trans HT.out, rnotin HT.out HSL.out (by omega) (by have := HZ.out.2.2.2; omega)⟩
    · have HOP := Lib.hid (rdeliver_at T m R c.i wz hnz HOK.out)
      have HD := Lib.hid (show R.has c = _ from has_2 R c hr)
      clear hr
      go_wp2_with fail
      refine HOP.out.mono ?_
      rintro e v ⟨rfl, T', hn, ht⟩
      have HN := Lib.hid hn
      have HT := Lib.hid ht
      clear hn ht HOP
      go_wp2_with fail
      go_meet
      rw [HD.out]
      exact ⟨T', rfl, rfl, (rkept HT.out HSL.out (by omega) HZ.out.2.2.2).trans HZ.out.2.2.1, (rkept HT.out HSL.out (by omega) (by have := HZ.out.2.2.2; omega)).trans HZ.out.2.1, HN.out, (RTurn.grown HSL.out HGZ.out).trans HT.out, rnotin HT.out HSL.out (by omega) (by have := HZ.out.2.2.2; omega)⟩
    · have HOP := Lib.hid (rdrop_at T m R c.i wz hnz HOK.out.way)
      have HD := Lib.hid (show R.has c = _ from has_3 R c hr)
      clear hr
      go_wp2_with fail
      refine HOP.out.mono ?_
      rintro e v ⟨rfl, T', hn, ht⟩
      have HN := Lib.hid hn
      have HT := Lib.hid ht
      clear hn ht HOP
      go_wp2_with fail
      go_meet
      rw [HD.out]
      exact ⟨T', rfl, rfl, (rkept HT.out HSL.out (by omega) HZ.out.2.2.2).trans HZ.out.2.2.1, (rkept HT.out HSL.out (by omega) (by have := HZ.out.2.2.2; omega)).trans HZ.out.2.1, HN.out, (RTurn.grown HSL.out HGZ.out).trans HT.out, rnotin HT.out HSL.out (by omega) (by have := HZ.out.2.2.2; omega)⟩
    · have HOP := Lib.hid (rdouble_at T m R c.i wz hnz HOK.out)
      have HD := Lib.hid (show R.has c = _ from has_4 R c hr)
      clear hr
      go_wp2_with fail
      refine HOP.out.mono ?_
      rintro e v ⟨rfl, T', hn, ht⟩
      have HN := Lib.hid hn
      have HT := Lib.hid ht
      clear hn ht HOP
      go_wp2_with fail
      go_meet
      rw [HD.out]
      exact ⟨T', rfl, rfl, (rkept HT.out HSL.out (by omega) HZ.out.2.2.2).trans HZ.out.2.2.1, (rkept HT.out HSL.out (by omega) (by have := HZ.out.2.2.2; omega)).trans HZ.out.2.1, HN.out, (RTurn.grown HSL.out HGZ.out).trans HT.out, rnotin HT.out HSL.out (by omega) (by have := HZ.out.2.2.2; omega)⟩
    · have HOP := Lib.hid (rdelay_at T m R c.i wz hnz HOK.out.way)
      have HD := Lib.hid (show R.has c = _ from has_5 R c hr)
      clear hr
      go_wp2_with fail
      refine HOP.out.mono ?_
      rintro e v ⟨rfl, T', hn, ht⟩
      have HN := Lib.hid hn
      have HT := Lib.hid ht
      clear hn ht HOP
      go_wp2_with fail
      go_meet
      rw [HD.out]
      exact ⟨T', rfl, rfl, (rkept HT.out HSL.out (by omega) HZ.out.2.2.2).trans HZ.out.2.2.1, (rkept HT.out HSL.out (by omega) (by have := HZ.out.2.2.2; omega)).trans HZ.out.2.1, HN.out, (RTurn.grown HSL.out HGZ.out).trans HT.out, rnotin HT.out HSL.out (by omega) (by have := HZ.out.2.2.2; omega)⟩
    · obtain ⟨xb, va, V, hIz⟩ := hnz
      have HOP := Lib.hid (rreceive_at T m xb va V R c.to wz hIz HOK.out)
      have HD := Lib.hid (show R.has c = _ from has_6 R c hr)
      clear hr hIz
      generalize R.receive c.to = rc at HOP HD
      obtain ⟨op, R'⟩ := rc
      have HLT2 := Lib.hid HZ.out.2.2.2
      go_wp2_with fail
      refine HOP.out.mono ?_
      rintro e v ⟨rfl, T', V', hn, ht⟩
      have b2 := (rkept ht HSL.out (by omega) HZ.out.2.2.2).trans HZ.out.2.2.1
      have b1 := (rkept ht HSL.out (by omega : w.heap.size ≤ w.heap.size + 1) (by have := HZ.out.2.2.2; omega)).trans HZ.out.2.1
      have d0 : v.cell? ⟨w.heap.size + 1 + 1, 0, none⟩ = some (.int .i64 0) := by simp only [World.cell?, b2]; rfl
      have d1 : v.cell? ⟨w.heap.size + 1 + 1, 1, none⟩ = some (.int .i64 0) := by simp only [World.cell?, b2]; rfl
      have d2 : v.cell? ⟨w.heap.size + 1 + 1, 2, none⟩ = some (.string ⟨#[]⟩) := by simp only [World.cell?, b2]; rfl
      have y0 : v.frozen? ⟨w.heap.size + 1 + 1, 0, none⟩ = false := by simp only [World.frozen?, b2]; simp
      have y1 : v.frozen? ⟨w.heap.size + 1 + 1, 1, none⟩ = false := by simp only [World.frozen?, b2]; simp
      have y2 : v.frozen? ⟨w.heap.size + 1 + 1, 2, none⟩ = false := by simp only [World.frozen?, b2]; simp
      generalize hkk : (op.getD ⟨0, 0, []⟩) = k
      have f1 := heap_setCell_same _ (w.heap.size + 1 + 1) 0 _ _ (.int .i64 k.src) b2
      have f2 := heap_setCell_same _ (w.heap.size + 1 + 1) 1 _ _ (.int .i64 k.to) f1
      have f3 := heap_setCell_same _ (w.heap.size + 1 + 1) 2 _ _ (strV k.b) f2
      have ho : CellOff (fun x _ => x = w.heap.size + 1 + 1) v (((v.setCell ⟨w.heap.size + 1 + 1, 0, none⟩ (.int .i64 k.src)).setCell ⟨w.heap.size + 1 + 1, 1, none⟩ (.int .i64 k.to)).setCell ⟨w.heap.size + 1 + 1, 2, none⟩ (strV k.b)) :=
        (((CellOff.set v (w.heap.size + 1 + 1) 0 _).mono (fun _ _ _ h => h.1)).trans ((CellOff.set _ (w.heap.size + 1 + 1) 1 _).mono (fun _ _ _ h => h.1))).trans ((CellOff.set _ (w.heap.size + 1 + 1) 2 _).mono (fun _ _ _ h => h.1))
      have ho2 : Off (fun b => b = w.heap.size + 1 + 1) v (((v.setCell ⟨w.heap.size + 1 + 1, 0, none⟩ (.int .i64 k.src)).setCell ⟨w.heap.size + 1 + 1, 1, none⟩ (.int .i64 k.to)).setCell ⟨w.heap.size + 1 + 1, 2, none⟩ (strV k.b)) := (Off.cells ho).mono (fun b _ hb => hb.elim (fun _ e => e))
      have hT2 : ¬ T' (w.heap.size + 1 + 1) := rnotin ht HSL.out (by omega) HZ.out.2.2.2
      have HFIN : Hid ((((v.setCell ⟨w.heap.size + 1 + 1, 0, none⟩ (.int .i64 k.src)).setCell ⟨w.heap.size + 1 + 1, 1, none⟩ (.int .i64 k.to)).setCell ⟨w.heap.size + 1 + 1, 2, none⟩ (strV k.b)).heap[w.heap.size + 1 + 1]? = some (.cells #[.int .i64 k.src, .int .i64 k.to, strV k.b] 48) ∧ (((v.setCell ⟨w.heap.size + 1 + 1, 0, none⟩ (.int .i64 k.src)).setCell ⟨w.heap.size + 1 + 1, 1, none⟩ (.int .i64 k.to)).setCell ⟨w.heap.size + 1 + 1, 2, none⟩ (strV k.b)).heap[w.heap.size + 1]? = some (.cells #[.int .i64 0, .int .i64 0, .string ⟨#[]⟩] 48) ∧
        RefAt (((v.setCell ⟨w.heap.size + 1 + 1, 0, none⟩ (.int .i64 k.src)).setCell ⟨w.heap.size + 1 + 1, 1, none⟩ (.int .i64 k.to)).setCell ⟨w.heap.size + 1 + 1, 2, none⟩ (strV k.b)) T' m R' ∧ RTurn T T' w (((v.setCell ⟨w.heap.size + 1 + 1, 0, none⟩ (.int .i64 k.src)).setCell ⟨w.heap.size + 1 + 1, 1, none⟩ (.int .i64 k.to)).setCell ⟨w.heap.size + 1 + 1, 2, none⟩ (strV k.b)) ∧ ¬ T' (w.heap.size + 1)) := by
        have hn' : RefAt (((v.setCell ⟨w.heap.size + 1 + 1, 0, none⟩ (.int .i64 k.src)).setCell ⟨w.heap.size + 1 + 1, 1, none⟩ (.int .i64 k.to)).setCell ⟨w.heap.size + 1 + 1, 2, none⟩ (strV k.b)) T' m R' := ⟨xb, va, V', hn.other ho2 (fun b hb e => hT2 (e ▸ hb))⟩
        have t1 := (RTurn.grown HSL.out HGZ.out).trans ht
        refine ⟨f3, (ho2.block _ (Array.getElem?_eq_some_iff.1 b1).1 (by omega)).trans b1, hn', ⟨⟨ho2.os.trans t1.off.os, ho2.tape.trans t1.off.tape, ho2.output.trans t1.off.output, Nat.le_trans t1.off.size ho2.size, fun b hb hs => ?_⟩, t1.sub, hn'.lt⟩, rnotin ht HSL.out (by omega) (by have := HZ.out.2.2.2; omega)⟩
        exact (ho2.block b (Nat.lt_of_lt_of_le hb t1.off.size) (by omega)).trans (t1.off.block b hb hs)
      clear hn ht b1 b2 f1 f2 f3 ho ho2 hT2 HOP
      have HKK := Lib.hid hkk
      clear hkk
      go_wp2_with fail
      go_meet
      rw [HD.out]
      rw [HKK.out]
      exact ⟨T', rfl, rfl, HFIN.out.1, HFIN.out.2.1, HFIN.out.2.2.1, HFIN.out.2.2.2.1, HFIN.out.2.2.2.2⟩
    · have HOP := Lib.hid (rclear_at T m R c.to wz hnz HOK.out)
      have HD := Lib.hid (show R.has c = _ from has_7 R c hr)
      clear hr
      go_wp2_with fail
      refine HOP.out.mono ?_
      rintro e v ⟨rfl, T', hn, ht⟩
      have HN := Lib.hid hn
      have HT := Lib.hid ht
      clear hn ht HOP
      go_wp2_with fail
      go_meet
      rw [HD.out]
      exact ⟨T', rfl, rfl, (rkept HT.out HSL.out (by omega) HZ.out.2.2.2).trans HZ.out.2.2.1, (rkept HT.out HSL.out (by omega) (by have := HZ.out.2.2.2; omega)).trans HZ.out.2.1, HN.out, (RTurn.grown HSL.out HGZ.out).trans HT.out, rnotin HT.out HSL.out (by omega) (by have := HZ.out.2.2.2; omega)⟩
  case rest =>
    obtain ⟨T', rfl, rfl, hb2, hb1, hn, ht, hnS⟩ := hcut
    generalize hkk : ((R.has c).1.2.getD ⟨0, 0, []⟩) = p at hb2 ⊢
    have HKP := Lib.hid hkk
    clear hkk
    have hb2' : wc.drew.heap[w.heap.size + 1 + 1]? = _ := hb2
    have hb1' : wc.drew.heap[w.heap.size + 1]? = _ := hb1
    have hq : ∀ j, wc.drew.cell? ⟨w.heap.size + 1, j, none⟩ = #[Value.int .i64 0, .int .i64 0, .string ⟨#[]⟩][j]? := fun j => by simp only [World.cell?, hb1']; rfl
    have hy : ∀ j, wc.drew.frozen? ⟨w.heap.size + 1, j, none⟩ = false := fun j => by simp only [World.frozen?, hb1']; simp
    have hp : ∀ j, wc.drew.cell? ⟨w.heap.size + 1 + 1, j, none⟩ = #[Value.int .i64 p.src, .int .i64 p.to, strV p.b][j]? := fun j => by simp only [World.cell?, hb2']; rfl
    have f1 := heap_setCell_same _ (w.heap.size + 1) 0 _ _ (.int .i64 p.src) hb1'
    have f2 := heap_setCell_same _ (w.heap.size + 1) 1 _ _ (.int .i64 p.to) f1
    have f3 := heap_setCell_same _ (w.heap.size + 1) 2 _ _ (strV p.b) f2
    have HRES := Lib.hid f3
    have ho : CellOff (fun x _ => x = w.heap.size + 1) wc.drew (((wc.drew.setCell ⟨w.heap.size + 1, 0, none⟩ (.int .i64 p.src)).setCell ⟨w.heap.size + 1, 1, none⟩ (.int .i64 p.to)).setCell ⟨w.heap.size + 1, 2, none⟩ (strV p.b)) :=
      (((CellOff.set wc.drew (w.heap.size + 1) 0 _).mono (fun _ _ _ h => h.1)).trans ((CellOff.set _ (w.heap.size + 1) 1 _).mono (fun _ _ _ h => h.1))).trans ((CellOff.set _ (w.heap.size + 1) 2 _).mono (fun _ _ _ h => h.1))
    have ho2 : Off (fun b => b = w.heap.size + 1) wc.drew (((wc.drew.setCell ⟨w.heap.size + 1, 0, none⟩ (.int .i64 p.src)).setCell ⟨w.heap.size + 1, 1, none⟩ (.int .i64 p.to)).setCell ⟨w.heap.size + 1, 2, none⟩ (strV p.b)) := (Off.cells ho).mono (fun b _ hb => hb.elim (fun _ e => e))
    have HFIN : Hid (∃ T', RefAt (((wc.drew.setCell ⟨w.heap.size + 1, 0, none⟩ (.int .i64 p.src)).setCell ⟨w.heap.size + 1, 1, none⟩ (.int .i64 p.to)).setCell ⟨w.heap.size + 1, 2, none⟩ (strV p.b)) T' m (R.has c).2 ∧ RTurn T T' w (((wc.drew.setCell ⟨w.heap.size + 1, 0, none⟩ (.int .i64 p.src)).setCell ⟨w.heap.size + 1, 1, none⟩ (.int .i64 p.to)).setCell ⟨w.heap.size + 1, 2, none⟩ (strV p.b))) := by
      have hd := drew_grown wc none
      have t1 := ht.trans (RTurn.grown ht.lt hd)
      have hn' := (hn.grown hd).other ho2 (fun b hb e => hnS (e ▸ hb))
      refine ⟨T', hn', ⟨⟨ho2.os.trans t1.off.os, ho2.tape.trans t1.off.tape, ho2.output.trans t1.off.output, Nat.le_trans t1.off.size ho2.size, fun b hb hs => ?_⟩, t1.sub, hn'.lt⟩⟩
      exact (ho2.block b (Nat.lt_of_lt_of_le hb t1.off.size) (by omega)).trans (t1.off.block b hb hs)
    have P0 : Hid (wc.drew.cell? ⟨w.heap.size + 1 + 1, 0, none⟩ = some (.int .i64 p.src)) := hp 0
    have P1 : Hid (wc.drew.cell? ⟨w.heap.size + 1 + 1, 1, none⟩ = some (.int .i64 p.to)) := hp 1
    have P2 : Hid (wc.drew.cell? ⟨w.heap.size + 1 + 1, 2, none⟩ = some (strV p.b)) := hp 2
    have Q : Hid (wc.cell? ⟨w.heap.size + 1, 0, none⟩ = some (.int .i64 0) ∧ wc.cell? ⟨w.heap.size + 1, 1, none⟩ = some (.int .i64 0) ∧ wc.cell? ⟨w.heap.size + 1, 2, none⟩ = some (.string ⟨#[]⟩) ∧ wc.frozen? ⟨w.heap.size + 1, 0, none⟩ = false ∧ wc.frozen? ⟨w.heap.size + 1, 1, none⟩ = false ∧ wc.frozen? ⟨w.heap.size + 1, 2, none⟩ = false) := ⟨hq 0, hq 1, hq 2, hy 0, hy 1, hy 2⟩
    have hkp : ∀ (j : Nat) u, wc.drew.cell? ⟨w.heap.size + 1 + 1, j, none⟩ = some u → (((wc.drew.setCell ⟨w.heap.size + 1, 0, none⟩ (.int .i64 p.src)).setCell ⟨w.heap.size + 1, 1, none⟩ (.int .i64 p.to)).setCell ⟨w.heap.size + 1, 2, none⟩ (strV p.b)).cell? ⟨w.heap.size + 1 + 1, j, none⟩ = some u := fun j u hu => (ho.cell _ j (World.block_lt_of_cell? _ _ hu) (show ¬ (w.heap.size + 1 + 1 = w.heap.size + 1) by omega)).trans hu
    have HKEEP := Lib.hid (And.intro (hkp 0 _ (hp 0)) (And.intro (hkp 1 _ (hp 1)) (hkp 2 _ (hp 2))))
    clear hb2' hb1' hb1 hb2 hq hy hp hkp f1 f2 f3 ho ho2 hn ht hnS
    generalize hgg2 : w.heap.size + 1 + 1 = g2 at P0 P1 P2 HKEEP ⊢
    clear hgg2
    go_upto_region 18 with fail
    refine wp_region_noPanic ?_
    refine wp_region_held_drew (S := fun w' => w'.cell? ⟨g2, 0, none⟩ = some (.int .i64 p.src) ∧ w'.cell? ⟨g2, 1, none⟩ = some (.int .i64 p.to) ∧ w'.cell? ⟨g2, 2, none⟩ = some (strV p.b)) (by kernel_rfl) ?hSr (fun hHeld => ?_)
    case hSr => exact ⟨P0.out, P1.out, P2.out⟩
    refine wpAnyH_take (i := 0) (oi := ⟨_, _, _, _, _, _⟩) (v := ?vr0) rfl (by kernel_rfl) (by kernel_rfl) (by kernel_rfl) (fun _ _ _ h => h) (Or.inl ⟨by rfl, ?hyr0⟩) hHeld ?_
    case hyr0 => (intro wS hSw; (try dsimp only at hSw); go_simp; (first | done | with_reducible rfl))
    try simp only [Act.put, List.setIfInBounds_toArray, List.set_cons_zero, List.set_cons_succ]
    refine wpAnyH_take (i := 1) (oi := ⟨_, _, _, _, _, _⟩) (v := ?vr1) rfl (by kernel_rfl) (by kernel_rfl) (by kernel_rfl) (fun _ _ _ h => h) (Or.inl ⟨by rfl, ?hyr1⟩) hHeld ?_
    case hyr1 => (intro wS hSw; (try dsimp only at hSw); go_simp; (first | done | with_reducible rfl))
    try simp only [Act.put, List.setIfInBounds_toArray, List.set_cons_zero, List.set_cons_succ]
    refine wpAnyH_take (i := 2) (oi := ⟨_, _, _, _, _, _⟩) (v := ?vr2) rfl (by kernel_rfl) (by kernel_rfl) (by kernel_rfl) (fun _ _ _ h => h) (Or.inl ⟨by rfl, ?hyr2⟩) hHeld ?_
    case hyr2 => (intro wS hSw; (try dsimp only at hSw); go_simp; (first | done | with_reducible rfl))
    try simp only [Act.put, List.setIfInBounds_toArray, List.set_cons_zero, List.set_cons_succ]
    refine wpAnyH_take (i := 3) (oi := ⟨_, _, _, _, _, _⟩) (v := ?vr3) rfl (by kernel_rfl) (by kernel_rfl) (by kernel_rfl) (fun _ _ _ h => h) (Or.inl ⟨by rfl, ?hyr3⟩) hHeld ?_
    case hyr3 => (intro wS hSw; (try dsimp only at hSw); go_simp; (first | done | with_reducible rfl))
    try simp only [Act.put, List.setIfInBounds_toArray, List.set_cons_zero, List.set_cons_succ]
    refine wpAnyH_ready (rs := [4]) (by kernel_rfl) (by simp) ?_
    refine AllReadyH.cons (o := ⟨_, _, _, _, _, _⟩) rfl (fun K hK => ?_) AllReadyH.nil
    obtain ⟨q0, q1, q2, y0, y1, y2⟩ := Q.out
    go_simp
    clear q0 q1 q2 y0 y1 y2
    refine hK.out _ _ ?kr4 (fun hNew => ?_)
    case kr4 => (try dsimp only); exact HKEEP.out
    clear hK K hHeld
    have hHeld := hNew
    clear hNew
    try simp only [Act.put, List.setIfInBounds_toArray, List.set_cons_zero, List.set_cons_succ]
    refine wpAnyH_take (i := 5) (oi := ⟨_, _, _, _, _, _⟩) (v := ?vr5) rfl (by kernel_rfl) (by kernel_rfl) (by kernel_rfl) (fun _ _ _ h => h) (Or.inl ⟨by rfl, ?hyr5⟩) hHeld ?_
    case hyr5 => (intro wS hSw; (try dsimp only at hSw); go_simp; (first | done | with_reducible rfl))
    try simp only [Act.put, List.setIfInBounds_toArray, List.set_cons_zero, List.set_cons_succ]
    refine wpAnyH_done (by kernel_rfl) ?_ _
    refine NoPanic.normal ?_
    clear hHeld
    go_wp2_with fail
    (try simp only [Exit.inBlock, Exit.then])
    refine bodyPost_ret (results_tmp_row_tmp rfl _ _ (w.heap.size + 1) _ _ _ _ rfl HRES.out Try.underlying48 rfl (by kernel_rfl)) rfl ?_
    rw [HKP.out]
    exact ⟨rfl, HFIN.out⟩
end Go.Proofs.Ytonfpifikblnjaa.Net
