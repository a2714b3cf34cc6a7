/- Something is done to a net: the law's helper does. -/
import Derived.Deep.CutRange
import Derived.Deep.CutBlock
import Derived.Test.YtonfpifikblnjaaNetWorks
namespace Go.Proofs.Ytonfpifikblnjaa.Net
open Go.RowKit

def Nt.does (D : Nt) (c : ActV) : (Int × Option Pk) × Nt :=
  match c.k.toNat % 8 with
  | 2 => (((D.deliver c.i).1, none), (D.deliver c.i).2)
  | 3 => (((D.drop c.i).1, none), (D.drop c.i).2)
  | 4 => (((D.double c.i).1, none), (D.double c.i).2)
  | 5 => (((D.delay c.i).1, none), (D.delay c.i).2)
  | 6 => ((0, (D.receive c.to).1), (D.receive c.to).2)
  | 7 => ((0, none), D.clear c.to)
  | _ => (((D.send ⟨c.i, c.to, c.b⟩).1, none), (D.send ⟨c.i, c.to, c.b⟩).2)
section
variable (D : Nt) (c : ActV)
theorem does_2 (h : c.k.toNat % 8 = 2) : D.does c = (((D.deliver c.i).1, none), (D.deliver c.i).2) := by unfold Nt.does; rw [h]; rfl
theorem does_3 (h : c.k.toNat % 8 = 3) : D.does c = (((D.drop c.i).1, none), (D.drop c.i).2) := by unfold Nt.does; rw [h]; rfl
theorem does_4 (h : c.k.toNat % 8 = 4) : D.does c = (((D.double c.i).1, none), (D.double c.i).2) := by unfold Nt.does; rw [h]; rfl
theorem does_5 (h : c.k.toNat % 8 = 5) : D.does c = (((D.delay c.i).1, none), (D.delay c.i).2) := by unfold Nt.does; rw [h]; rfl
theorem does_6 (h : c.k.toNat % 8 = 6) : D.does c = ((0, (D.receive c.to).1), (D.receive c.to).2) := by unfold Nt.does; rw [h]; rfl
theorem does_7 (h : c.k.toNat % 8 = 7) : D.does c = ((0, none), D.clear c.to) := by unfold Nt.does; rw [h]; rfl
theorem does_0 (h : c.k.toNat % 8 = 0 ∨ c.k.toNat % 8 = 1) : D.does c = (((D.send ⟨c.i, c.to, c.b⟩).1, none), (D.send ⟨c.i, c.to, c.b⟩).2) := by
  unfold Nt.does
  rcases h with h | h <;> rw [h] <;> rfl
end
theorem nxt_num (k : Nat) (h : k < 1000000) : Value.int .i64 (wrap64 ((k : Int) + 1)) = Value.int .i64 ((k + 1 : Nat) : Int) := by
  congr 1
  unfold wrap64
  omega
theorem nxt_meas (M k : Nat) (h : k < M) (h2 : k < 1000000) : M - (intOf (Value.int .i64 (wrap64 ((k : Int) + 1)))).toNat < M - (intOf (Value.int .i64 (k : Int))).toNat := by
  rw [nxt_num k h2]
  show M - ((k + 1 : Nat) : Int).toNat < M - ((k : Nat) : Int).toNat
  rw [Int.toNat_natCast, Int.toNat_natCast]
  omega
/-- Bytes of a block may be read and written. -/
def XorAt (w : World) (g n : Nat) : Prop := ∀ j, j < n → ∃ z : Int, w.cell? ⟨g, j, none⟩ = some (.int .u8 z) ∧ w.frozen? ⟨g, j, none⟩ = false
theorem xor_of {w : World} {g n : Nat} (h : ∀ j, j < n → ∃ z : Int, w.cell? ⟨g, j, none⟩ = some (.int .u8 z) ∧ w.frozen? ⟨g, j, none⟩ = false) : XorAt w g n := h
theorem XorAt.set {w : World} {g n : Nat} (h : XorAt w g n) (i : Nat) (z : Int) : XorAt (w.setCell ⟨g, i, none⟩ (.int .u8 z)) g n := by
  intro j hj
  obtain ⟨y, hy, hf⟩ := h j hj
  by_cases e : j = i
  · subst e
    exact ⟨z, World.cell?_setCell_same _ _ _ hy, by rw [World.frozen?_setCell]; exact hf⟩
  · refine ⟨y, ?_, by rw [World.frozen?_setCell]; exact hf⟩
    rw [World.cell?_setCell_other _ _ _ _ (by first | (simp; done) | (simp; omega))]
    exact hy
theorem kept {S S' : Nat → Prop} {w v : World} {B b : Nat} (ht : Turn S S' w v) (hS : ∀ b, S b → b < B) (hb : B ≤ b) (hlt : b < w.heap.size) : v.heap[b]? = w.heap[b]? := ht.off.block b hlt (fun hs => by have := hS b hs; omega)
theorem notin {S S' : Nat → Prop} {w v : World} {B b : Nat} (ht : Turn S S' w v) (hS : ∀ b, S b → b < B) (hb : B ≤ b) (hlt : b < w.heap.size) : ¬ S' b := fun hs => by
  rcases ht.sub b hs with e | e
  · have := hS b e; omega
  · omega
theorem results_tmp_row_tmp {P : Program} {fn : Func} {s p u : Tmp} {ty : TypeId} (h : fn.results = #[.tmp s, .cell p ty, .tmp u]) (tmps : Array Value) (w : World) (g : Nat) (t : TypeId) (cs : Array Value) (fr : Nat × Nat) (d : TypeDesc)
    (hp : tmps.getD p undef = .pointer (some ⟨g, 0, none⟩)) (hg : w.heap[g]? = some (.cells cs t fr)) (hu : P.underlying ty = some d) (hd : (match d with | .struct _ | .array _ _ => true | _ => false) = true) (hi : (P.info? ty).map (·.size) = some cs.size) :
    (results fn tmps).run P w = .ok (.tuple #[tmps.getD s undef, .agg cs, tmps.getD u undef]) w := by
  have hp' : tmps[p]?.getD undef = .pointer (some ⟨g, 0, none⟩) := by simpa using hp
  simp only [results, h]
  simp [Result.andThen, hp', asAddr, run_loadVar_row w g t ty cs fr d hg hu hd hi]

set_option maxRecDepth 100000 in
set_option maxHeartbeats 8000000 in
theorem does_at (S : Nat → Prop) (nb : Nat) (D : Nt) (c : ActV) (w : World) (h : NetAt w S nb D) (hl : c.b.length ≤ 1000) :
    Calls Try.prog 18 #[.pointer (some ⟨nb, 0, none⟩), .agg #[.int .u8 (c.k.toNat : Int), .int .i64 c.i, .int .i64 c.to, strV c.b]] w fun e w' => ∃ A cap,
      e = .returned (.tuple #[.int .i64 (D.does c).1.1, .agg #[.int .i64 ((D.does c).1.2.getD ⟨0, 0, []⟩).src, .int .i64 ((D.does c).1.2.getD ⟨0, 0, []⟩).to, .slice A ((D.does c).1.2.getD ⟨0, 0, []⟩).b.length cap], .bool (D.does c).1.2.isSome]) ∧
      Bytes w' (fun _ => True) A ((D.does c).1.2.getD ⟨0, 0, []⟩).b ∧ ∃ S', NetAt w' S' nb (D.does c).2 ∧ Turn S S' w w' := by
  -- the three new blocks
  obtain ⟨wz, hwz⟩ : ∃ wz, wz = ((w.alloc (.cells #[.int .u8 (c.k.toNat : Int), .int .i64 c.i, .int .i64 c.to, strV c.b] 33)).alloc (.cells #[.int .i64 0, .int .i64 0, .slice none 0 0] 37)).alloc (.cells #[.int .i64 0, .int .i64 0, .slice none 0 0] 37) := ⟨_, rfl⟩
  have hz : wz.heap[w.heap.size]? = some (.cells #[.int .u8 (c.k.toNat : Int), .int .i64 c.i, .int .i64 c.to, strV c.b] 33) ∧ wz.heap[w.heap.size + 1]? = some (.cells #[.int .i64 0, .int .i64 0, .slice none 0 0] 37) ∧ wz.heap[w.heap.size + 1 + 1]? = some (.cells #[.int .i64 0, .int .i64 0, .slice none 0 0] 37) ∧ w.heap.size + 1 + 1 < wz.heap.size := by
    have s1 : (w.alloc (.cells #[.int .u8 (c.k.toNat : Int), .int .i64 c.i, .int .i64 c.to, strV c.b] 33)).heap.size = w.heap.size + 1 := World.size_alloc ..
    have s2 : ((w.alloc (.cells #[.int .u8 (c.k.toNat : Int), .int .i64 c.i, .int .i64 c.to, strV c.b] 33)).alloc (.cells #[.int .i64 0, .int .i64 0, .slice none 0 0] 37)).heap.size = w.heap.size + 1 + 1 := by rw [World.size_alloc, s1]
    have b0 := (MapKept.heap_alloc w (.cells #[.int .u8 (c.k.toNat : Int), .int .i64 c.i, .int .i64 c.to, strV c.b] 33)).1
    have b1 := (MapKept.heap_alloc (w.alloc (.cells #[.int .u8 (c.k.toNat : Int), .int .i64 c.i, .int .i64 c.to, strV c.b] 33)) (.cells #[.int .i64 0, .int .i64 0, .slice none 0 0] 37)).1
    have b2 := (MapKept.heap_alloc ((w.alloc (.cells #[.int .u8 (c.k.toNat : Int), .int .i64 c.i, .int .i64 c.to, strV c.b] 33)).alloc (.cells #[.int .i64 0, .int .i64 0, .slice none 0 0] 37)) (.cells #[.int .i64 0, .int .i64 0, .slice none 0 0] 37)).1
    have g1 := World.grownBy_alloc (w.alloc (.cells #[.int .u8 (c.k.toNat : Int), .int .i64 c.i, .int .i64 c.to, strV c.b] 33)) (.cells #[.int .i64 0, .int .i64 0, .slice none 0 0] 37) none
    have g2 := World.grownBy_alloc ((w.alloc (.cells #[.int .u8 (c.k.toNat : Int), .int .i64 c.i, .int .i64 c.to, strV c.b] 33)).alloc (.cells #[.int .i64 0, .int .i64 0, .slice none 0 0] 37)) (.cells #[.int .i64 0, .int .i64 0, .slice none 0 0] 37) none
    rw [s1] at b1
    rw [s2] at b2
    rw [hwz]
    exact ⟨(g2.block _ (by omega) (by simp)).trans ((g1.block _ (by omega) (by simp)).trans b0), (g2.block _ (by omega) (by simp)).trans b1, b2, by rw [World.size_alloc, s2]; omega⟩
  have hgz : w.grownBy wz none := by
    rw [hwz]
    exact ((World.grownBy_alloc w _ none).andThen (World.grownBy_alloc _ _ none) (fun _ hj => .inr hj)).andThen (World.grownBy_alloc _ _ none) (fun _ hj => .inr hj)
  have hnz := h.grown hgz
  have HSL := Lib.hid h.lt
  have HZ := Lib.hid hz
  have HGZ := Lib.hid hgz
  have HWZ := Lib.hid hwz
  have HNZ := Lib.hid hnz
  clear h hz hgz hwz hnz
  have hl8 : c.b.length ≤ 1000 := hl
  go_enter Try.func18, Try.ntmps18
  go_upto_block 0 with fail
  rw [← HWZ.out]
  generalize hk8 : ((c.k.toNat : Int) % 8) = r
  have hr8 : r = ((c.k.toNat % 8 : Nat) : Int) := by omega
  clear hk8
  go_cut [8, 9] from 10 to 77 (fun s8 s9 wx => ∃ A cap S', s9 = .int .i64 (D.does c).1.1 ∧ s8 = .bool (D.does c).1.2.isSome ∧
    wx.heap[w.heap.size + 1 + 1]? = some (.cells #[.int .i64 ((D.does c).1.2.getD ⟨0, 0, []⟩).src, .int .i64 ((D.does c).1.2.getD ⟨0, 0, []⟩).to, .slice A ((D.does c).1.2.getD ⟨0, 0, []⟩).b.length cap] 37) ∧
    wx.heap[w.heap.size + 1]? = some (.cells #[.int .i64 0, .int .i64 0, .slice none 0 0] 37) ∧ Bytes wx (fun _ => True) A ((D.does c).1.2.getD ⟨0, 0, []⟩).b ∧ NetAt wx S' nb (D.does c).2 ∧ Turn S S' w wx ∧ ¬ S' (w.heap.size + 1))
  case first =>
    have hnz := HNZ.out
    have hb0 := HZ.out.1
    have ca1 : wz.cell? ⟨w.heap.size, 1, none⟩ = some (.int .i64 c.i) := by simp only [World.cell?, hb0]; rfl
    have ca2 : wz.cell? ⟨w.heap.size, 2, none⟩ = some (.int .i64 c.to) := by simp only [World.cell?, hb0]; rfl
    have ca3 : wz.cell? ⟨w.heap.size, 3, none⟩ = some (strV c.b) := by simp only [World.cell?, hb0]; rfl
    clear hb0 hl8
    generalize hr : c.k.toNat % 8 = m at hr8
    have hm : m = 0 ∨ m = 1 ∨ m = 2 ∨ m = 3 ∨ m = 4 ∨ m = 5 ∨ m = 6 ∨ m = 7 := by omega
    subst hr8
    rcases hm with rfl | rfl | rfl | rfl | rfl | rfl | rfl | rfl
    · have HD := Lib.hid (show D.does c = _ from does_0 D c (by omega))
      clear hr
      obtain ⟨WC, capb, hcv, hrg, hty, hfr, hgc, hsc⟩ := run_bytes_new wz c.b
      have hby : RowR WC (some ⟨wz.heap.size, 0, none⟩) capb c.b := RowR.of_bytes _ (S := fun _ => True) (.inr ⟨_, 0, rfl, trivial, hty, hrg⟩)
      have HOP := Lib.hid (send_at S nb D ⟨c.i, c.to, c.b⟩ (some ⟨wz.heap.size, 0, none⟩) capb WC (hnz.grown hgc) hby hl)
      have d1 := hgc.cell ca1 (by simp)
      have d2 := hgc.cell ca2 (by simp)
      have HB := Lib.hid (And.intro hrg (And.intro hty hfr))
      have HGC := Lib.hid hgc
      clear hrg hty hfr hgc hby
      generalize D.send ⟨c.i, c.to, c.b⟩ = sd at HOP HD
      obtain ⟨code, D'⟩ := sd
      go_wp2_with fail
      refine HOP.out.mono ?_
      rintro e v ⟨rfl, S', hn, ht⟩
      have hlt0 : wz.heap.size < WC.heap.size := HB.out.2.1.lt
      have hv := ht.off.u8 wz.heap.size HB.out.2.1
      have hnS : ¬ S' wz.heap.size := fun hs => by
        rcases ht.sub _ hs with e | e
        · have := HSL.out _ e; have := HGZ.out.size; omega
        · omega
      have HLOOP : Hid (XorAt v wz.heap.size c.b.length) := xor_of (fun j hj => by
        have hj2 : (u8s c.b)[j]? = some (.int .u8 ((c.b[j]'hj).toNat : Int)) := by simp [u8s, hj]
        have := HB.out.1 j _ hj2
        rw [Nat.zero_add] at this
        exact ⟨_, (World.cell?_of_block (a := ⟨wz.heap.size, j, none⟩) hv).trans this, (World.frozen?_of_block (a := ⟨wz.heap.size, j, none⟩) hv).trans (HB.out.2.2 j hj)⟩)
      have HTY : Hid (Typed v wz.heap.size 5) := ht.off.typed HB.out.2.1
      have HT : Hid (Turn S S' w v) := ((Turn.begin_ HSL.out HGZ.out).more HGC.out).trans ht
      have HK1 : Hid (v.heap[w.heap.size + 1 + 1]? = some (.cells #[.int .i64 0, .int .i64 0, .slice none 0 0] 37) ∧ v.heap[w.heap.size + 1]? = some (.cells #[.int .i64 0, .int .i64 0, .slice none 0 0] 37)) := by
        have h2 := HZ.out.2.2.2
        exact ⟨(kept ht HSL.out (by omega) (by omega)).trans ((HGC.out.block _ h2 (by simp)).trans HZ.out.2.2.1), (kept ht HSL.out (by omega) (by omega)).trans ((HGC.out.block _ (by omega) (by simp)).trans HZ.out.2.1)⟩
      have HN := Lib.hid hn
      have HNS := Lib.hid hnS
      have HNQ : Hid (¬ S' (w.heap.size + 1)) := fun hs => by
        rcases ht.sub _ hs with e | e
        · have := HSL.out _ e; omega
        · have := HZ.out.2.2.2; have := HGC.out.size; omega
      have HZL : Hid (w.heap.size + 1 + 1 < wz.heap.size) := HZ.out.2.2.2
      clear hn ht hv hnS hlt0 HOP d1 d2
      go_wp2_with fail
      generalize wz.heap.size = gb at *
      go_loopw [11] (fun iv wr => ∃ i : Nat, i ≤ c.b.length ∧ iv = .int .i64 (i : Int) ∧ XorAt wr gb c.b.length ∧ Off (fun b => b = gb) v wr) (fun iv _ => c.b.length - (intOf iv).toNat)
      case atStart => exact ⟨0, Nat.zero_le _, rfl, HLOOP.out, Off.refl _ _⟩
      case round =>
        obtain ⟨i, hi, rfl, hx, ho⟩ := hrel
        have HO := Lib.hid ho
        have HX := Lib.hid hx
        clear ho hx
        by_cases hlt : i < c.b.length
        · have hkd : decide ((i : Int) < (c.b.length : Int)) = true := by simp; omega
          have hkd2 : decide (i < c.b.length) = true := by simpa using hlt
          have i0 : (0 : Int) ≤ (i : Int) := by omega
          have i1 : (i : Int) < (c.b.length : Int) := by omega
          obtain ⟨z, hz, hf⟩ := HX.out i hlt
          have HLT := Lib.hid hlt
          clear hlt
          go_wp2_with fail
          go_roundw
          case rel => exact ⟨i + 1, HLT.out, by go_num, HX.out.set _ _, HO.out.trans ((Off.cells (CellOff.set _ gb i _)).mono (fun b _ hb => hb.elim (fun _ e => e.1)))⟩
          case measure => have := HLT.out; simp [intOf]; omega
        · have hkd : decide ((i : Int) < (c.b.length : Int)) = false := by simp; omega
          have hkd2 : decide (i < c.b.length) = false := by simpa using hlt
          clear hlt
          go_wp2_with fail
          go_meet
          rw [HD.out]
          have ho := HO.out
          have hT := HT.out
          have hn' := HN.out.other ho (fun b hb e => HNS.out (e ▸ hb))
          have hgz := HGZ.out.size
          have hzl := HZL.out
          refine ⟨none, 0, S', rfl, rfl, (ho.block _ (Array.getElem?_eq_some_iff.1 HK1.out.1).1 (by omega)).trans HK1.out.1, (ho.block _ (Array.getElem?_eq_some_iff.1 HK1.out.2).1 (by omega)).trans HK1.out.2, .inl rfl, hn', ⟨⟨⟨ho.os.trans hT.off.os, ho.tape.trans hT.off.tape, ho.output.trans hT.off.output, Nat.le_trans hT.off.size ho.size, fun b hb hs => (ho.block b (Nat.lt_of_lt_of_le hb hT.off.size) (by omega)).trans (hT.off.block b hb hs)⟩, fun b hb => (ho.block b (Nat.lt_of_lt_of_le hb.lt hT.off.size) (by have := hb.lt; omega)).trans (hT.off.u8 b hb)⟩, hT.sub, hn'.lt⟩, HNQ.out⟩
    · have HD := Lib.hid (show D.does c = _ from does_0 D c (by omega))
      clear hr
      obtain ⟨WC, capb, hcv, hrg, hty, hfr, hgc, hsc⟩ := run_bytes_new wz c.b
      have hby : RowR WC (some ⟨wz.heap.size, 0, none⟩) capb c.b := RowR.of_bytes _ (S := fun _ => True) (.inr ⟨_, 0, rfl, trivial, hty, hrg⟩)
      have HOP := Lib.hid (send_at S nb D ⟨c.i, c.to, c.b⟩ (some ⟨wz.heap.size, 0, none⟩) capb WC (hnz.grown hgc) hby hl)
      have d1 := hgc.cell ca1 (by simp)
      have d2 := hgc.cell ca2 (by simp)
      have HB := Lib.hid (And.intro hrg (And.intro hty hfr))
      have HGC := Lib.hid hgc
      clear hrg hty hfr hgc hby
      generalize D.send ⟨c.i, c.to, c.b⟩ = sd at HOP HD
      obtain ⟨code, D'⟩ := sd
      go_wp2_with fail
      refine HOP.out.mono ?_
      rintro e v ⟨rfl, S', hn, ht⟩
      have hlt0 : wz.heap.size < WC.heap.size := HB.out.2.1.lt
      have hv := ht.off.u8 wz.heap.size HB.out.2.1
      have hnS : ¬ S' wz.heap.size := fun hs => by
        rcases ht.sub _ hs with e | e
        · have := HSL.out _ e; have := HGZ.out.size; omega
        · omega
      have HLOOP : Hid (XorAt v wz.heap.size c.b.length) := xor_of (fun j hj => by
        have hj2 : (u8s c.b)[j]? = some (.int .u8 ((c.b[j]'hj).toNat : Int)) := by simp [u8s, hj]
        have := HB.out.1 j _ hj2
        rw [Nat.zero_add] at this
        exact ⟨_, (World.cell?_of_block (a := ⟨wz.heap.size, j, none⟩) hv).trans this, (World.frozen?_of_block (a := ⟨wz.heap.size, j, none⟩) hv).trans (HB.out.2.2 j hj)⟩)
      have HTY : Hid (Typed v wz.heap.size 5) := ht.off.typed HB.out.2.1
      have HT : Hid (Turn S S' w v) := ((Turn.begin_ HSL.out HGZ.out).more HGC.out).trans ht
      have HK1 : Hid (v.heap[w.heap.size + 1 + 1]? = some (.cells #[.int .i64 0, .int .i64 0, .slice none 0 0] 37) ∧ v.heap[w.heap.size + 1]? = some (.cells #[.int .i64 0, .int .i64 0, .slice none 0 0] 37)) := by
        have h2 := HZ.out.2.2.2
        exact ⟨(kept ht HSL.out (by omega) (by omega)).trans ((HGC.out.block _ h2 (by simp)).trans HZ.out.2.2.1), (kept ht HSL.out (by omega) (by omega)).trans ((HGC.out.block _ (by omega) (by simp)).trans HZ.out.2.1)⟩
      have HN := Lib.hid hn
      have HNS := Lib.hid hnS
      have HNQ : Hid (¬ S' (w.heap.size + 1)) := fun hs => by
        rcases ht.sub _ hs with e | e
        · have := HSL.out _ e; omega
        · have := HZ.out.2.2.2; have := HGC.out.size; omega
      have HZL : Hid (w.heap.size + 1 + 1 < wz.heap.size) := HZ.out.2.2.2
      clear hn ht hv hnS hlt0 HOP d1 d2
      go_wp2_with fail
      generalize wz.heap.size = gb at *
      go_loopw [11] (fun iv wr => ∃ i : Nat, i ≤ c.b.length ∧ iv = .int .i64 (i : Int) ∧ XorAt wr gb c.b.length ∧ Off (fun b => b = gb) v wr) (fun iv _ => c.b.length - (intOf iv).toNat)
      case atStart => exact ⟨0, Nat.zero_le _, rfl, HLOOP.out, Off.refl _ _⟩
      case round =>
        obtain ⟨i, hi, rfl, hx, ho⟩ := hrel
        have HO := Lib.hid ho
        have HX := Lib.hid hx
        clear ho hx
        by_cases hlt : i < c.b.length
        · have hkd : decide ((i : Int) < (c.b.length : Int)) = true := by simp; omega
          have hkd2 : decide (i < c.b.length) = true := by simpa using hlt
          have i0 : (0 : Int) ≤ (i : Int) := by omega
          have i1 : (i : Int) < (c.b.length : Int) := by omega
          obtain ⟨z, hz, hf⟩ := HX.out i hlt
          have HLT := Lib.hid hlt
          clear hlt
          go_wp2_with fail
          go_roundw
          case rel => exact ⟨i + 1, HLT.out, by go_num, HX.out.set _ _, HO.out.trans ((Off.cells (CellOff.set _ gb i _)).mono (fun b _ hb => hb.elim (fun _ e => e.1)))⟩
          case measure => have := HLT.out; simp [intOf]; omega
        · have hkd : decide ((i : Int) < (c.b.length : Int)) = false := by simp; omega
          have hkd2 : decide (i < c.b.length) = false := by simpa using hlt
          clear hlt
          go_wp2_with fail
          go_meet
          rw [HD.out]
          have ho := HO.out
          have hT := HT.out
          have hn' := HN.out.other ho (fun b hb e => HNS.out (e ▸ hb))
          have hgz := HGZ.out.size
          have hzl := HZL.out
          refine ⟨none, 0, S', rfl, rfl, (ho.block _ (Array.getElem?_eq_some_iff.1 HK1.out.1).1 (by omega)).trans HK1.out.1, (ho.block _ (Array.getElem?_eq_some_iff.1 HK1.out.2).1 (by omega)).trans HK1.out.2, .inl rfl, hn', ⟨⟨⟨ho.os.trans hT.off.os, ho.tape.trans hT.off.tape, ho.output.trans hT.off.output, Nat.le_trans hT.off.size ho.size, fun b hb hs => (ho.block b (Nat.lt_of_lt_of_le hb hT.off.size) (by omega)).trans (hT.off.block b hb hs)⟩, fun b hb => (ho.block b (Nat.lt_of_lt_of_le hb.lt hT.off.size) (by have := hb.lt; omega)).trans (hT.off.u8 b hb)⟩, hT.sub, hn'.lt⟩, HNQ.out⟩
    · have HOP := Lib.hid (deliver_at S nb D c.i wz hnz)
      have HD := Lib.hid (show D.does c = _ from does_2 D c hr)
      clear hr
      go_wp2_with fail
      refine HOP.out.mono ?_
      rintro e v ⟨rfl, S', hn, ht⟩
      have HN := Lib.hid hn
      have HT := Lib.hid ht
      clear hn ht HOP
      go_wp2_with fail
      go_meet
      rw [HD.out]
      exact ⟨none, 0, S', rfl, rfl, (kept HT.out HSL.out (by omega) HZ.out.2.2.2).trans HZ.out.2.2.1, (kept HT.out HSL.out (by omega) (by have := HZ.out.2.2.2; omega)).trans HZ.out.2.1, .inl rfl, HN.out, (Turn.begin_ HSL.out HGZ.out).trans HT.out, notin HT.out HSL.out (by omega) (by have := HZ.out.2.2.2; omega)⟩
    · have HOP := Lib.hid (drop_at S nb D c.i wz hnz)
      have HD := Lib.hid (show D.does c = _ from does_3 D c hr)
      clear hr
      go_wp2_with fail
      refine HOP.out.mono ?_
      rintro e v ⟨rfl, S', hn, ht⟩
      have HN := Lib.hid hn
      have HT := Lib.hid ht
      clear hn ht HOP
      go_wp2_with fail
      go_meet
      rw [HD.out]
      exact ⟨none, 0, S', rfl, rfl, (kept HT.out HSL.out (by omega) HZ.out.2.2.2).trans HZ.out.2.2.1, (kept HT.out HSL.out (by omega) (by have := HZ.out.2.2.2; omega)).trans HZ.out.2.1, .inl rfl, HN.out, (Turn.begin_ HSL.out HGZ.out).trans HT.out, notin HT.out HSL.out (by omega) (by have := HZ.out.2.2.2; omega)⟩
    · have HOP := Lib.hid (double_at S nb D c.i wz hnz)
      have HD := Lib.hid (show D.does c = _ from does_4 D c hr)
      clear hr
      go_wp2_with fail
      refine HOP.out.mono ?_
      rintro e v ⟨rfl, S', hn, ht⟩
      have HN := Lib.hid hn
      have HT := Lib.hid ht
      clear hn ht HOP
      go_wp2_with fail
      go_meet
      rw [HD.out]
      exact ⟨none, 0, S', rfl, rfl, (kept HT.out HSL.out (by omega) HZ.out.2.2.2).trans HZ.out.2.2.1, (kept HT.out HSL.out (by omega) (by have := HZ.out.2.2.2; omega)).trans HZ.out.2.1, .inl rfl, HN.out, (Turn.begin_ HSL.out HGZ.out).trans HT.out, notin HT.out HSL.out (by omega) (by have := HZ.out.2.2.2; omega)⟩
    · have HOP := Lib.hid (delay_at S nb D c.i wz hnz)
      have HD := Lib.hid (show D.does c = _ from does_5 D c hr)
      clear hr
      go_wp2_with fail
      refine HOP.out.mono ?_
      rintro e v ⟨rfl, S', hn, ht⟩
      have HN := Lib.hid hn
      have HT := Lib.hid ht
      clear hn ht HOP
      go_wp2_with fail
      go_meet
      rw [HD.out]
      exact ⟨none, 0, S', rfl, rfl, (kept HT.out HSL.out (by omega) HZ.out.2.2.2).trans HZ.out.2.2.1, (kept HT.out HSL.out (by omega) (by have := HZ.out.2.2.2; omega)).trans HZ.out.2.1, .inl rfl, HN.out, (Turn.begin_ HSL.out HGZ.out).trans HT.out, notin HT.out HSL.out (by omega) (by have := HZ.out.2.2.2; omega)⟩
    · have HOP := Lib.hid (receive_at S nb D c.to wz hnz)
      have HD := Lib.hid (show D.does c = _ from does_6 D c hr)
      clear hr
      generalize D.receive c.to = rc at HOP HD
      obtain ⟨op, D'⟩ := rc
      have HLT2 := Lib.hid HZ.out.2.2.2
      go_wp2_with fail
      refine HOP.out.mono ?_
      rintro e v ⟨A, cap, rfl, hby, hn, ht⟩
      have b2 := (kept ht HSL.out (by omega) HZ.out.2.2.2).trans HZ.out.2.2.1
      have b1 := (kept ht HSL.out (by omega : w.heap.size ≤ w.heap.size + 1) (by have := HZ.out.2.2.2; omega)).trans HZ.out.2.1
      have d0 : v.cell? ⟨w.heap.size + 1 + 1, 0, none⟩ = some (.int .i64 0) := by simp only [World.cell?, b2]; rfl
      have d1 : v.cell? ⟨w.heap.size + 1 + 1, 1, none⟩ = some (.int .i64 0) := by simp only [World.cell?, b2]; rfl
      have d2 : v.cell? ⟨w.heap.size + 1 + 1, 2, none⟩ = some (.slice none 0 0) := by simp only [World.cell?, b2]; rfl
      have y0 : v.frozen? ⟨w.heap.size + 1 + 1, 0, none⟩ = false := by simp only [World.frozen?, b2]; simp
      have y1 : v.frozen? ⟨w.heap.size + 1 + 1, 1, none⟩ = false := by simp only [World.frozen?, b2]; simp
      have y2 : v.frozen? ⟨w.heap.size + 1 + 1, 2, none⟩ = false := by simp only [World.frozen?, b2]; simp
      generalize hkk : (op.getD ⟨0, 0, []⟩) = k at hby ⊢
      have f1 := heap_setCell_same _ (w.heap.size + 1 + 1) 0 _ _ (.int .i64 k.src) b2
      have f2 := heap_setCell_same _ (w.heap.size + 1 + 1) 1 _ _ (.int .i64 k.to) f1
      have f3 := heap_setCell_same _ (w.heap.size + 1 + 1) 2 _ _ (.slice A k.b.length cap) f2
      have ho : CellOff (fun x _ => x = w.heap.size + 1 + 1) v (((v.setCell ⟨w.heap.size + 1 + 1, 0, none⟩ (.int .i64 k.src)).setCell ⟨w.heap.size + 1 + 1, 1, none⟩ (.int .i64 k.to)).setCell ⟨w.heap.size + 1 + 1, 2, none⟩ (.slice A k.b.length cap)) :=
        (((CellOff.set v (w.heap.size + 1 + 1) 0 _).mono (fun _ _ _ h => h.1)).trans ((CellOff.set _ (w.heap.size + 1 + 1) 1 _).mono (fun _ _ _ h => h.1))).trans ((CellOff.set _ (w.heap.size + 1 + 1) 2 _).mono (fun _ _ _ h => h.1))
      have hty2 : Typed v (w.heap.size + 1 + 1) 37 := ⟨_, _, b2⟩
      have hno : ∀ b, Typed v b 5 → ∀ o : Nat, ¬ b = w.heap.size + 1 + 1 := fun b hb _ e => (hb.ne hty2 (by decide)) e
      have ho2 := (OffU.cells ho hno).mono (T := fun b => b = w.heap.size + 1 + 1) (fun b _ hb => hb.elim (fun _ e => e))
      have HFIN : Hid ((((v.setCell ⟨w.heap.size + 1 + 1, 0, none⟩ (.int .i64 k.src)).setCell ⟨w.heap.size + 1 + 1, 1, none⟩ (.int .i64 k.to)).setCell ⟨w.heap.size + 1 + 1, 2, none⟩ (.slice A k.b.length cap)).heap[w.heap.size + 1 + 1]? = some (.cells #[.int .i64 k.src, .int .i64 k.to, .slice A k.b.length cap] 37) ∧
        (((v.setCell ⟨w.heap.size + 1 + 1, 0, none⟩ (.int .i64 k.src)).setCell ⟨w.heap.size + 1 + 1, 1, none⟩ (.int .i64 k.to)).setCell ⟨w.heap.size + 1 + 1, 2, none⟩ (.slice A k.b.length cap)).heap[w.heap.size + 1]? = some (.cells #[.int .i64 0, .int .i64 0, .slice none 0 0] 37) ∧
        Bytes (((v.setCell ⟨w.heap.size + 1 + 1, 0, none⟩ (.int .i64 k.src)).setCell ⟨w.heap.size + 1 + 1, 1, none⟩ (.int .i64 k.to)).setCell ⟨w.heap.size + 1 + 1, 2, none⟩ (.slice A k.b.length cap)) (fun _ => True) A k.b ∧
        NetAt (((v.setCell ⟨w.heap.size + 1 + 1, 0, none⟩ (.int .i64 k.src)).setCell ⟨w.heap.size + 1 + 1, 1, none⟩ (.int .i64 k.to)).setCell ⟨w.heap.size + 1 + 1, 2, none⟩ (.slice A k.b.length cap)) S nb D' ∧
        Turn S S w (((v.setCell ⟨w.heap.size + 1 + 1, 0, none⟩ (.int .i64 k.src)).setCell ⟨w.heap.size + 1 + 1, 1, none⟩ (.int .i64 k.to)).setCell ⟨w.heap.size + 1 + 1, 2, none⟩ (.slice A k.b.length cap))) := by
        have hn' := hn.other ho2.toOff (fun b hb e => by have := HSL.out b hb; omega)
        have t1 := (Turn.begin_ HSL.out HGZ.out).trans ht
        refine ⟨f3, (ho2.block _ (Array.getElem?_eq_some_iff.1 b1).1 (by omega)).trans b1, (hby.mono (T := fun _ => True) (fun _ _ _ => trivial)).turn ho2, hn', ⟨⟨⟨ho2.os.trans t1.off.os, ho2.tape.trans t1.off.tape, ho2.output.trans t1.off.output, Nat.le_trans t1.off.size ho2.size, fun b hb hs => ?_⟩, fun b hb => (ho2.u8 b (t1.off.typed hb)).trans (t1.off.u8 b hb)⟩, fun _ hb => .inl hb, hn'.lt⟩⟩
        exact (ho2.block b (Nat.lt_of_lt_of_le hb t1.off.size) (by omega)).trans (t1.off.block b hb hs)
      clear hby hn ht b1 b2 f1 f2 f3 ho hty2 hno ho2 HOP
      have HKK := Lib.hid hkk
      clear hkk
      go_wp2_with fail
      go_meet
      rw [HD.out]
      rw [HKK.out]
      exact ⟨A, cap, S, rfl, rfl, HFIN.out.1, HFIN.out.2.1, HFIN.out.2.2.1, HFIN.out.2.2.2.1, HFIN.out.2.2.2.2, fun hs => by have := HSL.out _ hs; omega⟩
    · have HOP := Lib.hid (clear_at S nb D c.to wz hnz)
      have HD := Lib.hid (show D.does c = _ from does_7 D c hr)
      clear hr
      go_wp2_with fail
      refine HOP.out.mono ?_
      rintro e v ⟨rfl, hn, ht⟩
      have HN := Lib.hid hn
      have HT := Lib.hid ht
      clear hn ht HOP
      go_wp2_with fail
      go_meet
      rw [HD.out]
      exact ⟨none, 0, S, rfl, rfl, (kept HT.out HSL.out (by omega) HZ.out.2.2.2).trans HZ.out.2.2.1, (kept HT.out HSL.out (by omega) (by have := HZ.out.2.2.2; omega)).trans HZ.out.2.1, .inl rfl, HN.out, (Turn.begin_ HSL.out HGZ.out).trans HT.out, notin HT.out HSL.out (by omega) (by have := HZ.out.2.2.2; omega)⟩
  case rest =>
    obtain ⟨A, cap, S', rfl, rfl, hb2, hb1, hby, hn, ht, hnS⟩ := hcut
    generalize hkk : ((D.does c).1.2.getD ⟨0, 0, []⟩) = p at hb2 hby ⊢
    have HKP := Lib.hid hkk
    clear hkk
    have hb2' : wc.drew.heap[w.heap.size + 1 + 1]? = _ := hb2
    have hb1' : wc.drew.heap[w.heap.size + 1]? = _ := hb1
    have hq : ∀ j, wc.drew.cell? ⟨w.heap.size + 1, j, none⟩ = #[Value.int .i64 0, .int .i64 0, .slice none 0 0][j]? := fun j => by simp only [World.cell?, hb1']; rfl
    have hy : ∀ j, wc.drew.frozen? ⟨w.heap.size + 1, j, none⟩ = false := fun j => by simp only [World.frozen?, hb1']; simp
    have hp : ∀ j, wc.drew.cell? ⟨w.heap.size + 1 + 1, j, none⟩ = #[Value.int .i64 p.src, .int .i64 p.to, .slice A p.b.length cap][j]? := fun j => by simp only [World.cell?, hb2']; rfl
    have f1 := heap_setCell_same _ (w.heap.size + 1) 0 _ _ (.int .i64 p.src) hb1'
    have f2 := heap_setCell_same _ (w.heap.size + 1) 1 _ _ (.int .i64 p.to) f1
    have f3 := heap_setCell_same _ (w.heap.size + 1) 2 _ _ (.slice A p.b.length cap) f2
    have HRES := Lib.hid f3
    have ho : CellOff (fun x _ => x = w.heap.size + 1) wc.drew (((wc.drew.setCell ⟨w.heap.size + 1, 0, none⟩ (.int .i64 p.src)).setCell ⟨w.heap.size + 1, 1, none⟩ (.int .i64 p.to)).setCell ⟨w.heap.size + 1, 2, none⟩ (.slice A p.b.length cap)) :=
      (((CellOff.set wc.drew (w.heap.size + 1) 0 _).mono (fun _ _ _ h => h.1)).trans ((CellOff.set _ (w.heap.size + 1) 1 _).mono (fun _ _ _ h => h.1))).trans ((CellOff.set _ (w.heap.size + 1) 2 _).mono (fun _ _ _ h => h.1))
    have hty2 : Typed wc.drew (w.heap.size + 1) 37 := ⟨_, _, hb1'⟩
    have hno : ∀ b, Typed wc.drew b 5 → ∀ o : Nat, ¬ b = w.heap.size + 1 := fun b hb _ e => (hb.ne hty2 (by decide)) e
    have ho2 := (OffU.cells ho hno).mono (T := fun b => b = w.heap.size + 1) (fun b _ hb => hb.elim (fun _ e => e))
    have HFIN : Hid (Bytes (((wc.drew.setCell ⟨w.heap.size + 1, 0, none⟩ (.int .i64 p.src)).setCell ⟨w.heap.size + 1, 1, none⟩ (.int .i64 p.to)).setCell ⟨w.heap.size + 1, 2, none⟩ (.slice A p.b.length cap)) (fun _ => True) A p.b ∧
      ∃ S', NetAt (((wc.drew.setCell ⟨w.heap.size + 1, 0, none⟩ (.int .i64 p.src)).setCell ⟨w.heap.size + 1, 1, none⟩ (.int .i64 p.to)).setCell ⟨w.heap.size + 1, 2, none⟩ (.slice A p.b.length cap)) S' nb (D.does c).2 ∧ Turn S S' w (((wc.drew.setCell ⟨w.heap.size + 1, 0, none⟩ (.int .i64 p.src)).setCell ⟨w.heap.size + 1, 1, none⟩ (.int .i64 p.to)).setCell ⟨w.heap.size + 1, 2, none⟩ (.slice A p.b.length cap))) := by
      have hd := drew_grown wc none
      have t1 := ht.more hd
      have hn' := (hn.grown hd).other ho2.toOff (fun b hb e => hnS (e ▸ hb))
      refine ⟨(hby.grown hd).turn ho2, S', hn', ⟨⟨⟨ho2.os.trans t1.off.os, ho2.tape.trans t1.off.tape, ho2.output.trans t1.off.output, Nat.le_trans t1.off.size ho2.size, fun b hb hs => ?_⟩, fun b hb => (ho2.u8 b (t1.off.typed hb)).trans (t1.off.u8 b hb)⟩, t1.sub, hn'.lt⟩⟩
      exact (ho2.block b (Nat.lt_of_lt_of_le hb t1.off.size) (by omega)).trans (t1.off.block b hb hs)
    have P0 : Hid (wc.drew.cell? ⟨w.heap.size + 1 + 1, 0, none⟩ = some (.int .i64 p.src)) := hp 0
    have P1 : Hid (wc.drew.cell? ⟨w.heap.size + 1 + 1, 1, none⟩ = some (.int .i64 p.to)) := hp 1
    have P2 : Hid (wc.drew.cell? ⟨w.heap.size + 1 + 1, 2, none⟩ = some (.slice A p.b.length cap)) := hp 2
    have Q : Hid (wc.cell? ⟨w.heap.size + 1, 0, none⟩ = some (.int .i64 0) ∧ wc.cell? ⟨w.heap.size + 1, 1, none⟩ = some (.int .i64 0) ∧ wc.cell? ⟨w.heap.size + 1, 2, none⟩ = some (.slice none 0 0) ∧ wc.frozen? ⟨w.heap.size + 1, 0, none⟩ = false ∧ wc.frozen? ⟨w.heap.size + 1, 1, none⟩ = false ∧ wc.frozen? ⟨w.heap.size + 1, 2, none⟩ = false) := ⟨hq 0, hq 1, hq 2, hy 0, hy 1, hy 2⟩
    have hkp : ∀ (j : Nat) u, wc.drew.cell? ⟨w.heap.size + 1 + 1, j, none⟩ = some u → (((wc.drew.setCell ⟨w.heap.size + 1, 0, none⟩ (.int .i64 p.src)).setCell ⟨w.heap.size + 1, 1, none⟩ (.int .i64 p.to)).setCell ⟨w.heap.size + 1, 2, none⟩ (.slice A p.b.length cap)).cell? ⟨w.heap.size + 1 + 1, j, none⟩ = some u := fun j u hu => (ho.cell _ j (World.block_lt_of_cell? _ _ hu) (show ¬ (w.heap.size + 1 + 1 = w.heap.size + 1) by omega)).trans hu
    have HKEEP := Lib.hid (And.intro (hkp 0 _ (hp 0)) (And.intro (hkp 1 _ (hp 1)) (hkp 2 _ (hp 2))))
    clear hb2' hb1' hb1 hb2 hq hy hp hkp f1 f2 f3 ho hty2 hno ho2 hby hn ht hnS
    generalize hgg2 : w.heap.size + 1 + 1 = g2 at P0 P1 P2 HKEEP ⊢
    clear hgg2
    go_upto_region 23 with fail
    refine wp_region_noPanic ?_
    refine wp_region_held_drew (S := fun w' => w'.cell? ⟨g2, 0, none⟩ = some (.int .i64 p.src) ∧ w'.cell? ⟨g2, 1, none⟩ = some (.int .i64 p.to) ∧ w'.cell? ⟨g2, 2, none⟩ = some (.slice A p.b.length cap)) (by kernel_rfl) ?hSr (fun hHeld => ?_)
    case hSr => exact ⟨P0.out, P1.out, P2.out⟩
    refine wpAnyH_take (i := 0) (oi := ⟨_, _, _, _, _, _⟩) (v := ?vr0) rfl (by kernel_rfl) (by kernel_rfl) (by kernel_rfl) (fun _ _ _ h => h) (Or.inl ⟨by rfl, ?hyr0⟩) hHeld ?_
    case hyr0 => (intro wS hSw; (try dsimp only at hSw); go_simp; (first | done | with_reducible rfl))
    try simp only [Act.put, List.setIfInBounds_toArray, List.set_cons_zero, List.set_cons_succ]
    refine wpAnyH_take (i := 1) (oi := ⟨_, _, _, _, _, _⟩) (v := ?vr1) rfl (by kernel_rfl) (by kernel_rfl) (by kernel_rfl) (fun _ _ _ h => h) (Or.inl ⟨by rfl, ?hyr1⟩) hHeld ?_
    case hyr1 => (intro wS hSw; (try dsimp only at hSw); go_simp; (first | done | with_reducible rfl))
    try simp only [Act.put, List.setIfInBounds_toArray, List.set_cons_zero, List.set_cons_succ]
    refine wpAnyH_take (i := 2) (oi := ⟨_, _, _, _, _, _⟩) (v := ?vr2) rfl (by kernel_rfl) (by kernel_rfl) (by kernel_rfl) (fun _ _ _ h => h) (Or.inl ⟨by rfl, ?hyr2⟩) hHeld ?_
    case hyr2 => (intro wS hSw; (try dsimp only at hSw); go_simp; (first | done | with_reducible rfl))
    try simp only [Act.put, List.setIfInBounds_toArray, List.set_cons_zero, List.set_cons_succ]
    refine wpAnyH_take (i := 3) (oi := ⟨_, _, _, _, _, _⟩) (v := ?vr3) rfl (by kernel_rfl) (by kernel_rfl) (by kernel_rfl) (fun _ _ _ h => h) (Or.inl ⟨by rfl, ?hyr3⟩) hHeld ?_
    case hyr3 => (intro wS hSw; (try dsimp only at hSw); go_simp; (first | done | with_reducible rfl))
    try simp only [Act.put, List.setIfInBounds_toArray, List.set_cons_zero, List.set_cons_succ]
    refine wpAnyH_ready (rs := [4]) (by kernel_rfl) (by simp) ?_
    refine AllReadyH.cons (o := ⟨_, _, _, _, _, _⟩) rfl (fun K hK => ?_) AllReadyH.nil
    obtain ⟨q0, q1, q2, y0, y1, y2⟩ := Q.out
    go_simp
    clear q0 q1 q2 y0 y1 y2
    refine hK.out _ _ ?kr4 (fun hNew => ?_)
    case kr4 => (try dsimp only); exact HKEEP.out
    clear hK K hHeld
    have hHeld := hNew
    clear hNew
    try simp only [Act.put, List.setIfInBounds_toArray, List.set_cons_zero, List.set_cons_succ]
    refine wpAnyH_take (i := 5) (oi := ⟨_, _, _, _, _, _⟩) (v := ?vr5) rfl (by kernel_rfl) (by kernel_rfl) (by kernel_rfl) (fun _ _ _ h => h) (Or.inl ⟨by rfl, ?hyr5⟩) hHeld ?_
    case hyr5 => (intro wS hSw; (try dsimp only at hSw); go_simp; (first | done | with_reducible rfl))
    try simp only [Act.put, List.setIfInBounds_toArray, List.set_cons_zero, List.set_cons_succ]
    refine wpAnyH_done (by kernel_rfl) ?_ _
    refine NoPanic.normal ?_
    clear hHeld
    go_wp2_with fail
    (try simp only [Exit.inBlock, Exit.then])
    refine bodyPost_ret (results_tmp_row_tmp rfl _ _ (w.heap.size + 1) _ _ _ _ rfl HRES.out Try.underlying37 rfl (by kernel_rfl)) rfl ?_
    rw [HKP.out]
    exact ⟨A, cap, rfl, HFIN.out⟩
end Go.Proofs.Ytonfpifikblnjaa.Net
