/- A part of the proof of JournalKnown: JnlHeadNo JnlLoadNh JnlArea JnlOpen JnlRec JnlApp. -/
import Derived.Test.YtgdedgfohjplmaaGreatK00
import Derived.Test.YtgdedgfohjplmaaGreatK02
import Derived.Test.YtgdedgfohjplmaaGreatK05
import Derived.Test.YtgdedgfohjplmaaGreatK04
set_option maxRecDepth 100000
set_option maxHeartbeats 40000000
namespace Go.Proofs.YtgdedgfohjplmaaGreat.Jnl
open Go.RowKit Go.Maps Sec
structure NoHd (b : List UInt8) (g o f n : Nat) : Prop where
 len : b.length = 128
 p0 : (b.drop 1).take 8 = numB g 8
 p1 : (b.drop 9).take 8 = numB o 8
 p2 : (b.drop 17).take 8 = numB f 8
 p3 : (b.drop 25).take 4 = numB n 4
 b0 : g < 9223372036854775808
 b1 : o < 9223372036854775808
 b2 : f < 9223372036854775808
 b3 : n ≤ 1048576
 no : ¬ ((1 ≤ g ∧ g ≤ 4611686018427387904) ∧ (1 ≤ o ∧ o ≤ 4611686018427387904) ∧ (1 ≤ f ∧ f ≤ 4611686018427387904) ∧ b = headB g o f n)
def NoHdEnd (w : World) (e : Ending) (w' : World) : Prop := ∃ x0 x1 x2 x3 : Int, e = .returned (.tuple #[.agg #[.int .i64 x0, .int .i64 x1, .int .i64 x2, .int .i64 x3], .bool false]) ∧ Below w.heap.size w w'
theorem headOf_no (gb cap g o f n : Nat) (b : List UInt8) (hnm : NoHd b g o f n) (w : World) (hr : w.rangeAt gb 0 (u8s b)) (hgl : gb < w.heap.size) (hc : 128 ≤ cap) (hcm : cap ≤ maxLen) :
  Calls Tryz.prog 59 #[.slice (some ⟨gb, 0, none⟩) 128 cap] w (NoHdEnd w) := by
 unfold maxLen at hcm
 have c1 : (128 : Int) ≤ (cap : Int) := by omega
 have HNM := Lib.hid hnm
 have HN := Lib.hid hnm.b3
 have HLW : Hid (∀ v, Below w.heap.size w v → ∀ k, v.rangeAt gb k (u8s (b.drop k))) := fun v hv k => range_drop (fun j x hj => (hv.cell hgl).trans (hr j x hj)) k
 have HX0 : Hid (∀ v : World, _) := fun v : World => (run_idx3p v (.pointer (some ⟨w.heap.size + 1, 0, none⟩)) (.pointer (some ⟨w.heap.size + 1, 1, none⟩)) (.pointer (some ⟨w.heap.size + 1, 2, none⟩)) ⟨_, rfl⟩ ⟨_, rfl⟩ ⟨_, rfl⟩).1
 have HX1 : Hid (∀ v : World, _) := fun v : World => (run_idx3p v (.pointer (some ⟨w.heap.size + 1, 0, none⟩)) (.pointer (some ⟨w.heap.size + 1, 1, none⟩)) (.pointer (some ⟨w.heap.size + 1, 2, none⟩)) ⟨_, rfl⟩ ⟨_, rfl⟩ ⟨_, rfl⟩).2.1
 have HX2 : Hid (∀ v : World, _) := fun v : World => (run_idx3p v (.pointer (some ⟨w.heap.size + 1, 0, none⟩)) (.pointer (some ⟨w.heap.size + 1, 1, none⟩)) (.pointer (some ⟨w.heap.size + 1, 2, none⟩)) ⟨_, rfl⟩ ⟨_, rfl⟩ ⟨_, rfl⟩).2.2
 clear hnm hr hgl
 go_enter Tryz.func59, Tryz.ntmps59
 go_wp2_with fail
 obtain ⟨y, hy⟩ : ∃ y, y = (w.alloc (.cells #[.int .i64 0, .int .i64 0, .int .i64 0, .int .i64 0] 47)).alloc (.cells #[.int .i64 0, .int .i64 0, .int .i64 0, .int .i64 0] 47) := ⟨_, rfl⟩
 have HST : Hid (HdSt w y 0 0 0 0) := by rw [hy]; exact HdSt.start w
 rw [← hy]
 clear hy
 go_loopw [5, 7, 16] (fun r u i wr => (i = .int .i64 0 ∧ r = .slice (some ⟨gb, 1, none⟩) 127 (cap - 1) ∧ HdSt w wr 0 0 0 0) ∨ (i = .int .i64 1 ∧ r = .slice (some ⟨gb, 9, none⟩) 119 (cap - 1 - 8) ∧ HdSt w wr g 0 0 0 ∧ (1 ≤ g ∧ g ≤ 4611686018427387904)) ∨ (i = .int .i64 2 ∧ r = .slice (some ⟨gb, 17, none⟩) 111 (cap - 1 - 8 - 8) ∧ HdSt w wr g o 0 0 ∧ (1 ≤ g ∧ g ≤ 4611686018427387904) ∧ (1 ≤ o ∧ o ≤ 4611686018427387904)) ∨ (i = .int .i64 3 ∧ r = .slice (some ⟨gb, 25, none⟩) 103 (cap - 1 - 8 - 8 - 8) ∧ HdSt w wr g o f 0 ∧ (1 ≤ g ∧ g ≤ 4611686018427387904) ∧ (1 ≤ o ∧ o ≤ 4611686018427387904) ∧ (1 ≤ f ∧ f ≤ 4611686018427387904))) (fun _ _ i _ => 3 - (intOf i).toNat)
 case atStart => exact .inl ⟨rfl, rfl, HST.out⟩
 case round =>
  clear HST
  obtain ⟨rfl, rfl, hst⟩ | ⟨rfl, rfl, hst, hgg⟩ | ⟨rfl, rfl, hst, hgg, hoo⟩ | ⟨rfl, rfl, hst, hgg, hoo, hff⟩ := hrel
  ·have HS := Lib.hid hst
   have HRW := Lib.hid (HLW.out _ hst.below)
   clear hst
   have hx := fun v : World => (HX0.out v)
   go_wp2_with fail
   refine (read_at gb 1 127 (cap - 1) (b.drop 1) g 8 wr (HRW.out 1) (by rw [List.length_drop, HNM.out.len]) (by decide) (by decide) (by omega) (by unfold maxLen; omega) HNM.out.p0 (by have := HNM.out.b0; show _ < 18446744073709551616; omega) (by have := HNM.out.b0; omega)).mono ?_
   rintro e w1 ⟨rfl, m, rfl⟩
   have HS1 := Lib.hid (HS.out.drewN m)
   have h0 := HS1.out.cells.1
   have f0 := HS1.out.free 0
   clear hx
   go_upto_region 7 with fail
   have HZ := Lib.hid (HS1.out.set (x := (g : Int)) (j := 0) (by decide))
   obtain ⟨z, hz⟩ : ∃ z, z = (wr.drewN m).setCell ⟨w.heap.size + 1, 0, none⟩ (.int .i64 (g : Int)) := ⟨_, rfl⟩
   rw [← hz] at HZ ⊢
   clear hz h0 f0 HS1 HS HRW
   by_cases c1 : g < 1
   ·have d1 : decide ((g : Int) < 1) = true := by simp; omega
    clear c1
    have h0 := HZ.out.cells.1
    have h1 := HZ.out.cells.2.1
    have h2 := HZ.out.cells.2.2.1
    have h3 := HZ.out.cells.2.2.2
    obtain ⟨r0, r1, r2, r3⟩ := HZ.out.rescells
    have q0 := HZ.out.resfree
    go_wp2_with fail
    (try simp only [Exit.inBlock, Exit.then])
    refine bodyPost_ret (results_row_tmp rfl _ _ w.heap.size _ _ _ _ rfl (HZ.out.put (g : Int) 0 0 0).1 Tryz.underlying47 rfl (by kernel_rfl)) rfl ?_
    exact ⟨_, _, _, _, rfl, (HZ.out.put (g : Int) 0 0 0).2⟩
   have d1 : decide ((g : Int) < 1) = false := by simp; omega
   by_cases c2 : 4611686018427387904 < g
   ·have d2 : decide ((4611686018427387904 : Int) < (g : Int)) = true := by simp; omega
    clear c1 c2
    have h0 := HZ.out.cells.1
    have h1 := HZ.out.cells.2.1
    have h2 := HZ.out.cells.2.2.1
    have h3 := HZ.out.cells.2.2.2
    obtain ⟨r0, r1, r2, r3⟩ := HZ.out.rescells
    have q0 := HZ.out.resfree
    go_wp2_with fail
    (try simp only [Exit.inBlock, Exit.then])
    refine bodyPost_ret (results_row_tmp rfl _ _ w.heap.size _ _ _ _ rfl (HZ.out.put (g : Int) 0 0 0).1 Tryz.underlying47 rfl (by kernel_rfl)) rfl ?_
    exact ⟨_, _, _, _, rfl, (HZ.out.put (g : Int) 0 0 0).2⟩
   have d2 : decide ((4611686018427387904 : Int) < (g : Int)) = false := by simp; omega
   have h0 := HZ.out.cells.1
   have HB0 : Hid (1 ≤ g ∧ g ≤ 4611686018427387904) := ⟨by omega, by omega⟩
   clear c1 c2
   go_wp2_with fail
   go_roundw
   case rel => exact .inr (.inl ⟨rfl, rfl, HZ.out, HB0.out⟩)
   case measure => decide
  ·have HG := Lib.hid hgg
   clear hgg
   have HS := Lib.hid hst
   have HRW := Lib.hid (HLW.out _ hst.below)
   clear hst
   have hx := fun v : World => (HX1.out v)
   go_wp2_with fail
   refine (read_at gb 9 119 (cap - 1 - 8) (b.drop 9) o 8 wr (HRW.out 9) (by rw [List.length_drop, HNM.out.len]) (by decide) (by decide) (by omega) (by unfold maxLen; omega) HNM.out.p1 (by have := HNM.out.b1; show _ < 18446744073709551616; omega) (by have := HNM.out.b1; omega)).mono ?_
   rintro e w1 ⟨rfl, m, rfl⟩
   have HS1 := Lib.hid (HS.out.drewN m)
   have h0 := HS1.out.cells.2.1
   have f0 := HS1.out.free 1
   clear hx
   go_upto_region 7 with fail
   have HZ := Lib.hid (HS1.out.set (x := (o : Int)) (j := 1) (by decide))
   obtain ⟨z, hz⟩ : ∃ z, z = (wr.drewN m).setCell ⟨w.heap.size + 1, 1, none⟩ (.int .i64 (o : Int)) := ⟨_, rfl⟩
   rw [← hz] at HZ ⊢
   clear hz h0 f0 HS1 HS HRW
   by_cases c1 : o < 1
   ·have d1 : decide ((o : Int) < 1) = true := by simp; omega
    clear c1
    have h0 := HZ.out.cells.1
    have h1 := HZ.out.cells.2.1
    have h2 := HZ.out.cells.2.2.1
    have h3 := HZ.out.cells.2.2.2
    obtain ⟨r0, r1, r2, r3⟩ := HZ.out.rescells
    have q0 := HZ.out.resfree
    go_wp2_with fail
    (try simp only [Exit.inBlock, Exit.then])
    refine bodyPost_ret (results_row_tmp rfl _ _ w.heap.size _ _ _ _ rfl (HZ.out.put (g : Int) (o : Int) 0 0).1 Tryz.underlying47 rfl (by kernel_rfl)) rfl ?_
    exact ⟨_, _, _, _, rfl, (HZ.out.put (g : Int) (o : Int) 0 0).2⟩
   have d1 : decide ((o : Int) < 1) = false := by simp; omega
   by_cases c2 : 4611686018427387904 < o
   ·have d2 : decide ((4611686018427387904 : Int) < (o : Int)) = true := by simp; omega
    clear c1 c2
    have h0 := HZ.out.cells.1
    have h1 := HZ.out.cells.2.1
    have h2 := HZ.out.cells.2.2.1
    have h3 := HZ.out.cells.2.2.2
    obtain ⟨r0, r1, r2, r3⟩ := HZ.out.rescells
    have q0 := HZ.out.resfree
    go_wp2_with fail
    (try simp only [Exit.inBlock, Exit.then])
    refine bodyPost_ret (results_row_tmp rfl _ _ w.heap.size _ _ _ _ rfl (HZ.out.put (g : Int) (o : Int) 0 0).1 Tryz.underlying47 rfl (by kernel_rfl)) rfl ?_
    exact ⟨_, _, _, _, rfl, (HZ.out.put (g : Int) (o : Int) 0 0).2⟩
   have d2 : decide ((4611686018427387904 : Int) < (o : Int)) = false := by simp; omega
   have h0 := HZ.out.cells.2.1
   have HB1 : Hid (1 ≤ o ∧ o ≤ 4611686018427387904) := ⟨by omega, by omega⟩
   clear c1 c2
   go_wp2_with fail
   go_roundw
   case rel => exact .inr (.inr (.inl ⟨rfl, rfl, HZ.out, HG.out, HB1.out⟩))
   case measure => decide
  ·have HG := Lib.hid hgg
   clear hgg
   have HO := Lib.hid hoo
   clear hoo
   have HS := Lib.hid hst
   have HRW := Lib.hid (HLW.out _ hst.below)
   clear hst
   have hx := fun v : World => (HX2.out v)
   go_wp2_with fail
   refine (read_at gb 17 111 (cap - 1 - 8 - 8) (b.drop 17) f 8 wr (HRW.out 17) (by rw [List.length_drop, HNM.out.len]) (by decide) (by decide) (by omega) (by unfold maxLen; omega) HNM.out.p2 (by have := HNM.out.b2; show _ < 18446744073709551616; omega) (by have := HNM.out.b2; omega)).mono ?_
   rintro e w1 ⟨rfl, m, rfl⟩
   have HS1 := Lib.hid (HS.out.drewN m)
   have h0 := HS1.out.cells.2.2.1
   have f0 := HS1.out.free 2
   clear hx
   go_upto_region 7 with fail
   have HZ := Lib.hid (HS1.out.set (x := (f : Int)) (j := 2) (by decide))
   obtain ⟨z, hz⟩ : ∃ z, z = (wr.drewN m).setCell ⟨w.heap.size + 1, 2, none⟩ (.int .i64 (f : Int)) := ⟨_, rfl⟩
   rw [← hz] at HZ ⊢
   clear hz h0 f0 HS1 HS HRW
   by_cases c1 : f < 1
   ·have d1 : decide ((f : Int) < 1) = true := by simp; omega
    clear c1
    have h0 := HZ.out.cells.1
    have h1 := HZ.out.cells.2.1
    have h2 := HZ.out.cells.2.2.1
    have h3 := HZ.out.cells.2.2.2
    obtain ⟨r0, r1, r2, r3⟩ := HZ.out.rescells
    have q0 := HZ.out.resfree
    go_wp2_with fail
    (try simp only [Exit.inBlock, Exit.then])
    refine bodyPost_ret (results_row_tmp rfl _ _ w.heap.size _ _ _ _ rfl (HZ.out.put (g : Int) (o : Int) (f : Int) 0).1 Tryz.underlying47 rfl (by kernel_rfl)) rfl ?_
    exact ⟨_, _, _, _, rfl, (HZ.out.put (g : Int) (o : Int) (f : Int) 0).2⟩
   have d1 : decide ((f : Int) < 1) = false := by simp; omega
   by_cases c2 : 4611686018427387904 < f
   ·have d2 : decide ((4611686018427387904 : Int) < (f : Int)) = true := by simp; omega
    clear c1 c2
    have h0 := HZ.out.cells.1
    have h1 := HZ.out.cells.2.1
    have h2 := HZ.out.cells.2.2.1
    have h3 := HZ.out.cells.2.2.2
    obtain ⟨r0, r1, r2, r3⟩ := HZ.out.rescells
    have q0 := HZ.out.resfree
    go_wp2_with fail
    (try simp only [Exit.inBlock, Exit.then])
    refine bodyPost_ret (results_row_tmp rfl _ _ w.heap.size _ _ _ _ rfl (HZ.out.put (g : Int) (o : Int) (f : Int) 0).1 Tryz.underlying47 rfl (by kernel_rfl)) rfl ?_
    exact ⟨_, _, _, _, rfl, (HZ.out.put (g : Int) (o : Int) (f : Int) 0).2⟩
   have d2 : decide ((4611686018427387904 : Int) < (f : Int)) = false := by simp; omega
   have h0 := HZ.out.cells.2.2.1
   have HB2 : Hid (1 ≤ f ∧ f ≤ 4611686018427387904) := ⟨by omega, by omega⟩
   clear c1 c2
   go_wp2_with fail
   go_roundw
   case rel => exact .inr (.inr (.inr ⟨rfl, rfl, HZ.out, HG.out, HO.out, HB2.out⟩))
   case measure => decide
  ·have HS := Lib.hid hst
   have HRW := Lib.hid (HLW.out _ hst.below)
   have HG := Lib.hid hgg
   have HO := Lib.hid hoo
   have HF := Lib.hid hff
   have HNE : Hid (headB g o f n ≠ b) := fun e => HNM.out.no ⟨hgg, hoo, hff, e.symm⟩
   clear hst hgg hoo hff
   go_wp2_with fail
   refine (read_at gb 25 103 (cap - 1 - 8 - 8 - 8) (b.drop 25) n 4 wr (HRW.out 25) (by rw [List.length_drop, HNM.out.len]) (by decide) (by decide) (by omega) (by unfold maxLen; omega) HNM.out.p3 (by have := HN.out; show _ < 4294967296; omega) (by have := HN.out; omega)).mono ?_
   rintro e w1 ⟨rfl, m, rfl⟩
   have HS1 := Lib.hid (HS.out.drewN m)
   have h0 := HS1.out.cells.2.2.2
   have f0 := HS1.out.free 3
   go_upto_region 12 with fail
   have HZ := Lib.hid (HS1.out.set (x := (n : Int)) (j := 3) (by decide))
   obtain ⟨z, hz⟩ : ∃ z, z = (wr.drewN m).setCell ⟨w.heap.size + 1, 3, none⟩ (.int .i64 (n : Int)) := ⟨_, rfl⟩
   rw [← hz] at HZ ⊢
   clear hz h0 f0 HS1 HS HRW
   have HC0 := Lib.hid HZ.out.cells
   have d3 : decide ((n : Int) ≤ 1048576) = true := by have := HN.out; simp; omega
   refine wp_region_noPanic ?_
   refine wp_region_held_drew (S := fun w' => w'.cell? ⟨w.heap.size + 1, 0, none⟩ = some (Value.int .i64 (g : Int)) ∧ w'.cell? ⟨w.heap.size + 1, 1, none⟩ = some (Value.int .i64 (o : Int)) ∧ w'.cell? ⟨w.heap.size + 1, 2, none⟩ = some (Value.int .i64 (f : Int)) ∧ w'.cell? ⟨w.heap.size + 1, 3, none⟩ = some (Value.int .i64 (n : Int))) (by kernel_rfl) ?hSa (fun hHeld => ?_)
   case hSa => exact HC0.out
   refine ztk 0 rfl ?_
   refine ztk 1 rfl ?_
   refine ztk 2 rfl ?_
   refine ztk 3 rfl ?_
   refine ztk 4 rfl ?_
   refine ztk 5 rfl ?_
   refine ztk 7 rfl ?_
   refine zrd 6 rfl (fun K hK => ?_)
   go_simp
   refine (head_bytes_at g o f n (by have := HG.out.2; omega) (by have := HO.out.2; omega) (by have := HF.out.2; omega) (by have := HN.out; omega) z.drew).mono ?_
   rintro e w2 ⟨v2, rfl, hr2, hb2⟩
   obtain ⟨g2, cap2, rfl, _, _, _, _, hrg2⟩ := hr2.some (by have := headB_length g o f n; intro e; rw [e] at this; cases this)
   rw [headB_length]
   have HRG2 := Lib.hid hrg2
   have HZ2 := Lib.hid ((HZ.out.drewN 1).later hb2)
   have HRW := Lib.hid (HLW.out _ HZ2.out.below 0)
   have hc2 := HZ2.out.cells
   have HC2 := Lib.hid hc2
   have HC3 := Lib.hid (HZ2.out.putcells g o f n)
   clear hr2 hb2 hrg2 hc2
   go_wp2_with fail
   refine hK.out _ _ ?q (fun hHeld => ?_)
   case q => (try dsimp only); exact HC2.out
   clear hK K
   try simp only [zpt]
   refine zrd 8 rfl (fun K hK => ?_)
   go_simp
   refine (equal_len g2 0 gb 0 128 128 (headB g o f n) b (headB_length g o f n) HNM.out.len cap2 cap w2 HRG2.out HRW.out).mono ?_
   rintro e w3 ⟨rfl, hw3⟩
   have hw3 := hw3.symm
   subst hw3
   rw [decide_eq_false HNE.out]
   go_wp2_with fail
   refine hK.out _ _ ?q (fun hHeld => ?_)
   case q => (try dsimp only); exact HC2.out
   clear hK K
   try simp only [zpt]
   refine ztk 9 rfl ?_
   refine zrd 10 rfl (fun K hK => ?_)
   obtain ⟨r0, r1, r2, r3⟩ := HZ2.out.rescells
   have q0 := HZ2.out.resfree
   go_simp
   clear r0 r1 r2 r3 q0
   refine hK.out _ _ ?q (fun hHeld => ?_)
   case q => (try dsimp only); exact HC3.out
   clear hK K
   try simp only [zpt]
   refine ztk 11 rfl ?_
   refine wpAnyH_done (by kernel_rfl) ?_ _
   refine NoPanic.normal ?_
   clear hHeld
   go_wp2_with fail
   (try simp only [Exit.inBlock, Exit.then])
   refine bodyPost_ret (results_row_tmp rfl _ _ w.heap.size _ _ _ _ rfl (HZ2.out.put g o f n).1 Tryz.underlying47 rfl (by kernel_rfl)) rfl ?_
   exact ⟨_, _, _, _, rfl, (HZ2.out.put g o f n).2⟩
theorem load_no (Sd : Nat → Prop) (d : Nat) (D : Dsk) (jb a g o f n : Nat) (w : World) (h : DiskAt w Sd d D) (hj : JBlk w jb d ⟨a, 0, 0, 0, 0, [], [], 0⟩ (.slice none 0 0) (.slice none 0 0)) (ho : D.off = false) (ha : a ≤ 1) (h2 : 2 ≤ D.n)
  (hh : NoHd (D.now (a * (D.n / 2))) g o f n) :
  Calls Tryz.prog 25 #[.pointer (some ⟨jb, 0, none⟩)] w fun e w' => e = .returned (.bool false) ∧ Off (fun b => b = jb) w w' := by
 have hhalf : a * (D.n / 2) < D.n := by
  obtain h1 | h1 : a = 0 ∨ a = 1 := by omega
  ·rw [h1]; omega
  ·rw [h1]; omega
 have HD := Lib.hid h
 have HJ := Lib.hid hj
 have HO := Lib.hid ho
 have HH := Lib.hid hh
 have HHALF := Lib.hid hhalf
 clear h hj ho ha hh hhalf h2
 go_enter Tryz.func25, Tryz.ntmps25
 go_wp2_with fail
 refine (sector_at Sd d D jb _ _ _ 0 w HD.out HJ.out (by have := HHALF.out; exact this) HO.out).mono ?_
 rintro e w1 ⟨gb, rfl, hgb, hgb2, hrb, hg1⟩
 have hrb' : w1.rangeAt gb 0 (u8s (D.now (a * (D.n / 2)))) := hrb
 have HG1 := Lib.hid hg1
 clear hrb hg1
 go_wp2_with fail
 refine (headOf_no gb 128 g o f n _ HH.out w1 hrb' hgb2 (by decide) (by decide)).mono ?_
 rintro e w2 ⟨x0, x1, x2, x3, rfl, hb2⟩
 have HG2 : Hid (w.grownBy w2 none) := HG1.out.andThen (Below.to_grown hb2) (fun _ h => .inr h)
 clear hb2 hrb'
 go_wp2_with fail
 go_ret
 exact ⟨rfl, Off.of_grown (HG2.out.andThen (World.grownBy_alloc w2 _ none) (fun _ h => .inr h)) (fun k e => by cases e)⟩
structure Bears (D : Dsk) (J : Jn) : Prop where
 area : J.area ≤ 1
 head : D.now (J.area * (D.n / 2)) = headB J.gen J.op J.first J.size
 gen : 1 ≤ J.gen ∧ J.gen ≤ 4611686018427387904
 op : 1 ≤ J.op ∧ J.op ≤ 4611686018427387904
 first : 1 ≤ J.first ∧ J.first + J.recs.length ≤ 4611686018427387904
 size : J.size ≤ 1048576
 st : ∃ M fs, Wy D.now (J.area * (D.n / 2)) (D.n / 2) 0 67 0 J.gen M fs ∧ joined fs M = J.st ∧ J.st.length = J.size ∧ Recs D.now (J.area * (D.n / 2)) (D.n / 2) J.op J.first M 0 0 J.recs J.used
inductive AreaOk (D : Dsk) (a : Nat) : (Option Jn → Prop) → Prop
 | zero (h : D.now (a * (D.n / 2)) = noughts) : AreaOk D a (fun r => r = none)
 | nohd (g o f n : Nat) (h : NoHd (D.now (a * (D.n / 2))) g o f n) : AreaOk D a (fun r => r = none)
 | short (g o f n : Nat) (hh : D.now (a * (D.n / 2)) = headB g o f n) (hg : 1 ≤ g ∧ g ≤ 4611686018427387904) (hop : 1 ≤ o ∧ o ≤ 4611686018427387904) (hf : 1 ≤ f ∧ f ≤ 4611686018427387904) (hn : n ≤ 1048576) (hst : Wn D.now (a * (D.n / 2)) (D.n / 2) 0 67 0 ∨ ∃ s M fs, Wy D.now (a * (D.n / 2)) (D.n / 2) 0 67 0 s M fs ∧ (s ≠ g ∨ (joined fs M).length ≠ n)) : AreaOk D a (fun r => r = none)
 | bears (J : Jn) (ha : J.area = a) (h : Bears D J) : AreaOk D a (fun r => r = some J)
 | any (g o f n : Nat) (hh : D.now (a * (D.n / 2)) = headB g o f n) (hg : 1 ≤ g ∧ g ≤ 4611686018427387904) (hop : 1 ≤ o ∧ o ≤ 4611686018427387904) (hf : 1 ≤ f ∧ f + 16384 ≤ 4611686018427387904) (hn : n ≤ 1048576) (hc : Clean D.now (a * (D.n / 2)) (D.n / 2)) : AreaOk D a (fun r => ∀ J, r = some J → J.gen = g)
theorem AreaOk.length {D : Dsk} {a : Nat} {P : Option Jn → Prop} (h : AreaOk D a P) : (D.now (a * (D.n / 2))).length = 128 := by
 cases h with
 | zero h => rw [h]; exact noughts_length
 | nohd g o f n h => exact h.len
 | short g o f n hh => rw [hh]; exact headB_length ..
 | bears J ha h => rw [← ha, h.head]; exact headB_length ..
 | any g o f n hh => rw [hh]; exact headB_length ..
theorem load_area {P : Option Jn → Prop} (Sd : Nat → Prop) (d : Nat) (D : Dsk) (jb a : Nat) (w : World) (h : DiskAt w Sd d D) (hlt : ∀ b, Sd b → b < w.heap.size) (hjs : ¬ Sd jb) (hj : JBlk w jb d ⟨a, 0, 0, 0, 0, [], [], 0⟩ (.slice none 0 0) (.slice none 0 0)) (ho : D.off = false) (ha : a ≤ 1) (h2 : 2 ≤ D.n) (hk : AreaOk D a P) :
  Calls Tryz.prog 25 #[.pointer (some ⟨jb, 0, none⟩)] w fun e w' => ∃ r : Option Jn, P r ∧ e = .returned (.bool r.isSome) ∧ (∀ J, r = some J → J.area = a ∧ JAt w' (fun b => b = jb ∨ (w.heap.size ≤ b ∧ b < w'.heap.size)) jb d J) ∧ Off (fun b => b = jb) w w' := by
 cases hk with
 | zero hz =>
  refine (load_zero Sd d D jb a w h hj ho ha h2 hz).mono ?_
  rintro e w' ⟨rfl, h2⟩
  exact ⟨none, rfl, rfl, fun J h => (by cases h), h2⟩
 | nohd g o f n hz =>
  refine (load_no Sd d D jb a g o f n w h hj ho ha h2 hz).mono ?_
  rintro e w' ⟨rfl, h2⟩
  exact ⟨none, rfl, rfl, fun J h => (by cases h), h2⟩
 | short g o f n hh hg hop hf hn hst =>
  refine (load_short Sd d D jb a g o f n w h hj ho ha h2 hh hg hop hf hn hst).mono ?_
  rintro e w' ⟨rfl, h2⟩
  exact ⟨none, rfl, rfl, fun J h => (by cases h), h2⟩
 | bears J hJa hb =>
  obtain ⟨ja, g, o, f, n, st, recs, used⟩ := J
  subst hJa
  obtain ⟨b1, b2, b3, b4, b5, b6, M, fs, hw, hst, hln, hrec⟩ := hb
  dsimp only at *
  subst hst
  refine (load_yes Sd d D jb ja g o f n M used fs recs w h hlt hjs hj ho ha h2 b2 b3 b4 b5 b6 hw hln hrec).mono ?_
  rintro e w' ⟨rfl, h1, h2⟩
  refine ⟨some _, rfl, rfl, fun J h => ?_, h2⟩
  cases h
  exact ⟨rfl, h1⟩
 | any g o f n hh hg hop hf hn hc =>
  refine (load_any Sd d D jb a g o f n w h hlt hjs hj ho ha h2 h.1 hh hg hop hf hn hc).mono ?_
  rintro e w' ⟨b, rfl, h1, h2⟩
  cases b with
  | false => exact ⟨none, fun J h => (by cases h), rfl, fun J h => (by cases h), h2⟩
  | true =>
   obtain ⟨J, e1, e2, hJ⟩ := h1 rfl
   refine ⟨some J, fun J' h => ?_, rfl, fun J' h => ?_, h2⟩
   ·cases h
    exact e2
   ·cases h
    exact ⟨e1, hJ⟩
def choose : Option Jn → Option Jn → Option Jn
 | none, r => r
 | some J, none => some J
 | some J, some K => if K.gen > J.gen then some K else some J
def Pre (P0 P1 : Option Jn → Prop) : Nat → Option Jn → Prop
 | 0, r => r = none
 | 1, r => P0 r
 | _, r => ∃ r0 r1, P0 r0 ∧ P1 r1 ∧ r = choose r0 r1
theorem Pre.next {P0 P1 : Option Jn → Prop} {k : Nat} {r r' : Option Jn} (hk : k < 2) (h : Pre P0 P1 k r) (h' : (if k = 0 then P0 else P1) r') : Pre P0 P1 (k + 1) (choose r r') := by
 match k, hk with
 | 0, _ =>
  have : r = none := h
  subst this
  exact h'
 | 1, _ => exact ⟨r, r', h, h', rfl⟩
def JPtr (w wr : World) (d : Nat) (v : Value) : Option Jn → Prop
 | none => v = .pointer none
 | some J => ∃ jb, v = .pointer (some ⟨jb, 0, none⟩) ∧ w.heap.size ≤ jb ∧ J.area ≤ 1 ∧ JAt wr (fun b => w.heap.size ≤ b ∧ b < wr.heap.size) jb d J
theorem JPtr.off {w wr w' : World} {d : Nat} {v : Value} {r : Option Jn} {T : Nat → Prop} (h : JPtr w wr d v r) (ho : Off T wr w') (hT : ∀ b, b < wr.heap.size → ¬ T b) : JPtr w w' d v r := by
 cases r with
 | none => exact h
 | some J =>
  obtain ⟨jb, rfl, h0, ha, sv, rv, vs, hj⟩ := h
  have h1 := hj.off ho (fun b hb => hT b hb.2)
  exact ⟨jb, rfl, h0, ha, sv, rv, vs, ⟨h1.blk, h1.st, h1.rows, h1.recs, ⟨⟨h1.own.1.1, Nat.lt_of_lt_of_le h1.own.1.2 ho.size⟩, fun g hg => ⟨(h1.own.2.1 g hg).1, Nat.lt_of_lt_of_le (h1.own.2.1 g hg).2 ho.size⟩, fun g hg => ⟨(h1.own.2.2.1 g hg).1, Nat.lt_of_lt_of_le (h1.own.2.2.1 g hg).2 ho.size⟩, fun v hv g hg => ⟨(h1.own.2.2.2 v hv g hg).1, Nat.lt_of_lt_of_le (h1.own.2.2.2 v hv g hg).2 ho.size⟩⟩, fun b hb => hb.2⟩⟩
theorem JAt.wide {w : World} {S T : Nat → Prop} {jb d : Nat} {J : Jn} (h : JAt w S jb d J) (hST : ∀ b, S b → T b) (hT : ∀ b, T b → b < w.heap.size) : JAt w T jb d J := by
 obtain ⟨sv, rv, vs, h1⟩ := h
 exact ⟨sv, rv, vs, ⟨h1.blk, h1.st, h1.rows, h1.recs, ⟨hST _ h1.own.1, fun g hg => hST _ (h1.own.2.1 g hg), fun g hg => hST _ (h1.own.2.2.1 g hg), fun v hv g hg => hST _ (h1.own.2.2.2 v hv g hg)⟩, hT⟩⟩
theorem count_full (l : List UInt8) (h : l.length = 128) : decide (((l.count 0 : Nat) : Int) = 128) = decide (l = noughts) := by
 by_cases e : l = noughts
 ·have h3 : l.count 0 = 128 := by rw [e, noughts, List.count_replicate_self]
  rw [h3]
  simp [e]
 ·have : l.count 0 ≠ 128 := fun h2 => e (by
   have h3 : l.count 0 = l.length := by omega
   have h4 := List.count_eq_length.1 h3
   rw [noughts, ← h]
   exact List.eq_replicate_iff.2 ⟨rfl, fun b hb => (h4 b hb).symm⟩)
  simp [e]
  omega
theorem sec_lt {k n : Nat} (hk : k < 2) (hn : 4 ≤ n) : k * (n / 2) + 0 < n := by
 obtain h1 | h1 : k = 0 ∨ k = 1 := by omega
 ·rw [h1]; omega
 ·rw [h1]; omega
theorem area_len {D : Dsk} {P0 P1 : Option Jn → Prop} {k : Nat} (hk : k < 2) (h0 : AreaOk D 0 P0) (h1 : AreaOk D 1 P1) : (D.now (k * (D.n / 2))).length = 128 := by
 obtain rfl | rfl : k = 0 ∨ k = 1 := by omega
 ·exact h0.length
 ·exact h1.length
theorem area_ok {D : Dsk} {P0 P1 : Option Jn → Prop} {k : Nat} (hk : k < 2) (h0 : AreaOk D 0 P0) (h1 : AreaOk D 1 P1) : AreaOk D k (if k = 0 then P0 else P1) := by
 obtain rfl | rfl : k = 0 ∨ k = 1 := by omega
 ·exact h0
 ·exact h1
theorem rangeAt_grown {w w' : World} {g o : Nat} {xs : List Value} (h : w.rangeAt g o xs) (hg : w.grownBy w' none) : w'.rangeAt g o xs := fun j v hv => hg.cell (h j v hv) (by simp)
theorem _root_.Go.Proofs.YtgdedgfohjplmaaGreat.Sec.Off.trans_new {w a b : World} {T : Nat → Prop} (h : Off (fun _ => False) w a) (k : Off T a b) (hT : ∀ x, T x → w.heap.size ≤ x) : Off (fun _ => False) w b :=
 ⟨k.os.trans h.os, k.tape.trans h.tape, k.output.trans h.output, Nat.le_trans h.size k.size, fun j hj hs => (k.block j (Nat.lt_of_lt_of_le hj h.size) (fun ht => by have := hT j ht; omega)).trans (h.block j hj hs)⟩
theorem count_full2 (l : List UInt8) (h : l.length = 128) : (((l.count 0 : Nat) : Int) == 128) = decide (l = noughts) := by
 rw [← count_full l h]
 by_cases e : ((l.count 0 : Nat) : Int) = 128 <;> simp [e]
theorem choose_none (r : Option Jn) : choose r none = r := by cases r <;> rfl
theorem new_ptr {w wa wb : World} {xb d k : Nat} {r : Option Jn} {J : Jn} (h : ∀ J', r = some J' → J'.area = k ∧ JAt wb (fun b => b = xb ∨ (wa.heap.size ≤ b ∧ b < wb.heap.size)) xb d J') (hk : k < 2) (hx : w.heap.size ≤ xb) (_ : w.heap.size ≤ wa.heap.size) (hxa : xb < wa.heap.size) (hs : wa.heap.size ≤ wb.heap.size) (hr : r = some J) : JPtr w wb d (.pointer (some ⟨xb, 0, none⟩)) (some J) := by
 obtain ⟨h1, h2⟩ := h J hr
 refine ⟨xb, rfl, hx, by omega, h2.wide (fun b hb => ?_) (fun b hb => hb.2)⟩
 rcases hb with rfl | hb
 ·exact ⟨hx, by omega⟩
 ·exact ⟨by omega, hb.2⟩
theorem area_lt {a n : Nat} (ha : a ≤ 1) (hn : 4 ≤ n) : a * (n / 2) < n := by
 obtain h1 | h1 : a = 0 ∨ a = 1 := by omega
 ·rw [h1]; omega
 ·rw [h1]; omega
theorem op_set {w wr w5 w6 : World} {Sd : Nat → Prop} {jb d : Nat} {J J' : Jn} {sv rv : Value} {vs : List Value} (h : JIn wr (fun b => w.heap.size ≤ b ∧ b < wr.heap.size) jb d J sv rv vs) (hg : wr.grownBy w5 (some jb)) (hb : JBlk w6 jb d J' sv rv) (h1 : J'.st = J.st) (h2 : J'.recs = J.recs) (ho : Off Sd w5 w6) (hS : ∀ b, w.heap.size ≤ b ∧ b < wr.heap.size → ¬ Sd b) :
  JAt w6 (fun b => w.heap.size ≤ b ∧ b < wr.heap.size) jb d J' := by
 have row : ∀ {e : TypeId} {sz n : Nat} {v : Value} {xs : List Value}, wr.ownsRow 0 e sz v n xs → (∀ g, v.ownBlock = some g → w.heap.size ≤ g ∧ g < wr.heap.size) → (∀ g, v.ownBlock = some g → g ≠ jb) → w6.ownsRow 0 e sz v n xs := fun hr hv hj =>
  Sec.row_off (Sec.row_off hr (Off.of_grown hg (S := fun b => b = jb) (fun k e => by cases e; rfl)) (fun g hg => hj g hg)) ho (fun g hg => hS g (hv g hg))
 have hne : ∀ {e : TypeId} {sz n : Nat} {v : Value} {xs : List Value}, e ≠ 50 → wr.ownsRow 0 e sz v n xs → ∀ g, v.ownBlock = some g → g ≠ jb := by
  intro e sz n v xs he hr g hg e2
  obtain ⟨_, ⟨rfl, _⟩ | ⟨g1, cap, cur, rfl, _, hbb, _⟩⟩ := hr
  ·simp [Value.ownBlock] at hg
  ·simp [Value.ownBlock] at hg
   have hq := h.blk
   unfold JBlk at hq
   rw [hg, e2, hq] at hbb
   injection hbb with hbb
   injection hbb with _ hbb
   exact he hbb.symm
 refine ⟨sv, rv, vs, ⟨hb, ?_, ?_, ?_, h.own, fun b hb => ?_⟩⟩
 ·rw [h1]
  exact row h.st h.own.2.1 (hne (by decide) h.st)
 ·rw [h2]
  exact row h.rows h.own.2.2.1 (hne (by decide) h.rows)
 ·intro i l hi
  rw [h2] at hi
  obtain ⟨v, hv, hr⟩ := h.recs i l hi
  exact ⟨v, hv, row hr (h.own.2.2.2 v (List.mem_of_getElem? hv)) (hne (by decide) hr)⟩
 ·exact Nat.lt_of_lt_of_le hb.2 (Nat.le_trans hg.size ho.size)
theorem op_apart {w wr w5 w6 : World} {Sd Sd' : Nat → Prop} (hlt : ∀ b, Sd b → b < w.heap.size) (hs : wr.heap.size ≤ w5.heap.size) (h : ∀ b, Sd' b → (Sd b ∨ w5.heap.size ≤ b) ∧ b < w6.heap.size) : ∀ b, w.heap.size ≤ b ∧ b < wr.heap.size → w.heap.size ≤ b ∧ ¬ Sd' b := fun b hb => ⟨hb.1, fun hd => by
 rcases (h b hd).1 with h1 | h1
 ·have := hlt b h1
  omega
 ·omega⟩
theorem op_disk {w wr w5 w6 : World} {Sd Sd' : Nat → Prop} (ho : w.heap.size ≤ wr.heap.size) (hs : wr.heap.size ≤ w5.heap.size) (h : ∀ b, Sd' b → (Sd b ∨ w5.heap.size ≤ b) ∧ b < w6.heap.size) : ∀ b, Sd' b → (Sd b ∨ w.heap.size ≤ b) ∧ b < w6.heap.size := fun b hb => ⟨(h b hb).1.elim .inl (fun h1 => .inr (by omega)), (h b hb).2⟩
def newJ : Jn := ⟨0, 1, 1, 1, 0, [], [], 1⟩
def opened (D : Dsk) : Option Jn → Jn × Dsk
 | some J => ({ J with op := J.op + 1 }, D.push (J.area * (D.n / 2)) (headB J.gen (J.op + 1) J.first J.size))
 | none => (newJ, (pushes D (0 * (D.n / 2) + 1) (fun i => partB 67 1 0 i (parts ([] : List UInt8).length) (chunk [] i)) (upto (parts ([] : List UInt8).length))).push (0 * (D.n / 2)) (headB 1 1 1 0))
theorem new_at_all {w : World} {jb d : Nat} (h : JBlk w jb d newJ (.slice none 0 0) (.slice none 0 0)) : JAt w (fun b => b = jb) jb d newJ :=
 ⟨_, _, [], ⟨h, ⟨rfl, .inl ⟨rfl, rfl⟩⟩, ⟨rfl, .inl ⟨rfl, rfl⟩⟩, fun i l hi => by simp [newJ] at hi, ⟨rfl, fun g hg => by simp [Value.ownBlock] at hg, fun g hg => by simp [Value.ownBlock] at hg, fun v hv => by simp at hv⟩, fun b e => e ▸ h.lt⟩⟩
theorem open_at {P0 P1 : Option Jn → Prop} (R : Option Jn) (Sd : Nat → Prop) (d : Nat) (D : Dsk) (w : World) (h : DiskAt w Sd d D) (hlt : ∀ b, Sd b → b < w.heap.size) (ho : D.off = false) (harm : D.armed = none) (hwr : D.wr.length + 70000 < 1000000) (h4 : 4 ≤ D.n) (k0 : AreaOk D 0 P0) (k1 : AreaOk D 1 P1)
  (hR : ∀ r, Pre P0 P1 2 r → r = R) (hfr : R = none → ∀ b, b < 2 → D.now (b * (D.n / 2)) = noughts) (hop : ∀ J, R = some J → J.op + 1 ≤ 4611686018427387904 ∧ J.gen ≤ 4611686018427387904 ∧ J.first ≤ 4611686018427387904 ∧ J.size ≤ 1048576) :
  Calls Tryz.prog 4 #[.pointer (some ⟨d, 0, none⟩)] w fun e w' => ∃ jb Sj Sd', e = .returned (.tuple #[.pointer (some ⟨jb, 0, none⟩), .int .i64 0]) ∧ JAt w' Sj jb d (opened D R).1 ∧ DiskAt w' Sd' d (opened D R).2 ∧ (∀ b, Sj b → w.heap.size ≤ b ∧ ¬ Sd' b) ∧ (∀ b, Sd' b → (Sd b ∨ w.heap.size ≤ b) ∧ b < w'.heap.size) ∧ Off Sd w w' := by
 have HD := Lib.hid h
 have HLT := Lib.hid hlt
 have HO := Lib.hid ho
 have HARM := Lib.hid harm
 have HWR := Lib.hid hwr
 have HK0 := Lib.hid k0
 have HK1 := Lib.hid k1
 have HR := Lib.hid hR
 have HFR := Lib.hid hfr
 have HOP := Lib.hid hop
 have HN := Lib.hid h4
 have d4 : decide ((D.n : Int) < 4) = false := by simp; omega
 have doff := ho
 clear h hlt ho harm hwr k0 k1 hR hfr hop h4
 go_enter Tryz.func4, Tryz.ntmps4
 go_wp2_with fail
 refine (sectors_at Sd d D w HD.out).mono ?_
 rintro e wq ⟨rfl, hwq⟩
 subst hwq
 go_wp2_with fail
 refine (off_at Sd d D w HD.out).mono ?_
 rintro e wq ⟨rfl, hwq⟩
 subst hwq
 rw [doff]
 clear doff d4
 go_wp2_with fail
 go_loopw [4, 5, 18] (fun jv fv kv wr => ∃ (k : Nat) (r : Option Jn) (fr : Bool), kv = .int .i64 (k : Int) ∧ k ≤ 2 ∧ fv = .bool fr ∧ Pre P0 P1 k r ∧ ((∀ b, b < k → D.now (b * (D.n / 2)) = noughts) → fr = true) ∧ JPtr w wr d jv r ∧ Off (fun _ => False) w wr) (fun _ _ kv _ => 2 - (intOf kv).toNat)
 case atStart => exact ⟨0, none, true, rfl, by decide, rfl, rfl, fun _ => rfl, rfl, Off.refl _ _⟩
 case round =>
  obtain ⟨k, r, fr, rfl, hk2, rfl, hpre, hfr, hptr, hoff⟩ := hrel
  by_cases hk : k < 2
  ·have d1 : decide ((k : Int) < 2) = true := by simp; omega
   have HK := Lib.hid hk
   have HPRE := Lib.hid hpre
   have HFRB := Lib.hid hfr
   have HPTR := Lib.hid hptr
   have HOFF := Lib.hid hoff
   clear hk2 hpre hfr hptr hoff hk
   go_upto_region 13 with fail
   have hb1 := (MapKept.heap_alloc wr (.cells (JC d ⟨k, 0, 0, 0, 0, [], [], 0⟩ (.slice none 0 0) (.slice none 0 0)) 50)).1
   have hg1 := World.grownBy_alloc wr (.cells (JC d ⟨k, 0, 0, 0, 0, [], [], 0⟩ (.slice none 0 0) (.slice none 0 0)) 50) none
   have hs1 : (wr.alloc (.cells (JC d ⟨k, 0, 0, 0, 0, [], [], 0⟩ (.slice none 0 0) (.slice none 0 0)) 50)).heap.size = wr.heap.size + 1 := World.size_alloc ..
   obtain ⟨w1, hw1⟩ : ∃ w1, w1 = wr.alloc (.cells (JC d ⟨k, 0, 0, 0, 0, [], [], 0⟩ (.slice none 0 0) (.slice none 0 0)) 50) := ⟨_, rfl⟩
   obtain ⟨xb, hxb⟩ : ∃ xb, xb = wr.heap.size := ⟨_, rfl⟩
   rw [← hw1, ← hxb] at hb1 hs1
   rw [← hw1] at hg1
   have e1 : (wr.alloc (Obj.cells #[Value.pointer (some ⟨d, 0, none⟩), .int .i64 (k : Int), .int .i64 0, .int .i64 0, .int .i64 0, .int .i64 0, .slice none 0 0, .slice none 0 0, .int .i64 0, .int .i64 0] 50)) = w1 := hw1.symm
   rw [e1, ← hxb]
   clear e1
   have HB1 : Hid (JBlk w1 xb d ⟨k, 0, 0, 0, 0, [], [], 0⟩ (.slice none 0 0) (.slice none 0 0)) := hb1
   have HG1 := Lib.hid hg1
   have HWK : Hid (wrap64 ((k : Int) + 1) = ((k + 1 : Nat) : Int)) := by show _ = _; have := HK.out; unfold wrap64; omega
   have HXB : Hid (w.heap.size ≤ xb ∧ wr.heap.size ≤ xb) := by
    have h1 := HOFF.out.size
    exact ⟨by omega, by omega⟩
   have HD1 : Hid (DiskAt w1 Sd d D) := (HD.out.off HOFF.out (fun _ _ _ h => h)).grown HG1.out
   clear hb1 hg1 hs1 hw1 hxb
   -- what is left of the round, behind the flag
   cases fr with
   | true =>
    go_wp2_with fail
    refine (sector_at Sd d D xb _ _ _ 0 w1 HD1.out HB1.out (sec_lt HK.out HN.out) HO.out).mono ?_
    rintro e w2 ⟨gb, rfl, hgb, hgb2, hrb, hg2⟩
    have hrb' : w2.rangeAt gb 0 (u8s (D.now (k * (D.n / 2)))) := hrb
    have HG2 := Lib.hid hg2
    have HGB := Lib.hid (And.intro hgb hgb2)
    clear hrb hg2 hgb hgb2
    go_wp2_with fail
    have hz : (w2.alloc (.cells #[.int .u8 0] 5)).cell? ⟨w2.heap.size, 0, none⟩ = some (.int .u8 0) := cell_blk (MapKept.heap_alloc w2 _).1 0
    have hg2b := World.grownBy_alloc w2 (.cells #[.int .u8 0] 5) none
    obtain ⟨w2b, hw2b⟩ : ∃ w2b, w2b = w2.alloc (.cells #[.int .u8 0] 5) := ⟨_, rfl⟩
    obtain ⟨zb, hzb⟩ : ∃ zb, zb = w2.heap.size := ⟨_, rfl⟩
    rw [← hw2b, ← hzb] at hz
    rw [← hw2b] at hg2b ⊢
    rw [← hzb]
    have HG3 : Hid (w1.grownBy w2b none) := HG2.out.andThen hg2b (fun _ h => .inr h)
    have HLN : Hid ((D.now (k * (D.n / 2))).length = 128) := area_len HK.out HK0.out HK1.out
    refine (count_zeros gb zb 128 128 1 (D.now (k * (D.n / 2))) w2b HLN.out (rangeAt_grown hrb' hg2b) hz).mono ?_
    rintro e wq ⟨rfl, hwq⟩
    have hwq := hwq.symm
    subst hwq
    have hcf := count_full2 _ HLN.out
    obtain ⟨f2, hf2⟩ : ∃ f2, f2 = decide (D.now (k * (D.n / 2)) = noughts) := ⟨_, rfl⟩
    rw [← hf2] at hcf
    have HF2 := Lib.hid hf2
    obtain ⟨cn, hcn⟩ : ∃ cn, cn = (D.now (k * (D.n / 2))).count 0 := ⟨_, rfl⟩
    rw [← hcn] at hcf
    rw [← hcn]
    have HCF := Lib.hid hcf
    clear hcf hrb' hz hg2b hw2b hzb hf2 hcn
    have HF : Hid ((∀ b, b < k + 1 → D.now (b * (D.n / 2)) = noughts) → (((cn : Nat) : Int) == 128) = true) := fun h => by rw [HCF.out, HF2.out, h k (by omega)]; simp
    have HD3 : Hid (DiskAt w2b Sd d D) := HD1.out.grown HG3.out
    have HB3 : Hid (JBlk w2b xb d ⟨k, 0, 0, 0, 0, [], [], 0⟩ (.slice none 0 0) (.slice none 0 0)) := HB1.out.grown HG3.out
    have HP3 : Hid (JPtr w w2b d u4 r) := (HPTR.out.off (Off.of_grown HG1.out (S := fun _ => False) (by simp)) (fun _ _ h => h)).off (Off.of_grown HG3.out (S := fun _ => False) (by simp)) (fun _ _ h => h)
    have HO3 : Hid (Off (fun _ => False) w w2b) := (HOFF.out.trans (Off.of_grown HG1.out (by simp))).trans (Off.of_grown HG3.out (by simp))
    have HX3 : Hid (xb < w2b.heap.size) := HB3.out.lt
    have HPX : Hid (∀ w4, Off (fun b => b = xb) w2b w4 → JPtr w w4 d u4 r) := fun w4 ho => HPTR.out.off (((Off.of_grown HG1.out (by simp) : Off (fun b => b = xb) wr w1).trans (Off.of_grown HG3.out (by simp))).trans ho) (fun b hb e => by have := HXB.out.2; omega)
    clear HPTR
    go_upto_region 14 with fail
    refine wp_region_noPanic ?_
    refine wp_region_held_drew (S := fun _ => True) (by kernel_rfl) ?hSw2ba (fun hHeld => ?_)
    case hSw2ba => trivial
    refine ztk 0 rfl ?_
    refine zrd 1 rfl (fun K hK => ?_)
    go_simp
    refine (load_area (P := if k = 0 then P0 else P1) Sd d D xb k w2b.drew (HD3.out.grown ⟨rfl, rfl, rfl, Nat.le_refl _, fun _ _ _ => rfl⟩) (fun b hb => Nat.lt_of_lt_of_le (HLT.out b hb) HO3.out.size) (fun hb => by have h1 := HLT.out _ hb; have h2 := HXB.out.1; omega) HB3.out HO.out (by have := HK.out; omega) (by have := HN.out; omega) (area_ok HK.out HK0.out HK1.out)).mono ?_
    rintro e w4 ⟨r', hP, rfl, hJ, ho4⟩
    have HPP := Lib.hid hP
    have HJ := Lib.hid hJ
    have HO4 : Hid (Off (fun b => b = xb) w2b w4) := (Off.of_grown (row := none) ⟨rfl, rfl, rfl, Nat.le_refl _, fun _ _ _ => rfl⟩ (by simp) : Off (fun b => b = xb) w2b w2b.drew).trans ho4
    clear hP hJ ho4
    go_wp2_with fail
    refine hK.out _ _ ?q (fun hHeld => ?_)
    case q => (try dsimp only); (try trivial)
    clear hK K
    try simp only [zpt]
    have HP4 : Hid (JPtr w w4 d u4 r) := HPX.out w4 HO4.out
    have HOW : Hid (Off (fun _ => False) w w4) := (HO3.out.trans_new HO4.out (fun b hb => hb ▸ HXB.out.1))
    clear HP3
    rcases r' with _ | J'
    ·refine ztk 2 rfl ?_
     refine ztu 3 rfl ?_
     refine ztu 4 rfl ?_
     refine ztu 5 rfl ?_
     refine ztu 6 rfl ?_
     refine ztu 7 rfl ?_
     refine ztu 8 rfl ?_
     refine ztu 9 rfl ?_
     refine ztu 10 rfl ?_
     refine ztu 11 rfl ?_
     refine ztu 12 rfl ?_
     refine ztu 13 rfl ?_
     refine ztu 14 rfl ?_
     refine ztu 15 rfl ?_
     refine ztu 16 rfl ?_
     refine ztu 17 rfl ?_
     refine ztk 18 rfl ?_
     refine wpAnyH_done (by kernel_rfl) ?_ _
     refine NoPanic.normal ?_
     clear hHeld
     go_wp2_with fail
     go_roundw
     case rel => exact ⟨k + 1, choose r none, _, (by rw [HWK.out]), by have := HK.out; omega, rfl, Pre.next HK.out HPRE.out HPP.out, HF.out, by rw [choose_none]; exact HP4.out, HOW.out⟩
     case measure => rw [HWK.out]; have := HK.out; simp only [intOf]; omega
    ·rcases r with _ | J
     ·have hn := HP4.out
      subst hn
      refine ztk 2 rfl ?_
      refine ztk 3 rfl ?_
      refine ztk 4 rfl ?_
      refine ztk 5 rfl ?_
      refine ztu 6 rfl ?_
      refine ztu 7 rfl ?_
      refine ztu 8 rfl ?_
      refine ztu 9 rfl ?_
      refine ztu 10 rfl ?_
      refine ztu 11 rfl ?_
      refine ztu 12 rfl ?_
      refine ztu 13 rfl ?_
      refine ztu 14 rfl ?_
      refine ztu 15 rfl ?_
      refine ztu 16 rfl ?_
      refine ztk 17 rfl ?_
      refine ztk 18 rfl ?_
      refine wpAnyH_done (by kernel_rfl) ?_ _
      refine NoPanic.normal ?_
      clear hHeld
      go_wp2_with fail
      go_roundw
      case rel => exact ⟨k + 1, choose none (some J'), _, (by rw [HWK.out]), by have := HK.out; omega, rfl, Pre.next HK.out HPRE.out HPP.out, HF.out, new_ptr HJ.out HK.out HXB.out.1 HO3.out.size HX3.out HO4.out.size rfl, HOW.out⟩
      case measure => rw [HWK.out]; have := HK.out; simp only [intOf]; omega
     ·obtain ⟨jb, hjb, hjw, hja, svj, rvj, vsj, hjj⟩ := HP4.out
      subst hjb
      obtain ⟨svx, rvx, vsx, hxx⟩ := (HJ.out J' rfl).2
      have cx : w4.cell? ⟨xb, 2, none⟩ = some (.int .i64 (J'.gen : Int)) := hxx.blk.cell 2
      have cj : w4.cell? ⟨jb, 2, none⟩ = some (.int .i64 (J.gen : Int)) := hjj.blk.cell 2
      clear hxx hjj
      refine ztk 2 rfl ?_
      refine ztk 3 rfl ?_
      refine ztk 4 rfl ?_
      refine ztk 5 rfl ?_
      refine ztk 6 rfl ?_
      refine ztk 7 rfl ?_
      refine ztk 8 rfl ?_
      refine ztk 9 rfl ?_
      refine ztk 11 rfl ?_
      refine ztk 12 rfl ?_
      refine ztk 13 rfl ?_
      refine ztk 14 rfl ?_
      refine zrd2 10 15 rfl rfl (fun K hK => ?_) (fun K hK => ?_)
      go_simp
      refine hK.out _ _ ?q (fun hHeld => ?_)
      case q => (try dsimp only); (try trivial)
      clear hK K
      try simp only [zpt]
      refine zrd 15 rfl (fun K hK => ?_)
      rotate_left
      go_simp
      refine hK.out _ _ ?q (fun hHeld => ?_)
      case q => (try dsimp only); (try trivial)
      clear hK K
      try simp only [zpt]
      refine zrd 10 rfl (fun K hK => ?_)
      rotate_left
      all_goals
       go_simp
       refine hK.out _ _ ?q (fun hHeld => ?_)
       case q => (try dsimp only); (try trivial)
       clear hK K
       try simp only [zpt]
       refine ztk 16 rfl ?_
       refine ztk 17 rfl ?_
       refine ztk 18 rfl ?_
       refine wpAnyH_done (by kernel_rfl) ?_ _
       refine NoPanic.normal ?_
       clear hHeld
       by_cases hgt : J.gen < J'.gen
       ·have dg : decide ((J.gen : Int) < (J'.gen : Int)) = true := by simp; omega
        go_wp2_with fail
        go_roundw
        case rel => exact ⟨k + 1, choose (some J) (some J'), _, (by rw [HWK.out]), by have := HK.out; omega, rfl, Pre.next HK.out HPRE.out HPP.out, HF.out, by rw [show choose (some J) (some J') = some J' from if_pos hgt]; exact new_ptr HJ.out HK.out HXB.out.1 HO3.out.size HX3.out HO4.out.size rfl, HOW.out⟩
        case measure => rw [HWK.out]; have := HK.out; simp only [intOf]; omega
       ·have dg : decide ((J.gen : Int) < (J'.gen : Int)) = false := by simp; omega
        go_wp2_with fail
        go_roundw
        case rel => exact ⟨k + 1, choose (some J) (some J'), _, (by rw [HWK.out]), by have := HK.out; omega, rfl, Pre.next HK.out HPRE.out HPP.out, HF.out, by rw [show choose (some J) (some J') = some J from if_neg hgt]; exact HP4.out, HOW.out⟩
        case measure => rw [HWK.out]; have := HK.out; simp only [intOf]; omega
   | false =>
    have HF : Hid ((∀ b, b < k + 1 → D.now (b * (D.n / 2)) = noughts) → false = true) := fun h => HFRB.out (fun b hb => h b (by omega))
    have HP3 : Hid (JPtr w w1 d u4 r) := HPTR.out.off (Off.of_grown HG1.out (S := fun _ => False) (by simp)) (fun _ _ h => h)
    have HO3 : Hid (Off (fun _ => False) w w1) := HOFF.out.trans (Off.of_grown HG1.out (by simp))
    have HX3 : Hid (xb < w1.heap.size) := HB1.out.lt
    have HD3 := HD1
    have HB3 := HB1
    have HPX : Hid (∀ w4, Off (fun b => b = xb) w1 w4 → JPtr w w4 d u4 r) := fun w4 ho => HPTR.out.off (((Off.of_grown HG1.out (by simp) : Off (fun b => b = xb) wr w1)).trans ho) (fun b hb e => by have := HXB.out.2; omega)
    clear HPTR
    go_upto_region 14 with fail
    refine wp_region_noPanic ?_
    refine wp_region_held_drew (S := fun _ => True) (by kernel_rfl) ?hSw1a (fun hHeld => ?_)
    case hSw1a => trivial
    refine ztk 0 rfl ?_
    refine zrd 1 rfl (fun K hK => ?_)
    go_simp
    refine (load_area (P := if k = 0 then P0 else P1) Sd d D xb k w1.drew (HD3.out.grown ⟨rfl, rfl, rfl, Nat.le_refl _, fun _ _ _ => rfl⟩) (fun b hb => Nat.lt_of_lt_of_le (HLT.out b hb) HO3.out.size) (fun hb => by have h1 := HLT.out _ hb; have h2 := HXB.out.1; omega) HB3.out HO.out (by have := HK.out; omega) (by have := HN.out; omega) (area_ok HK.out HK0.out HK1.out)).mono ?_
    rintro e w4 ⟨r', hP, rfl, hJ, ho4⟩
    have HPP := Lib.hid hP
    have HJ := Lib.hid hJ
    have HO4 : Hid (Off (fun b => b = xb) w1 w4) := (Off.of_grown (row := none) ⟨rfl, rfl, rfl, Nat.le_refl _, fun _ _ _ => rfl⟩ (by simp) : Off (fun b => b = xb) w1 w1.drew).trans ho4
    clear hP hJ ho4
    go_wp2_with fail
    refine hK.out _ _ ?q (fun hHeld => ?_)
    case q => (try dsimp only); (try trivial)
    clear hK K
    try simp only [zpt]
    have HP4 : Hid (JPtr w w4 d u4 r) := HPX.out w4 HO4.out
    have HOW : Hid (Off (fun _ => False) w w4) := (HO3.out.trans_new HO4.out (fun b hb => hb ▸ HXB.out.1))
    clear HP3
    rcases r' with _ | J'
    ·refine ztk 2 rfl ?_
     refine ztu 3 rfl ?_
     refine ztu 4 rfl ?_
     refine ztu 5 rfl ?_
     refine ztu 6 rfl ?_
     refine ztu 7 rfl ?_
     refine ztu 8 rfl ?_
     refine ztu 9 rfl ?_
     refine ztu 10 rfl ?_
     refine ztu 11 rfl ?_
     refine ztu 12 rfl ?_
     refine ztu 13 rfl ?_
     refine ztu 14 rfl ?_
     refine ztu 15 rfl ?_
     refine ztu 16 rfl ?_
     refine ztu 17 rfl ?_
     refine ztk 18 rfl ?_
     refine wpAnyH_done (by kernel_rfl) ?_ _
     refine NoPanic.normal ?_
     clear hHeld
     go_wp2_with fail
     go_roundw
     case rel => exact ⟨k + 1, choose r none, _, (by rw [HWK.out]), by have := HK.out; omega, rfl, Pre.next HK.out HPRE.out HPP.out, HF.out, by rw [choose_none]; exact HP4.out, HOW.out⟩
     case measure => rw [HWK.out]; have := HK.out; simp only [intOf]; omega
    ·rcases r with _ | J
     ·have hn := HP4.out
      subst hn
      refine ztk 2 rfl ?_
      refine ztk 3 rfl ?_
      refine ztk 4 rfl ?_
      refine ztk 5 rfl ?_
      refine ztu 6 rfl ?_
      refine ztu 7 rfl ?_
      refine ztu 8 rfl ?_
      refine ztu 9 rfl ?_
      refine ztu 10 rfl ?_
      refine ztu 11 rfl ?_
      refine ztu 12 rfl ?_
      refine ztu 13 rfl ?_
      refine ztu 14 rfl ?_
      refine ztu 15 rfl ?_
      refine ztu 16 rfl ?_
      refine ztk 17 rfl ?_
      refine ztk 18 rfl ?_
      refine wpAnyH_done (by kernel_rfl) ?_ _
      refine NoPanic.normal ?_
      clear hHeld
      go_wp2_with fail
      go_roundw
      case rel => exact ⟨k + 1, choose none (some J'), _, (by rw [HWK.out]), by have := HK.out; omega, rfl, Pre.next HK.out HPRE.out HPP.out, HF.out, new_ptr HJ.out HK.out HXB.out.1 HO3.out.size HX3.out HO4.out.size rfl, HOW.out⟩
      case measure => rw [HWK.out]; have := HK.out; simp only [intOf]; omega
     ·obtain ⟨jb, hjb, hjw, hja, svj, rvj, vsj, hjj⟩ := HP4.out
      subst hjb
      obtain ⟨svx, rvx, vsx, hxx⟩ := (HJ.out J' rfl).2
      have cx : w4.cell? ⟨xb, 2, none⟩ = some (.int .i64 (J'.gen : Int)) := hxx.blk.cell 2
      have cj : w4.cell? ⟨jb, 2, none⟩ = some (.int .i64 (J.gen : Int)) := hjj.blk.cell 2
      clear hxx hjj
      refine ztk 2 rfl ?_
      refine ztk 3 rfl ?_
      refine ztk 4 rfl ?_
      refine ztk 5 rfl ?_
      refine ztk 6 rfl ?_
      refine ztk 7 rfl ?_
      refine ztk 8 rfl ?_
      refine ztk 9 rfl ?_
      refine ztk 11 rfl ?_
      refine ztk 12 rfl ?_
      refine ztk 13 rfl ?_
      refine ztk 14 rfl ?_
      refine zrd2 10 15 rfl rfl (fun K hK => ?_) (fun K hK => ?_)
      go_simp
      refine hK.out _ _ ?q (fun hHeld => ?_)
      case q => (try dsimp only); (try trivial)
      clear hK K
      try simp only [zpt]
      refine zrd 15 rfl (fun K hK => ?_)
      rotate_left
      go_simp
      refine hK.out _ _ ?q (fun hHeld => ?_)
      case q => (try dsimp only); (try trivial)
      clear hK K
      try simp only [zpt]
      refine zrd 10 rfl (fun K hK => ?_)
      rotate_left
      all_goals
       go_simp
       refine hK.out _ _ ?q (fun hHeld => ?_)
       case q => (try dsimp only); (try trivial)
       clear hK K
       try simp only [zpt]
       refine ztk 16 rfl ?_
       refine ztk 17 rfl ?_
       refine ztk 18 rfl ?_
       refine wpAnyH_done (by kernel_rfl) ?_ _
       refine NoPanic.normal ?_
       clear hHeld
       by_cases hgt : J.gen < J'.gen
       ·have dg : decide ((J.gen : Int) < (J'.gen : Int)) = true := by simp; omega
        go_wp2_with fail
        go_roundw
        case rel => exact ⟨k + 1, choose (some J) (some J'), _, (by rw [HWK.out]), by have := HK.out; omega, rfl, Pre.next HK.out HPRE.out HPP.out, HF.out, by rw [show choose (some J) (some J') = some J' from if_pos hgt]; exact new_ptr HJ.out HK.out HXB.out.1 HO3.out.size HX3.out HO4.out.size rfl, HOW.out⟩
        case measure => rw [HWK.out]; have := HK.out; simp only [intOf]; omega
       ·have dg : decide ((J.gen : Int) < (J'.gen : Int)) = false := by simp; omega
        go_wp2_with fail
        go_roundw
        case rel => exact ⟨k + 1, choose (some J) (some J'), _, (by rw [HWK.out]), by have := HK.out; omega, rfl, Pre.next HK.out HPRE.out HPP.out, HF.out, by rw [show choose (some J) (some J') = some J from if_neg hgt]; exact HP4.out, HOW.out⟩
        case measure => rw [HWK.out]; have := HK.out; simp only [intOf]; omega
  ·have hk3 : k = 2 := by omega
   subst hk3
   have e0 := HR.out r hpre
   subst e0
   have HOFF := Lib.hid hoff
   have HW : Hid (∀ b, Sd b → b < wr.heap.size) := fun b hb => Nat.lt_of_lt_of_le (HLT.out b hb) HOFF.out.size
   have HDR : Hid (DiskAt wr Sd d D) := HD.out.off HOFF.out (fun _ _ _ h => h)
   clear hk2 hk hpre hoff
   cases r with
   | some J =>
    clear hfr
    obtain ⟨jb, hjv, hjw, hja, svj, rvj, vsj, hjj⟩ := hptr
    subst hjv
    have HJ := Lib.hid hjj
    have HJA := Lib.hid hja
    have HJW := Lib.hid hjw
    have c3 : wr.cell? ⟨jb, 3, none⟩ = some (.int .i64 (J.op : Int)) := hjj.blk.cell 3
    have f3 : wr.frozen? ⟨jb, 3, none⟩ = false := hjj.blk.free 3
    have n1 : IntKind.i64.wrap ((J.op : Int) + 1) = (J.op : Int) + 1 := by have := (HOP.out J rfl).1; rw [IntKind.wrap_i64]; omega
    have hmn : ∀ (w : World) (ts : Array TypeId) (t : TypeId), (Builtin.min_ ts t #[.int .i64 4611686018427387904, .int .i64 ((J.op : Int) + 1)]).run Tryz.prog w = .ok (.int .i64 ((J.op : Int) + 1)) w := fun w ts t => by
     have h1 := (HOP.out J rfl).1
     have h2 : (if ((J.op : Int) + 1) < 4611686018427387904 then ((J.op : Int) + 1) else 4611686018427387904) = (J.op : Int) + 1 := by split <;> omega
     rw [run_min_int2, h2]
    clear hjj hja hjw
    go_upto_region 23 with fail
    obtain ⟨w5, hw5⟩ : ∃ w5, w5 = wr.setCell ⟨jb, 3, none⟩ (.int .i64 ((J.op : Int) + 1)) := ⟨_, rfl⟩
    rw [← hw5]
    have HB5 : Hid (JBlk w5 jb d { J with op := J.op + 1 } svj rvj) := by
     rw [hw5]
     exact heap_setCell_same wr jb 3 _ _ (.int .i64 ((J.op + 1 : Nat) : Int)) HJ.out.blk
    have HG5 : Hid (wr.grownBy w5 (some jb)) := by rw [hw5]; exact grown_set _ _ _ _
    have HJS : Hid (¬ Sd jb) := fun hb => by have h1 := HLT.out _ hb; have h2 := HJW.out; omega
    have HD5 : Hid (DiskAt w5 Sd d D) := HDR.out.off (Off.of_grown HG5.out (S := fun b => b = jb) (fun k e => by cases e; rfl)) (fun b _ hs e => HJS.out (e ▸ hs))
    have HB5C : Hid (w5.cell? ⟨jb, 1, none⟩ = some (.int .i64 (J.area : Int)) ∧ w5.cell? ⟨jb, 2, none⟩ = some (.int .i64 (J.gen : Int)) ∧ w5.cell? ⟨jb, 3, none⟩ = some (.int .i64 ((J.op : Int) + 1)) ∧ w5.cell? ⟨jb, 4, none⟩ = some (.int .i64 (J.first : Int)) ∧ w5.cell? ⟨jb, 5, none⟩ = some (.int .i64 (J.size : Int))) := ⟨HB5.out.cell 1, HB5.out.cell 2, HB5.out.cell 3, HB5.out.cell 4, HB5.out.cell 5⟩
    clear c3 f3 n1 hmn hw5
    go_wp2_with fail
    refine wp_region_noPanic ?_
    refine wp_region_held_drew (S := fun w' => w'.cell? ⟨jb, 1, none⟩ = some (Value.int .i64 (J.area : Int)) ∧ w'.cell? ⟨jb, 2, none⟩ = some (Value.int .i64 (J.gen : Int)) ∧ w'.cell? ⟨jb, 3, none⟩ = some (Value.int .i64 ((J.op : Int) + 1)) ∧ w'.cell? ⟨jb, 4, none⟩ = some (Value.int .i64 (J.first : Int)) ∧ w'.cell? ⟨jb, 5, none⟩ = some (Value.int .i64 (J.size : Int))) (by kernel_rfl) ?hSsa (fun hHeld => ?_)
    case hSsa => exact HB5C.out
    refine ztk 0 rfl ?_
    refine ztk 1 rfl ?_
    refine ztk 2 rfl ?_
    refine ztk 3 rfl ?_
    refine ztk 4 rfl ?_
    refine ztk 5 rfl ?_
    refine ztk 6 rfl ?_
    refine ztk 7 rfl ?_
    refine ztk 8 rfl ?_
    refine zrd 9 rfl (fun K hK => ?_)
    go_simp
    refine (seal_at Sd d D jb { J with op := J.op + 1 } svj rvj J.area J.gen (J.op + 1) J.first J.size (by have := HOP.out J rfl; omega) (by have := HOP.out J rfl; omega) (by have := HOP.out J rfl; omega) (by have := HOP.out J rfl; omega) w5.drew (HD5.out.grown ⟨rfl, rfl, rfl, Nat.le_refl _, fun _ _ _ => rfl⟩) (fun b hb => Nat.lt_of_lt_of_le (HW.out b hb) HG5.out.size) HB5.out HJS.out (area_lt HJA.out HN.out) HO.out HARM.out (by have := HWR.out; omega)).mono ?_
    rintro e w6 ⟨rfl, Sd', hd6, hs6, ho6⟩
    have HD6 := Lib.hid hd6
    have HS6 := Lib.hid hs6
    have HO6 : Hid (Off Sd w5 w6) := ⟨ho6.os, ho6.tape, ho6.output, ho6.size, ho6.block⟩
    have HB6 : Hid (JBlk w6 jb d { J with op := J.op + 1 } svj rvj) := HB5.out.off HO6.out HJS.out
    have HC6 : Hid (w6.cell? ⟨jb, 1, none⟩ = some (Value.int .i64 (J.area : Int)) ∧ w6.cell? ⟨jb, 2, none⟩ = some (Value.int .i64 (J.gen : Int)) ∧ w6.cell? ⟨jb, 3, none⟩ = some (Value.int .i64 ((J.op : Int) + 1)) ∧ w6.cell? ⟨jb, 4, none⟩ = some (Value.int .i64 (J.first : Int)) ∧ w6.cell? ⟨jb, 5, none⟩ = some (Value.int .i64 (J.size : Int))) := ⟨HB6.out.cell 1, HB6.out.cell 2, HB6.out.cell 3, HB6.out.cell 4, HB6.out.cell 5⟩
    clear hd6 hs6 ho6
    go_wp2_with fail
    refine hK.out _ _ ?q (fun hHeld => ?_)
    case q => (try dsimp only); exact HC6.out
    clear hK K
    try simp only [zpt]
    refine wpAnyH_done (by kernel_rfl) ?_ _
    refine NoPanic.normal ?_
    clear hHeld
    have c9 : w6.cell? ⟨jb, 9, none⟩ = some (.int .i64 0) := HB6.out.cell 9
    go_wp2_with fail
    go_ret2
    exact ⟨jb, _, Sd', rfl, op_set HJ.out HG5.out HB6.out rfl rfl HO6.out (fun b hb h => by have h1 := HLT.out b h; have := hb.1; omega), HD6.out, op_apart HLT.out HG5.out.size HS6.out, op_disk HOFF.out.size HG5.out.size HS6.out, ((HOFF.out.trans_new (Off.of_grown HG5.out (S := fun b => b = jb) (fun k e => by cases e; rfl)) (fun b e => e ▸ HJW.out)).mono (fun _ _ h => h.elim)).trans HO6.out⟩
   | none =>
    have ht : fr = true := hfr (HFR.out rfl)
    subst ht
    have hn := hptr
    subst hn
    clear hfr
    go_upto_region 18 with fail
    have hb1 := (MapKept.heap_alloc wr (.cells (JC d newJ (.slice none 0 0) (.slice none 0 0)) 50)).1
    have hg1 := World.grownBy_alloc wr (.cells (JC d newJ (.slice none 0 0) (.slice none 0 0)) 50) none
    obtain ⟨w1, hw1⟩ : ∃ w1, w1 = wr.alloc (.cells (JC d newJ (.slice none 0 0) (.slice none 0 0)) 50) := ⟨_, rfl⟩
    obtain ⟨jb, hxb⟩ : ∃ xb, xb = wr.heap.size := ⟨_, rfl⟩
    rw [← hw1, ← hxb] at hb1
    rw [← hw1] at hg1
    have e1 : (wr.alloc (Obj.cells #[Value.pointer (some ⟨d, 0, none⟩), .int .i64 0, .int .i64 1, .int .i64 1, .int .i64 1, .int .i64 0, .slice none 0 0, .slice none 0 0, .int .i64 1, .int .i64 0] 50)) = w1 := hw1.symm
    rw [e1, ← hxb]
    clear e1
    have HB1 : Hid (JBlk w1 jb d newJ (.slice none 0 0) (.slice none 0 0)) := hb1
    have HG1 := Lib.hid hg1
    have HJW : Hid (w.heap.size ≤ jb ∧ wr.heap.size ≤ jb) := by
     have h1 := HOFF.out.size
     exact ⟨by omega, by omega⟩
    have HD1 : Hid (DiskAt w1 Sd d D) := HDR.out.grown HG1.out
    have HJS1 : Hid (¬ Sd jb) := fun hb => by have h1 := HLT.out _ hb; have h2 := HJW.out.1; omega
    clear hb1 hg1 hw1 hxb
    go_wp2_with fail
    refine (put_at Sd d D jb newJ _ _ 0 1 67 1 0 [] none 0 (by decide) (by decide) (by decide) (by decide) (by decide) w1 HD1.out (fun b hb => Nat.lt_of_lt_of_le (HW.out b hb) HG1.out.size) HB1.out HJS1.out (by have h4 := HN.out; have : parts ([] : List UInt8).length = 1 := rfl; omega) HO.out HARM.out (by have := HWR.out; omega) (.inl ⟨rfl, rfl⟩)).mono ?_
    rintro e w5 ⟨rfl, Sd1, hd5, hs5, ho5⟩
    have HD5 := Lib.hid hd5
    have HS5 := Lib.hid hs5
    have HO5 := Lib.hid ho5
    have HB5 : Hid (JBlk w5 jb d newJ (.slice none 0 0) (.slice none 0 0)) := HB1.out.off HO5.out HJS1.out
    have HJS : Hid (¬ Sd1 jb) := fun hb => by
     rcases (HS5.out _ hb).1 with h | h
     ·exact HJS1.out h
     ·have := HB1.out.lt
      omega
    have HP5 : Hid (_ ∧ _ ∧ _ ∧ _) := pushes_n D (0 * (D.n / 2) + 1) (fun i => partB 67 1 0 i (parts ([] : List UInt8).length) (chunk [] i)) (upto (parts ([] : List UInt8).length))
    have HB5C : Hid (w5.cell? ⟨jb, 1, none⟩ = some (.int .i64 0) ∧ w5.cell? ⟨jb, 2, none⟩ = some (.int .i64 1) ∧ w5.cell? ⟨jb, 3, none⟩ = some (.int .i64 1) ∧ w5.cell? ⟨jb, 4, none⟩ = some (.int .i64 1) ∧ w5.cell? ⟨jb, 5, none⟩ = some (.int .i64 0)) := ⟨HB5.out.cell 1, HB5.out.cell 2, HB5.out.cell 3, HB5.out.cell 4, HB5.out.cell 5⟩
    clear hd5 hs5 ho5
    go_wp2_with fail
    refine wp_region_noPanic ?_
    refine wp_region_held_drew (S := fun w' => w'.cell? ⟨jb, 1, none⟩ = some (Value.int .i64 0) ∧ w'.cell? ⟨jb, 2, none⟩ = some (Value.int .i64 1) ∧ w'.cell? ⟨jb, 3, none⟩ = some (Value.int .i64 1) ∧ w'.cell? ⟨jb, 4, none⟩ = some (Value.int .i64 1) ∧ w'.cell? ⟨jb, 5, none⟩ = some (Value.int .i64 0)) (by kernel_rfl) ?hSsb (fun hHeld => ?_)
    case hSsb => exact HB5C.out
    refine ztk 0 rfl ?_
    refine ztk 1 rfl ?_
    refine ztk 2 rfl ?_
    refine ztk 3 rfl ?_
    refine ztk 4 rfl ?_
    refine ztk 5 rfl ?_
    refine ztk 6 rfl ?_
    refine ztk 7 rfl ?_
    refine ztk 8 rfl ?_
    refine zrd 9 rfl (fun K hK => ?_)
    go_simp
    refine (seal_at Sd1 d _ jb newJ (.slice none 0 0) (.slice none 0 0) 0 1 1 1 0 (by decide) (by decide) (by decide) (by decide) w5.drew (HD5.out.grown ⟨rfl, rfl, rfl, Nat.le_refl _, fun _ _ _ => rfl⟩) (fun b hb => (HS5.out b hb).2) HB5.out HJS.out (by rw [HP5.out.1]; have := HN.out; omega) (by rw [HP5.out.2.1]; exact HO.out) (by rw [HP5.out.2.2.1]; exact HARM.out) (by rw [HP5.out.2.2.2]; have := HWR.out; have : (upto (parts ([] : List UInt8).length)).length = 1 := rfl; omega)).mono ?_
    rintro e w6 ⟨rfl, Sd', hd6, hs6, ho6⟩
    have HD6 := Lib.hid hd6
    have HS6 := Lib.hid hs6
    have HO6 : Hid (Off Sd1 w5 w6) := ⟨ho6.os, ho6.tape, ho6.output, ho6.size, ho6.block⟩
    have HB6 : Hid (JBlk w6 jb d newJ (.slice none 0 0) (.slice none 0 0)) := HB5.out.off HO6.out HJS.out
    have HC6 : Hid (w6.cell? ⟨jb, 1, none⟩ = some (Value.int .i64 0) ∧ w6.cell? ⟨jb, 2, none⟩ = some (Value.int .i64 1) ∧ w6.cell? ⟨jb, 3, none⟩ = some (Value.int .i64 1) ∧ w6.cell? ⟨jb, 4, none⟩ = some (Value.int .i64 1) ∧ w6.cell? ⟨jb, 5, none⟩ = some (Value.int .i64 0)) := ⟨HB6.out.cell 1, HB6.out.cell 2, HB6.out.cell 3, HB6.out.cell 4, HB6.out.cell 5⟩
    clear hd6 hs6 ho6
    go_wp2_with fail
    refine hK.out _ _ ?q (fun hHeld => ?_)
    case q => (try dsimp only); exact HC6.out
    clear hK K
    try simp only [zpt]
    refine wpAnyH_done (by kernel_rfl) ?_ _
    refine NoPanic.normal ?_
    clear hHeld
    have c9 : w6.cell? ⟨jb, 9, none⟩ = some (.int .i64 0) := HB6.out.cell 9
    go_wp2_with fail
    go_ret2
    refine ⟨jb, fun b => b = jb, Sd', rfl, new_at_all HB6.out, HD6.out, ?_, ?_, ?_⟩
    ·rintro b rfl
     refine ⟨HJW.out.1, fun hd => ?_⟩
     rcases (HS6.out b hd).1 with h | h
     ·exact HJS.out h
     ·have h1 := HB5.out.lt
      have h2 : w5.heap.size ≤ b := h
      omega
    ·intro b hd
     refine ⟨?_, (HS6.out b hd).2⟩
     rcases (HS6.out b hd).1 with h | h
     ·rcases (HS5.out b h).1 with h | h
      ·exact .inl h
      ·exact .inr (Nat.le_trans (Nat.le_trans HOFF.out.size HG1.out.size) h)
     ·exact .inr (Nat.le_trans (Nat.le_trans (Nat.le_trans HOFF.out.size HG1.out.size) HO5.out.size) h)
    ·have h1 : Off Sd w w1 := (HOFF.out.mono (fun _ _ h => h.elim)).trans (Off.of_grown HG1.out (by simp))
     have h2 := h1.trans HO5.out
     refine ⟨HO6.out.os.trans h2.os, HO6.out.tape.trans h2.tape, HO6.out.output.trans h2.output, Nat.le_trans h2.size HO6.out.size, fun k hk hs => (HO6.out.block k (Nat.lt_of_lt_of_le hk h2.size) (fun hb => ?_)).trans (h2.block k hk hs)⟩
     rcases (HS5.out k hb).1 with h | h
     ·exact hs h
     ·have := h1.size
      omega
theorem free_at (Sd S : Nat → Prop) (d jb : Nat) (D : Dsk) (J : Jn) (w : World) (h : DiskAt w Sd d D) (hj : JAt w S jb d J) (hu : J.used ≤ D.n / 2 - 1) (h4 : 4 ≤ D.n) :
  Calls Tryz.prog 11 #[.pointer (some ⟨jb, 0, none⟩)] w fun e w' => e = .returned (.int .i64 ((D.n / 2 - 1 - J.used : Nat) : Int)) ∧ ∃ m, w' = w.drewN m := by
 obtain ⟨sv, rv, vs, hj⟩ := hj
 have hm := h.1
 have c5 : w.cell? ⟨jb, 8, none⟩ = some (.int .i64 (J.used : Int)) := hj.blk.cell 8
 have HH : Hid (∀ m, DiskAt (w.drewN m) Sd d D) := fun m => h.grown ⟨rfl, rfl, rfl, Nat.le_refl _, fun _ _ _ => rfl⟩
 have HB : Hid (∀ m, JBlk (w.drewN m) jb d J sv rv) := fun m => hj.blk
 have n1 : IntKind.i64.wrap ((D.n : Int) / 2 - 1) = (D.n : Int) / 2 - 1 := by rw [IntKind.wrap_i64]; omega
 have n2 : IntKind.i64.wrap ((D.n : Int) / 2 - 1 - (J.used : Int)) = (D.n : Int) / 2 - 1 - (J.used : Int) := by rw [IntKind.wrap_i64]; omega
 have HE : Hid ((D.n : Int) / 2 - 1 - (J.used : Int) = ((D.n / 2 - 1 - J.used : Nat) : Int)) := by show _ = _; omega
 clear h hj hm hu h4
 go_enter Tryz.func11, Tryz.ntmps11
 go_wp2_with fail
 go_quiet ((go_at_call 29; exact Calls.quiet_of_same (half_at Sd d D jb J sv rv _ (by exact HH.out _) (by exact HB.out _))))
 go_wp2_with fail
 go_ret
 exact ⟨by rw [← HE.out]; rfl, _, rfl⟩
def askedJ (n limit room : Nat) : Nat := if limit < n then 3 else if room < parts n then 31 else 0
theorem asked_at (jb d : Nat) (J : Jn) (sv rv : Value) (n limit room : Nat) (hn : n < 1000000000000) (w : World) (hj : JBlk w jb d J sv rv) :
  Calls Tryz.prog 30 #[.pointer (some ⟨jb, 0, none⟩), .int .i64 (n : Int), .int .i64 (limit : Int), .int .i64 (room : Int)] w fun e w' => e = .returned (.int .i64 (askedJ n limit room : Int)) ∧ w' = w := by
 have HB := Lib.hid hj
 have HN := Lib.hid hn
 clear hj hn
 unfold askedJ
 obtain ⟨pn, hpn⟩ : ∃ pn, pn = parts n := ⟨_, rfl⟩
 rw [← hpn]
 have HP := Lib.hid hpn
 by_cases h1 : limit < n
 ·have d1 : decide (limit < n) = true := by simp [h1]
  rw [if_pos h1]
  clear h1 hpn
  go_enter Tryz.func30, Tryz.ntmps30
  go_wp2_with fail
  refine (broken_at jb d J sv rv w HB.out).mono ?_
  rintro e wq ⟨rfl, hwq⟩
  subst hwq
  go_wp2_with fail
  go_ret
  exact ⟨rfl, rfl⟩
 ·have d1 : decide (limit < n) = false := by simp; omega
  rw [if_neg h1]
  clear h1
  by_cases h2 : room < pn
  ·have d2 : decide (room < pn) = true := by simp [h2]
   rw [if_pos h2]
   clear h2 hpn
   go_enter Tryz.func30, Tryz.ntmps30
   go_wp2_with fail
   refine (broken_at jb d J sv rv w HB.out).mono ?_
   rintro e wq ⟨rfl, hwq⟩
   subst hwq
   go_wp2_with fail
   refine (count_at n HN.out wq).mono ?_
   rintro e w2 ⟨rfl, hwq⟩
   subst hwq
   rw [← HP.out]
   go_wp2_with fail
   go_ret
   exact ⟨rfl, rfl⟩
  ·have d2 : decide (room < pn) = false := by simp; omega
   rw [if_neg h2]
   clear h2 hpn
   go_enter Tryz.func30, Tryz.ntmps30
   go_wp2_with fail
   refine (broken_at jb d J sv rv w HB.out).mono ?_
   rintro e wq ⟨rfl, hwq⟩
   subst hwq
   go_wp2_with fail
   refine (count_at n HN.out wq).mono ?_
   rintro e w2 ⟨rfl, hwq⟩
   subst hwq
   rw [← HP.out]
   go_wp2_with fail
   go_ret
   exact ⟨rfl, rfl⟩
theorem cell_lt {w : World} {g i : Nat} {v : Value} (h : w.cell? ⟨g, i, none⟩ = some v) : g < w.heap.size := by
 by_cases hg : g < w.heap.size
 ·exact hg
 ·simp only [World.cell?, Array.getElem?_eq_none (by omega : w.heap.size ≤ g)] at h
  cases h
theorem below_cell {w w' : World} {B g i : Nat} {v : Value} (hb : Below B w w') (hg : g < B) (h : w.cell? ⟨g, i, none⟩ = some v) : w'.cell? ⟨g, i, none⟩ = some v := by
 simp only [World.cell?, hb.block g hg] at h ⊢
 exact h
theorem brow_clone {w : World} {v : Value} {l : List UInt8} (h : BRow w 0 v l) : ∃ A cap, v = .slice A l.length cap ∧ l.length ≤ cap ∧ cap ≤ maxLen ∧ ((l = [] ∧ cap = 0) ∨ ∃ g off, A = some ⟨g, off, none⟩ ∧ w.rangeAt g off (u8s l)) := by
 obtain ⟨A, cap, rfl, h1, h2⟩ := row_len h
 refine ⟨A, cap, rfl, h1, h2, ?_⟩
 obtain ⟨_, ⟨e, e2⟩ | ⟨g, cap', cur, e, h3, hb, h4, h5, h6, h7⟩⟩ := id h
 ·simp only [Value.slice.injEq] at e
  exact .inl ⟨List.eq_nil_of_length_eq_zero e2, e.2.2⟩
 ·simp only [Value.slice.injEq, true_and] at e
  obtain ⟨rfl, rfl⟩ := e
  refine .inr ⟨g, 0, rfl, fun j u hj => ?_⟩
  have := World.ownsRow.cells h (g := g) rfl j u hj
  rw [Addr.add_lit] at this
  exact this
theorem JIn.rec_at {w : World} {S : Nat → Prop} {jb d : Nat} {J : Jn} {sv rv : Value} {vs : List Value} (h : JIn w S jb d J sv rv vs) (i : Nat) (l : List UInt8) (hi : J.recs[i]? = some l) : ∃ g cap v, rv = .slice (some ⟨g, 0, none⟩) J.recs.length cap ∧ w.cell? ⟨g, i, none⟩ = some v ∧ BRow w 0 v l := by
 obtain ⟨v, hv, hr⟩ := h.recs i l hi
 obtain ⟨_, ⟨e, e2⟩ | ⟨g, cap, cur, rfl, h3, hb, h4, h5, h6, h7⟩⟩ := id h.rows
 ·have := (List.getElem?_eq_some_iff.1 hi).1
  omega
 ·refine ⟨g, cap, v, rfl, ?_, hr⟩
  have := World.ownsRow.cells h.rows (g := g) rfl i v hv
  rw [Addr.add_lit, Nat.zero_add] at this
  exact this
theorem record_at (S : Nat → Prop) (jb d : Nat) (J : Jn) (i : Nat) (l : List UInt8) (w : World) (hj : JAt w S jb d J) (hi : J.recs[i]? = some l) (hl : l.length ≤ 100000000) (hf : J.first + J.recs.length < 9223372036854775808) :
  Calls Tryz.prog 7 #[.pointer (some ⟨jb, 0, none⟩), .int .i64 ((J.first + i : Nat) : Int)] w fun e w' => ∃ v, e = .returned (.tuple #[v, .bool true]) ∧ BRow w' w.heap.size v l ∧ Below w.heap.size w w' := by
 obtain ⟨sv, rv, vs, hj⟩ := hj
 have hlt : i < J.recs.length := (List.getElem?_eq_some_iff.1 hi).1
 obtain ⟨g, cap, v, rfl, hc, hr⟩ := hj.rec_at i l hi
 obtain ⟨A, cap2, rfl, hc1, hc2, hA⟩ := brow_clone hr
 obtain ⟨k, hk⟩ : ∃ k, k = J.first + i := ⟨_, rfl⟩
 obtain ⟨n, hn⟩ : ∃ n, n = J.recs.length := ⟨_, rfl⟩
 have c4 : w.cell? ⟨jb, 4, none⟩ = some (.int .i64 (J.first : Int)) := hj.blk.cell 4
 have c7 : w.cell? ⟨jb, 7, none⟩ = some (.slice (some ⟨g, 0, none⟩) n cap) := hn ▸ hj.blk.cell 7
 have HB := Lib.hid hj.blk
 have HA := Lib.hid hA
 have HL := Lib.hid hl
 have HF : Hid (J.first + J.recs.length < 9223372036854775808) := hf
 have HC0 : Hid (∀ m, (w.drewN m).drew.cell? ⟨jb, 7, none⟩ = some (.slice (some ⟨g, 0, none⟩) n cap) ∧ (w.drewN m).drew.cell? ⟨jb, 4, none⟩ = some (.int .i64 (J.first : Int)) ∧ (w.drewN m).drew.cell? ⟨g, i, none⟩ = some (.slice A l.length cap2)) := fun m => ⟨c7, c4, hc⟩
 have d1 : decide (k < J.first) = false := by simp; omega
 obtain ⟨nx, hnx⟩ : ∃ nx, nx = J.first + n := ⟨_, rfl⟩
 have d2 : decide (nx ≤ k) = false := by simp; omega
 have HNX := Lib.hid hnx
 have HS : Hid (IntKind.i64.wrap ((k : Int) - (J.first : Int)) = (i : Int)) := by show _ = _; rw [IntKind.wrap_i64]; omega
 have HA2 : Hid (((l = [] ∧ cap2 = 0) ∨ ∃ g off, A = some ⟨g, off, none⟩ ∧ w.rangeAt g off (u8s l))) := hA
 have HGL : Hid (g < w.heap.size ∧ jb < w.heap.size) := ⟨cell_lt hc, hj.blk.lt⟩
 have HCB : Hid (∀ w5, Below w.heap.size w w5 → w5.cell? ⟨jb, 7, none⟩ = some (.slice (some ⟨g, 0, none⟩) n cap) ∧ w5.cell? ⟨jb, 4, none⟩ = some (.int .i64 (J.first : Int)) ∧ w5.cell? ⟨g, i, none⟩ = some (.slice A l.length cap2)) := fun w5 hb => ⟨below_cell hb HGL.out.2 c7, below_cell hb HGL.out.2 c4, below_cell hb HGL.out.1 hc⟩
 have HI : Hid (i < n) := by show _ < _; omega
 have HNN := Lib.hid hn
 rw [← hk]
 clear hj hi hlt hr hc1 hc2 hA hl hf hc hk hn hnx c7
 go_enter Tryz.func7, Tryz.ntmps7
 go_wp2_with fail
 refine (next_blk jb d J sv _ (some ⟨g, 0, none⟩) n cap (by rw [HNN.out]) (by rw [HNN.out]; exact HF.out) w HB.out).mono ?_
 rintro e wq ⟨rfl, m, rfl⟩
 rw [← HNX.out]
 clear d1
 go_wp2_with fail
 refine wp_region_noPanic ?_
 refine wp_region_held_drew (S := fun w' => w'.cell? ⟨jb, 7, none⟩ = some (Value.slice (some ⟨g, 0, none⟩) n cap) ∧ w'.cell? ⟨jb, 4, none⟩ = some (Value.int .i64 (J.first : Int)) ∧ w'.cell? ⟨g, i, none⟩ = some (Value.slice A l.length cap2)) (by kernel_rfl) ?hSr (fun hHeld => ?_)
 case hSr => exact HC0.out m
 refine ztk 0 rfl ?_
 refine ztk 1 rfl ?_
 refine ztk 2 rfl ?_
 refine ztk 3 rfl ?_
 refine ztk 4 rfl ?_
 refine ztk 5 rfl ?_
 refine ztk 6 rfl ?_
 refine ztk 7 rfl ?_
 refine ztk 8 rfl ?_
 refine ztk 9 rfl ?_
 refine ztk 10 rfl ?_ (v := .int .i64 (i : Int)) (hy := ?hr10)
 case hr10 => (intro wS hSw; (try dsimp only at hSw); go_simp; rw [HS.out])
 refine ztk 11 rfl ?_ (v := .pointer (some ⟨g, i, none⟩)) (hy := ?hr11)
 case hr11 => (intro wS hSw; (try dsimp only at hSw); have hi := HI.out; go_simp)
 refine ztk 12 rfl ?_
 refine zrd 13 rfl (fun K hK => ?_)
 go_simp
 refine (clone_row A l l.length cap2 (w.drewN m).drew rfl HA2.out HL.out).mono ?_
 rintro e w5 ⟨v, rfl, hr5, hb5⟩
 have HR5 := Lib.hid hr5
 have HB5 := Lib.hid hb5
 clear hr5 hb5
 go_wp2_with fail
 refine hK.out _ _ ?q (fun hHeld => ?_)
 case q => (try dsimp only); exact HCB.out w5 ⟨HB5.out.os, HB5.out.tape, HB5.out.output, HB5.out.size, HB5.out.block⟩
 clear hK K
 try simp only [zpt]
 refine ztk 14 rfl ?_
 refine ztk 15 rfl ?_
 refine wpAnyH_done (by kernel_rfl) ?_ _
 refine NoPanic.normal ?_
 clear hHeld
 go_wp2_with fail
 go_ret2
 exact ⟨_, rfl, HR5.out, ⟨HB5.out.os, HB5.out.tape, HB5.out.output, HB5.out.size, HB5.out.block⟩⟩
theorem record_none (S : Nat → Prop) (jb d : Nat) (J : Jn) (k : Nat) (w : World) (hj : JAt w S jb d J) (hk : k < J.first ∨ J.first + J.recs.length ≤ k) (hf : J.first + J.recs.length < 9223372036854775808) :
  Calls Tryz.prog 7 #[.pointer (some ⟨jb, 0, none⟩), .int .i64 (k : Int)] w fun e w' => e = .returned (.tuple #[.slice none 0 0, .bool false]) ∧ ∃ m, w' = w.drewN m := by
 obtain ⟨sv, rv, vs, hj⟩ := hj
 obtain ⟨A, cap, rfl, _, _⟩ := row_len hj.rows
 have c4 : w.cell? ⟨jb, 4, none⟩ = some (.int .i64 (J.first : Int)) := hj.blk.cell 4
 have HB := Lib.hid hj.blk
 have HF := Lib.hid hf
 obtain ⟨nx, hnx⟩ : ∃ nx, nx = J.first + J.recs.length := ⟨_, rfl⟩
 have HNX := Lib.hid hnx
 by_cases h1 : k < J.first
 ·have d1 : decide (k < J.first) = true := by simp [h1]
  clear hk h1 hj hf hnx
  go_enter Tryz.func7, Tryz.ntmps7
  go_wp2_with fail
  go_ret2
  exact ⟨rfl, 0, rfl⟩
 ·have d1 : decide (k < J.first) = false := by simp; omega
  have d2 : decide (nx ≤ k) = true := by simp; omega
  clear hk h1 hj hf hnx
  go_enter Tryz.func7, Tryz.ntmps7
  go_wp2_with fail
  refine (next_blk jb d J sv _ A _ cap rfl HF.out w HB.out).mono ?_
  rintro e wq ⟨rfl, m, rfl⟩
  rw [← HNX.out]
  clear d1
  go_wp2_with fail
  go_ret2
  exact ⟨rfl, m, rfl⟩
def Jn.app (J : Jn) (l : List UInt8) : Jn := { J with recs := J.recs ++ [l], used := J.used + parts l.length }
def appD (D : Dsk) (J : Jn) (l : List UInt8) : Dsk := pushes D (J.area * (D.n / 2) + (1 + J.used)) (fun i => partB 82 J.op (J.first + J.recs.length) i (parts l.length) (chunk l i)) (upto (parts l.length))
theorem append_no (Sd S : Nat → Prop) (d jb : Nat) (D : Dsk) (J : Jn) (l : List UInt8) (A : Option Addr) (cap : Nat) (w : World) (h : DiskAt w Sd d D) (hj : JAt w S jb d J) (hu : J.used ≤ D.n / 2 - 1) (h4 : 4 ≤ D.n) (hl : l.length ≤ 1048576) (hcap : l.length ≤ cap) (_ : cap ≤ maxLen) (hno : D.n / 2 - 1 - J.used < parts l.length) :
  Calls Tryz.prog 13 #[.pointer (some ⟨jb, 0, none⟩), .slice A l.length cap] w fun e w' => e = .returned (.int .i64 31) ∧ ∃ m, w' = w.drewN m := by
 have HD := Lib.hid h
 have HJ := Lib.hid hj
 have HU := Lib.hid hu
 have HN := Lib.hid h4
 have HE : Hid (askedJ l.length 1048576 (D.n / 2 - 1 - J.used) = 31) := by
  show _ = _
  unfold askedJ
  rw [if_neg (by omega), if_pos hno]
 have HLL : Hid (l.length < 1000000000000) := by show _ < _; omega
 obtain ⟨n, hn⟩ : ∃ n, n = l.length := ⟨_, rfl⟩
 rw [← hn] at hcap ⊢
 have HNL := Lib.hid hn
 have c1 : (n : Int) ≤ (cap : Int) := by omega
 clear h hj hu h4 hl hno hn
 go_enter Tryz.func13, Tryz.ntmps13
 go_wp2_with fail
 refine (free_at Sd S d jb D J w HD.out HJ.out HU.out HN.out).mono ?_
 rintro e wq ⟨rfl, m, rfl⟩
 go_wp2_with fail
 obtain ⟨sv, rv, vs, hj⟩ := HJ.out
 have HB := Lib.hid hj.blk
 clear hj
 rw [HNL.out]
 refine (asked_at jb d J sv rv l.length 1048576 (D.n / 2 - 1 - J.used) HLL.out (w.drewN m) HB.out).mono ?_
 rintro e wq ⟨rfl, rfl⟩
 rw [HE.out]
 go_wp2_with fail
 go_ret
 exact ⟨rfl, m, rfl⟩
section
variable {ops : Array Oper} {o : Oper} {a : Act} {w : World} {K : Act → World → Prop} {Q : Exit → Act → World → Prop} {E : Prop}
theorem step_append_rec (hg : o.guard = none) (s x : Operand) (hop : o.op = Op.call { callee := Callee.builtin Builtin.append, args := #[s, x], argTypes := #[48, 48] })
  (B : Nat) (v y : Value) (n : Nat) (vs : List Value) (hs : a.eval s = v) (hown : w.ownsRow B 28 1 v n vs) (g : Nat) (hx : a.eval x = .slice (some ⟨g, 0, none⟩) 1 1) (hc : w.cell? ⟨g, 0, none⟩ = some y) (hy : y.oneCell' = true) (hb : n < 100000000) (hB : B ≤ w.heap.size)
  (hK : ∀ v' w', w'.ownsRow B 28 1 v' (n + 1) (vs ++ [y]) → w.grownBy w' v.ownBlock → (v'.ownBlock = v.ownBlock ∨ v'.ownBlock = some w.heap.size) → K (a.put o.dst v') w') :
  if Region.wanted o (yielded ops a.tmps) = true then Oper.wp Tryz.prog o a w K Q else E := by
 have hw : Region.wanted o (yielded ops a.tmps) = true := by simp [Region.wanted, hg]
 rw [if_pos hw]
 obtain ⟨i0, hi0, he⟩ := Option.map_eq_some_iff.1 info_bytes
 simp only [Prod.mk.injEq] at he
 obtain ⟨v', w', hrun, hown', hgr, _, hob⟩ := run_append_own_at (P := Tryz.prog) w B 48 o.type 28 i0 _ 1 24 Tryz.underlying48 hi0 he.1 he.2.1 he.2.2 rfl (by decide) v n vs hown ⟨g, 0, none⟩ 1 1 [y] rfl
  (by
   intro j z hj
   match j, hj with
   | 0, hj =>
    simp at hj
    rw [Addr.add_lit, ← hj]
    exact hc
   | j + 1, hj => simp at hj) (by intro z hz; simp at hz; subst hz; exact hy) (by unfold maxLen; omega) (by omega) hB
 unfold Oper.wp
 simp [execOp, hop, resolve, invoke, builtin, hs, hx, hrun, Result.andThen]
 exact hK v' w' hown' hgr hob
end
theorem cell_new (w : World) (y : Value) (t : TypeId) : (w.alloc (.cells #[y] t)).cell? ⟨w.heap.size, 0, none⟩ = some y := by
 simp only [World.cell?]
 rw [show (w.alloc (.cells #[y] t)).heap[w.heap.size]? = some (.cells #[y] t) from by show (w.heap.push _)[w.heap.size]? = _; simp]
 rfl
theorem app_room {a n u p : Nat} (ha : a ≤ 1) (hn : 4 ≤ n) (hu : u ≤ n / 2 - 1) (hp : p ≤ n / 2 - 1 - u) : a * (n / 2) + (1 + u) + p ≤ n := by
 obtain h1 | h1 : a = 0 ∨ a = 1 := by omega
 ·rw [h1]; omega
 ·rw [h1]; omega
theorem row_ne_blk {w : World} {B sz n jb : Nat} {e t : TypeId} {v : Value} {xs : List Value} {C : Array Value} (h : w.ownsRow B e sz v n xs) (hb : w.heap[jb]? = some (.cells C t)) (he : e ≠ t) : v.ownBlock ≠ some jb := by
 intro e2
 obtain ⟨_, ⟨rfl, _⟩ | ⟨g, cap, cur, rfl, _, hbb, _⟩⟩ := h
 ·simp [Value.ownBlock] at e2
 ·simp [Value.ownBlock] at e2
  rw [e2, hb] at hbb
  injection hbb with hbb
  injection hbb with _ hbb
  exact he hbb.symm
theorem rows_ne {w : World} {B B' sz sz' n n' : Nat} {e e' : TypeId} {v v' : Value} {xs xs' : List Value} (h : w.ownsRow B e sz v n xs) (h' : w.ownsRow B' e' sz' v' n' xs') (he : e ≠ e') : ∀ g, v.ownBlock = some g → v'.ownBlock ≠ some g := by
 intro g hg
 obtain ⟨_, ⟨rfl, _⟩ | ⟨g1, cap, cur, rfl, _, hbb, _⟩⟩ := h
 ·simp [Value.ownBlock] at hg
 ·simp [Value.ownBlock] at hg
  subst hg
  exact row_ne_blk h' hbb (fun x => he x.symm)
theorem app_mid7 {w5 w6 w7 : World} {S : Nat → Prop} {jb d : Nat} {J : Jn} {sv rv : Value} {vs : List Value} (h5 : JIn w5 S jb d J sv rv vs) (hb6 : Below w5.heap.size w5 w6) (hg7 : w6.grownBy w7 none) :
  JBlk w7 jb d J sv rv ∧ w7.ownsRow 0 28 1 rv J.recs.length vs := by
 have hj6 : JBlk w6 jb d J sv rv := (hb6.block jb h5.blk.lt).trans h5.blk
 have hj7 : JBlk w7 jb d J sv rv := hj6.grown hg7
 exact ⟨hj7, (Sec.row_off h5.rows (S := fun _ => False) ⟨hb6.os, hb6.tape, hb6.output, hb6.size, fun k hk _ => hb6.block k hk⟩ (fun _ _ h => h)) |> fun h => Sec.row_off h (Off.of_grown hg7 (S := fun _ => False) (by simp)) (fun _ _ h => h)⟩
theorem app_mid8 {w7 w8 : World} {jb d : Nat} {J : Jn} {sv rv : Value} {vs : List Value} (h : JBlk w7 jb d J sv rv ∧ w7.ownsRow 0 28 1 rv J.recs.length vs) (hg8 : w7.grownBy w8 rv.ownBlock) : JBlk w8 jb d J sv rv :=
 (hg8.block jb h.1.lt (fun e => row_ne_blk h.2 h.1 (by decide) e.symm)).trans h.1
theorem range_keep {w w' : World} {T : Nat → Prop} {g off : Nat} {xs : List Value} (h : w.rangeAt g off xs) (ho : Off T w w') (hg : g < w.heap.size) (hT : ¬ T g) : w'.rangeAt g off xs := fun j v hv => by
 have h1 := h j v hv
 simp only [World.cell?] at h1 ⊢
 rw [ho.block g hg hT]
 exact h1
theorem app_done {w5 w6 w7 w8 w9 : World} {S : Nat → Prop} {jb d : Nat} {J : Jn} {sv rv v8 y : Value} {vs : List Value} {l : List UInt8} (h5 : JIn w5 S jb d J sv rv vs) (hb6 : Below w5.heap.size w5 w6) (hr : BRow w6 w5.heap.size y l) (hg7 : w6.grownBy w7 none) (ho8 : w8.ownsRow 0 28 1 v8 (J.recs.length + 1) (vs ++ [y])) (hg8 : w7.grownBy w8 rv.ownBlock) (hob : v8.ownBlock = rv.ownBlock ∨ v8.ownBlock = some w7.heap.size) (hw9 : w9 = (w8.setCell ⟨jb, 7, none⟩ v8).setCell ⟨jb, 8, none⟩ (.int .i64 ((J.used + parts l.length : Nat) : Int))) :
  JIn w9 (fun b => (S b ∨ w5.heap.size ≤ b) ∧ b < w9.heap.size) jb d (J.app l) sv v8 (vs ++ [y]) ∧ Off S w5 w9 := by
 have hs56 := hb6.size
 have hs67 := hg7.size
 have hs78 := hg8.size
 have hj6 : JBlk w6 jb d J sv rv := (hb6.block jb h5.blk.lt).trans h5.blk
 have hj7 : JBlk w7 jb d J sv rv := hj6.grown hg7
 have hrow7 : w7.ownsRow 0 28 1 rv J.recs.length vs := (Sec.row_off h5.rows (S := fun _ => False) ⟨hb6.os, hb6.tape, hb6.output, hb6.size, fun k hk _ => hb6.block k hk⟩ (fun _ _ h => h)) |> fun h => Sec.row_off h (Off.of_grown hg7 (S := fun _ => False) (by simp)) (fun _ _ h => h)
 have hjr : rv.ownBlock ≠ some jb := row_ne_blk hrow7 hj7 (by decide)
 have hj8 : JBlk w8 jb d J sv rv := (hg8.block jb hj7.lt (fun e => hjr e.symm)).trans hj7
 have f1 := heap_setCell_same w8 jb 7 _ _ v8 hj8
 have f2 := heap_setCell_same _ jb 8 _ _ (.int .i64 ((J.used + parts l.length : Nat) : Int)) f1
 rw [← hw9] at f2
 have hg9 : w8.grownBy w9 (some jb) := by rw [hw9]; exact grown_trans (grown_set _ _ _ _) (grown_set _ _ _ _)
 have hs89 := hg9.size
 have o89 : Off (fun b => b = jb) w8 w9 := Off.of_grown hg9 (fun k e => by cases e; rfl)
 have o57 : Off (fun _ => False) w5 w7 := (⟨hb6.os, hb6.tape, hb6.output, hb6.size, fun k hk _ => hb6.block k hk⟩ : Off (fun _ => False) w5 w6).trans (Off.of_grown hg7 (by simp))
 have o78 : Off (fun b => rv.ownBlock = some b) w7 w8 := Off.of_grown hg8 (fun k e => e)
 -- a row of bytes stays
 have keep : ∀ {B : Nat} {v : Value} {m : List UInt8}, BRow w7 B v m → BRow w9 B v m := fun hv => by
  have h1 : BRow w8 _ _ _ := Sec.row_off hv o78 (fun g hg => rows_ne hv hrow7 (by decide) g hg)
  exact Sec.row_off h1 o89 (fun g hg e => row_ne_blk h1 hj8 (by decide) (e ▸ hg))
 have keep5 : ∀ {B : Nat} {v : Value} {m : List UInt8}, BRow w5 B v m → BRow w9 B v m := fun hv => keep (Sec.row_off hv o57 (fun _ _ h => h))
 have hS9 : ∀ b, S b → b < w9.heap.size := fun b hb => by have := h5.lt b hb; omega
 have hv8 : ∀ g, v8.ownBlock = some g → (S g ∨ w5.heap.size ≤ g) ∧ g < w9.heap.size := fun g hg => by
  have h1 := (ho8.lt g hg).2
  refine ⟨?_, by omega⟩
  rcases hob with e | e
  ·exact .inl (h5.own.2.2.1 g (e ▸ hg))
  ·rw [e] at hg
   cases hg
   exact .inr (by omega)
 have hy : ∀ g, y.ownBlock = some g → (S g ∨ w5.heap.size ≤ g) ∧ g < w9.heap.size := fun g hg => by
  have h1 := World.ownsRow.lt hr g hg
  exact ⟨.inr h1.1, by omega⟩
 have hlv : vs.length = J.recs.length := by have h1 : vs.length = J.recs.length * 1 := h5.rows.1; omega
 refine ⟨⟨f2, keep5 h5.st, ?_, ?_, ⟨⟨.inl h5.own.1, hS9 _ h5.own.1⟩, fun g hg => ⟨.inl (h5.own.2.1 g hg), hS9 _ (h5.own.2.1 g hg)⟩, hv8, ?_⟩, fun b hb => hb.2⟩, ?_⟩
 ·show World.ownsRow _ _ _ _ _ (J.recs ++ [l]).length _
  rw [List.length_append]
  exact Sec.row_off ho8 o89 (fun g hg e => row_ne_blk ho8 hj8 (by decide) (e ▸ hg))
 ·intro i l2 hi
  by_cases hlt : i < J.recs.length
  ·have hi2 : J.recs[i]? = some l2 := by
    have h1 : (J.recs ++ [l])[i]? = some l2 := hi
    rwa [List.getElem?_append_left hlt] at h1
   obtain ⟨v, hv, hrr⟩ := h5.recs i l2 hi2
   exact ⟨v, by rw [List.getElem?_append_left (by omega)]; exact hv, keep5 hrr⟩
  ·have h1 : (J.recs ++ [l])[i]? = some l2 := hi
   rw [List.getElem?_append_right (by omega)] at h1
   obtain ⟨e1, e2⟩ : i - J.recs.length = 0 ∧ l = l2 := by
    cases hx : i - J.recs.length with
    | zero => rw [hx] at h1; exact ⟨rfl, by simpa using h1⟩
    | succ x => rw [hx] at h1; simp at h1
   refine ⟨y, ?_, e2 ▸ keep (brow_less (Sec.row_off hr (Off.of_grown hg7 (S := fun _ => False) (by simp)) (fun _ _ h => h)) (Nat.zero_le _))⟩
   rw [List.getElem?_append_right (by omega), hlv, e1]
   rfl
 ·intro v hv g hg
  rcases List.mem_append.1 hv with hv | hv
  ·exact ⟨.inl (h5.own.2.2.2 v hv g hg), hS9 _ (h5.own.2.2.2 v hv g hg)⟩
  ·rw [List.mem_singleton.1 hv] at hg
   exact hy g hg
 ·refine ((o57.mono (fun _ _ h => h.elim)).trans (o78.mono (fun k _ e => h5.own.2.2.1 k e))).trans (o89.mono (fun k _ e => e ▸ h5.own.1))
theorem app_end {w w5 w6 w7 w8 x : World} {S Sd Sd5 : Nat → Prop} {jb d : Nat} {D5 : Dsk} {J : Jn} {sv rv v8 y : Value} {vs : List Value} {l : List UInt8} (ho5 : Off Sd w w5) (hjw : ∀ b, S b → b < w.heap.size) (h5 : JIn w5 S jb d J sv rv vs) (hb6 : Below w5.heap.size w5 w6) (hr : BRow w6 w5.heap.size y l) (hg7 : w6.grownBy w7 none) (ho8 : w8.ownsRow 0 28 1 v8 (J.recs.length + 1) (vs ++ [y])) (hg8 : w7.grownBy w8 rv.ownBlock) (hob : v8.ownBlock = rv.ownBlock ∨ v8.ownBlock = some w7.heap.size)
  (hx : Off (fun _ => False) ((w8.setCell ⟨jb, 7, none⟩ v8).setCell ⟨jb, 8, none⟩ (.int .i64 ((J.used + parts l.length : Nat) : Int))) x) (hSS : ∀ b, S b → ¬ Sd b) (hs5 : ∀ b, Sd5 b → (Sd b ∨ w.heap.size ≤ b) ∧ b < w5.heap.size) (hd5 : DiskAt w5 Sd5 d D5) :
  ∃ S' Sd', JAt x S' jb d (J.app l) ∧ DiskAt x Sd' d D5 ∧ (∀ b, S' b → ¬ Sd' b) ∧ (∀ b, S' b → S b ∨ w.heap.size ≤ b) ∧ (∀ b, Sd' b → (Sd b ∨ w.heap.size ≤ b) ∧ b < x.heap.size) ∧ Off (fun b => S b ∨ Sd b) w x := by
 obtain ⟨hj, ho⟩ := app_done h5 hb6 hr hg7 ho8 hg8 hob rfl
 have hs := ho5.size
 have ho2 : Off S w5 x := ho.trans (hx.mono (fun _ _ h => h.elim))
 have hs2 := ho2.size
 have hdis : ∀ b, Sd5 b → ¬ S b := fun b hb hS => by
  rcases (hs5 b hb).1 with h1 | h1
  ·exact hSS b hS h1
  ·have := hjw b hS
   omega
 refine ⟨_, Sd5, ⟨_, _, _, hj.off hx (fun _ _ h => h)⟩, hd5.off ho2 (fun k _ hk => hdis k hk), fun b hb hd => ?_, fun b hb => ?_, fun b hb => ⟨(hs5 b hb).1, by have := (hs5 b hb).2; omega⟩, (ho5.mono (fun _ _ h => .inr h)).trans (ho2.mono (fun _ _ h => .inl h))⟩
 ·rcases hb.1 with h1 | h1
  ·exact hdis b hd h1
  ·have := (hs5 b hd).2
   omega
 ·rcases hb.1 with h1 | h1
  ·exact .inl h1
  ·exact .inr (by omega)
end Go.Proofs.YtgdedgfohjplmaaGreat.Jnl
