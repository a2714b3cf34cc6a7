/- A part of the proof of JournalKnown: KWrite KAreaIs KArea KAreaB KRec KAreaC0 KAreaC1. -/
import Derived.Test.YtgdedgfohjplmaaGreatK00
import Derived.Test.YtgdedgfohjplmaaGreatK11
set_option maxRecDepth 100000
set_option maxHeartbeats 40000000
namespace Go.Proofs.YtgdedgfohjplmaaGreat.Jnl
open Go.RowKit Go.Maps Sec
def writes (D : Dsk) (base : Nat) : List (List UInt8) → Int × Dsk
 | [] => (0, D)
 | b :: r => if (wrote D (base : Int) b).1 = 0 then writes (wrote D (base : Int) b).2 (base + 1) r else wrote D (base : Int) b
theorem wrote_len' (D : Dsk) (i : Int) (l : List UInt8) : (wrote D i l).2.wr.length ≤ D.wr.length + 1 ∧ (wrote D i l).2.n = D.n := by
 unfold Sec.wrote
 split
 ·exact ⟨Nat.le_succ _, rfl⟩
 ·split
  ·exact ⟨Nat.le_succ _, rfl⟩
  ·split
   ·exact ⟨by show (D.wr ++ [_]).length ≤ _; rw [List.length_append]; simp, rfl⟩
   ·exact ⟨Nat.le_succ _, rfl⟩
   ·exact ⟨by show (D.wr ++ [_]).length ≤ _; rw [List.length_append]; simp, rfl⟩
theorem drop_cons {α : Type} {l : List α} {i : Nat} {x : α} (h : l[i]? = some x) : l.drop i = x :: l.drop (i + 1) := by
 obtain ⟨hi, rfl⟩ := List.getElem?_eq_some_iff.1 h
 exact List.drop_eq_getElem_cons hi
theorem rwrite_list (S : Nat → Prop) (m : Nat) (D : Dsk) (a at0 : Nat) (ls : List (List UInt8)) (lv : Value) (B : Nat) (w : World) (h : RefAt w S m D) (hS : ∀ b, w.heap.size ≤ b → S b) (hr : StrRow w B lv (ls.map strV)) (hrS : ∀ g, lv.ownBlock = some g → ¬ S g) (ha : a ≤ 1) (hat : at0 ≤ 20000) (hls : ∀ l ∈ ls, l.length ≤ 1000) (hn : D.wr.length + ls.length < 1000000) :
  Calls Tryz.prog 68 #[.pointer (some ⟨m, 0, none⟩), .int .i64 (a : Int), .int .i64 (at0 : Int), lv] w fun e w' => e = .returned (.int .i64 (writes D (a * (D.n / 2) + at0) ls).1) ∧ RefAt w' S m (writes D (a * (D.n / 2) + at0) ls).2 ∧ Off S w w' := by
 have hn16 := h.1
 obtain ⟨A, cap, hlv, hcap, hget⟩ := str_slice hr
 rw [List.length_map] at hlv hcap
 subst hlv
 obtain ⟨len, hlen⟩ : ∃ n, n = ls.length := ⟨_, rfl⟩
 obtain ⟨hh, hhe⟩ : ∃ x, x = D.n / 2 := ⟨_, rfl⟩
 have HHE := Lib.hid hhe
 have hlb : len < 1000000 := by omega
 rw [← hhe]
 have HCELL : Hid (∀ i x, ls[i]? = some x → ∃ g, A = some ⟨g, 0, none⟩ ∧ ∀ v, Off S w v → v.cell? ⟨g, i, none⟩ = some (strV x)) := fun i x hx => by
  obtain ⟨g, hA, hc⟩ := hget i (strV x) (by rw [List.getElem?_map, hx]; rfl)
  subst hA
  refine ⟨g, rfl, fun v hv => ?_⟩
  have hg : g < w.heap.size := World.block_lt_of_cell? w _ hc
  exact (World.cell?_of_block (w := w) (w' := v) (a := ⟨g, i, none⟩) (hv.block g hg (hrS g rfl))).trans hc
 have HR := Lib.hid h
 have HS := Lib.hid hS
 have HN : Hid (D.wr.length + len < 1000000) := by rw [hlen]; exact hn
 have HLS := Lib.hid hls
 have HLEN := Lib.hid hlen
 rw [← hlen] at hcap ⊢
 have hah : a * hh ≤ 8192 := by
  have : hh ≤ 8192 := by omega
  rcases (show a = 0 ∨ a = 1 by omega) with rfl | rfl <;> omega
 obtain ⟨ph, hph⟩ : ∃ x, x = a * hh := ⟨_, rfl⟩
 have HM1 : Hid (IntKind.i64.wrap ((a : Int) * (hh : Int)) = (ph : Int)) := by
  show _ = _
  rw [hph, ← Int.natCast_mul, IntKind.wrap_i64]
  omega
 have HM2 : Hid (IntKind.i64.wrap ((ph : Int) + (at0 : Int)) = ((a * hh + at0 : Nat) : Int)) := by
  show _ = _
  rw [IntKind.wrap_i64]
  omega
 obtain ⟨base, hbase⟩ : ∃ x, x = a * hh + at0 := ⟨_, rfl⟩
 rw [← hbase] at HM2 ⊢
 have hbb : base ≤ 30000 := by omega
 clear hph hbase h hS hr hrS hn hls hlen hget hhe hat ha hah
 go_enter Tryz.func68, Tryz.ntmps68
 go_wp2_with fail
 go_loopw [9] (fun v9 wr => ∃ (i : Nat) (E : Dsk), i ≤ len ∧ v9 = .int .i64 (i : Int) ∧ writes D base ls = writes E (base + i) (ls.drop i) ∧ RefAt wr S m E ∧ Off S w wr ∧ E.n = D.n ∧ E.wr.length ≤ D.wr.length + i) (fun v9 _ => len - (intOf v9).toNat)
 case atStart => exact ⟨0, D, Nat.zero_le _, rfl, rfl, HR.out, Off.refl _ _, rfl, Nat.le_refl _⟩
 case round =>
  obtain ⟨i, E, hi, rfl, hw, hre, ho, hen, hewl⟩ := hrel
  have HW := Lib.hid hw
  have HRE := Lib.hid hre
  have HOF := Lib.hid ho
  have HEN := Lib.hid hen
  have HEW := Lib.hid hewl
  clear hw hre ho hen hewl
  by_cases hlt : i < len
  ·have hd : decide (i < len) = true := by simp; omega
   obtain ⟨x, hx⟩ : ∃ x, ls[i]? = some x := ⟨ls[i]'(by rw [← HLEN.out]; exact hlt), List.getElem?_eq_getElem _⟩
   obtain ⟨g, rfl, hc⟩ := HCELL.out i x hx
   have HC := Lib.hid hc
   have hb0 : (0 : Int) ≤ (i : Int) := by omega
   have hb1 : (i : Int) < (len : Int) := by omega
   have hb2 : i < len := hlt
   obtain ⟨bi, hbi⟩ : ∃ x, x = base + i := ⟨_, rfl⟩
   have HBI := Lib.hid hbi
   have HM3 : Hid (IntKind.i64.wrap ((base : Int) + (i : Int)) = (bi : Int)) := by
    show _ = _
    rw [IntKind.wrap_i64]
    omega
   have HHALF : Hid (∀ k, Calls Tryz.prog 92 #[.pointer (some ⟨m, 0, none⟩)] (wr.drewN k) fun e w' => e = .returned (.int .i64 (hh : Int)) ∧ (wr.drewN k) = w') := fun k => by
    rw [HHE.out, ← HEN.out]
    exact rhalf_at S m E _ (HRE.out.grown ⟨rfl, rfl, rfl, Nat.le_refl _, fun _ _ _ => rfl⟩)
   have HDR : Hid (Off S w wr.drew) := ⟨HOF.out.os, HOF.out.tape, HOF.out.output, HOF.out.size, HOF.out.block⟩
   have hxl : x.length ≤ 1000 := HLS.out x (List.mem_of_getElem? hx)
   have HWR := Lib.hid (rwrite_at S m (bi : Int) E x wr.drew (HRE.out.grown ⟨rfl, rfl, rfl, Nat.le_refl _, fun _ _ _ => rfl⟩) (fun b hb => HS.out b (Nat.le_trans HOF.out.size hb)) (by unfold maxLen; omega) (by have h1 := HEW.out; have h2 := HN.out; omega))
   have HD1 : Hid (ls.drop i = x :: ls.drop (i + 1)) := drop_cons hx
   obtain ⟨r, hr⟩ : ∃ r, r = (wrote E (bi : Int) x).1 := ⟨_, rfl⟩
   obtain ⟨E2, hE2⟩ : ∃ r, r = (wrote E (bi : Int) x).2 := ⟨_, rfl⟩
   rw [← hr, ← hE2] at HWR
   have HWL := Lib.hid (wrote_len' E (bi : Int) x)
   rw [← hE2] at HWL
   have HRR := Lib.hid (And.intro hr hE2)
   clear hc hx hxl hr hE2 hbi
   go_upto_region 4 with fail
   refine wp_region_noPanic ?_
   refine wp_region_held_drew (S := fun w' => w'.cell? ⟨g, i, none⟩ = some (strV x)) (by kernel_rfl) ?hSs (fun hHeld => ?_)
   case hSs => exact HC.out _ HDR.out
   refine ztk 0 rfl ?_
   refine ztk 1 rfl ?_
   refine ztk 2 rfl ?_
   refine ztk 5 rfl ?_
   refine ztk 7 rfl ?_
   refine ztk 9 rfl ?_
   refine ztk 10 rfl ?_
   refine ztk 11 rfl ?_
   refine ztk 12 rfl ?_
   refine zrd 3 rfl (fun K hK => ?_)
   go_simp
   refine (HHALF.out 1).mono ?_
   rintro e wq ⟨rfl, hwq⟩
   have hwq := hwq.symm
   subst hwq
   go_wp2_with fail
   refine hK.out _ _ ?q (fun hHeld => ?_)
   case q => (try dsimp only); exact HC.out _ HDR.out
   clear hK K
   try simp only [zpt]
   refine ztk 4 rfl ?_ (v := Value.int .i64 (ph : Int)) (hy := ?hys4)
   case hys4 => (intro wS hSw; (try dsimp only at hSw); go_simp; rw [HM1.out])
   refine ztk 6 rfl ?_ (v := Value.int .i64 (base : Int)) (hy := ?hys6)
   case hys6 => (intro wS hSw; (try dsimp only at hSw); go_simp; rw [HM2.out])
   refine ztk 8 rfl ?_ (v := Value.int .i64 (bi : Int)) (hy := ?hys8)
   case hys8 => (intro wS hSw; (try dsimp only at hSw); go_simp; rw [HM3.out])
   refine zrd 13 rfl (fun K hK => ?_)
   go_simp
   refine HWR.out.mono ?_
   rintro e w5 ⟨rfl, hr5, ho5⟩
   have HR5 : Hid (RefAt w5 S m E2 ∧ Off S w w5) := ⟨hr5, HDR.out.trans ho5⟩
   clear hr5 ho5
   go_wp2_with fail
   refine hK.out _ _ ?q (fun hHeld => ?_)
   case q => (try dsimp only); exact HC.out _ HR5.out.2
   clear hK K
   try simp only [zpt]
   refine ztk 14 rfl ?_
   refine wpAnyH_done (by kernel_rfl) ?_ _
   refine NoPanic.normal ?_
   clear hHeld
   by_cases hr0 : r = 0
   ·have hr1 : (r != 0) = false := by simp [hr0]
    have HX : Hid (writes D base ls = writes E2 (base + (i + 1)) (ls.drop (i + 1))) := by
     show _ = _
     rw [HW.out, HD1.out, ← HBI.out]
     show (if (wrote E (bi : Int) x).1 = 0 then _ else _) = _
     rw [← HRR.out.1, if_pos hr0, ← HRR.out.2, HBI.out]
     rfl
    clear hr0
    go_wp2_with fail
    go_roundw
    case rel => exact ⟨i + 1, E2, hlt, by go_num, HX.out, HR5.out.1, HR5.out.2, HWL.out.2.trans HEN.out, by have h1 := HWL.out.1; have h2 := HEW.out; omega⟩
    case measure => simp [intOf]; omega
   ·have hr1 : (r != 0) = true := by simp [hr0]
    have HX : Hid (writes D base ls = (r, E2)) := by
     show _ = _
     rw [HW.out, HD1.out, ← HBI.out]
     show (if (wrote E (bi : Int) x).1 = 0 then _ else _) = _
     rw [← HRR.out.1, if_neg hr0, HRR.out.1, HRR.out.2]
    clear hr0
    go_wp2_with fail
    go_ret
    rw [HX.out]
    exact ⟨rfl, HR5.out.1, HR5.out.2⟩
  ·have hd : decide (i < len) = false := by simp; omega
   obtain rfl : i = len := by omega
   have HX : Hid (writes D base ls = (0, E)) := by
    show _ = _
    rw [HW.out, List.drop_of_length_le (by rw [← HLEN.out]; exact Nat.le_refl _)]
    rfl
   go_wp2_with fail
   go_ret
   rw [HX.out]
   exact ⟨rfl, HRE.out, HOF.out⟩
structure HNums (b : List UInt8) (g o f n : Nat) : Prop where
 len : b.length = 128
 g8 : Num b 1 8 g
 o8 : Num b 9 8 o
 f8 : Num b 17 8 f
 n4 : Num b 25 4 n
def HeadOk (b : List UInt8) (g o f n : Nat) : Prop := (1 ≤ g ∧ g ≤ 4611686018427387904) ∧ (1 ≤ o ∧ o ≤ 4611686018427387904) ∧ (1 ≤ f ∧ f ≤ 4611686018427387904) ∧ n ≤ 1048576 ∧ b = headB g o f n
def NoHead (b : List UInt8) : Prop := ∃ g o f n, HNums b g o f n ∧ ¬ HeadOk b g o f n
theorem head_nums {g o f n : Nat} (hg : g ≤ 4611686018427387904) (ho : o ≤ 4611686018427387904) (hf : f ≤ 4611686018427387904) (hn : n ≤ 1048576) : HNums (headB g o f n) g o f n := by
 have e8 : (256 : Nat) ^ 8 = 18446744073709551616 := rfl
 have e4 : (256 : Nat) ^ 4 = 4294967296 := rfl
 exact ⟨headB_length .., ⟨head_part0 .., by omega, by omega⟩, ⟨head_part1 .., by omega, by omega⟩, ⟨head_part2 .., by omega, by omega⟩, ⟨head_part3 .., by omega, by omega⟩⟩
inductive AreaIs (D : Dsk) (a : Nat) : Option Jn → Prop
 | nohead (h : NoHead (D.now (a * (D.n / 2)))) : AreaIs D a none
 | short (g o f n : Nat) (h : HeadOk (D.now (a * (D.n / 2))) g o f n) (hw : Wn D.now (a * (D.n / 2)) (D.n / 2) 0 67 0 ∨ ∃ s M fs, Wy D.now (a * (D.n / 2)) (D.n / 2) 0 67 0 s M fs ∧ (s ≠ g ∨ (joined fs M).length ≠ n)) : AreaIs D a none
 | bears (J : Jn) (ha : J.area = a) (h : Bears D J) : AreaIs D a (some J)
def rj0 : Array Value := #[.pointer none, .int .i64 0, .int .i64 0, .int .i64 0, .int .i64 0, .string ByteArray.empty, .slice none 0 0, .int .i64 0, .int .i64 0]
structure JtSt (w wr : World) (cs : Array Value) : Prop where
 below : Below w.heap.size w wr
 size : w.heap.size + 2 ≤ wr.heap.size
 res : wr.heap[w.heap.size]? = some (.cells rj0 101)
 pt : wr.heap[w.heap.size + 1]? = some (.cells cs 101)
section
variable {w wr v : World} {cs : Array Value}
theorem JtSt.start (w : World) (cs : Array Value) : JtSt w ((w.alloc (.cells rj0 101)).alloc (.cells cs 101)) cs := by
 have h1 := MapKept.heap_alloc w (.cells rj0 101)
 have h2 := MapKept.heap_alloc (w.alloc (.cells rj0 101)) (.cells cs 101)
 have s1 : (w.alloc (.cells rj0 101)).heap.size = w.heap.size + 1 := World.size_alloc ..
 refine ⟨(grown_below0 (World.grownBy_alloc w _ none) (Nat.le_refl _)).trans (grown_below0 (World.grownBy_alloc _ _ none) (by omega)), by rw [World.size_alloc, s1]; exact Nat.le_refl _, ?_, ?_⟩
 ·rw [(World.grownBy_alloc (w.alloc (.cells rj0 101)) _ none).block w.heap.size (by omega) (by simp)]
  exact h1.1
 ·have := h2.1
  rw [s1] at this
  exact this
theorem JtSt.later (h : JtSt w wr cs) (hb : Below wr.heap.size wr v) : JtSt w v cs :=
 ⟨h.below.trans (hb.mono (by have := h.size; omega)), Nat.le_trans h.size hb.size, (hb.block _ (by have := h.size; omega)).trans h.res, (hb.block _ (by have := h.size; omega)).trans h.pt⟩
theorem JtSt.off (h : JtSt w wr cs) (ho : Off (fun b => w.heap.size + 2 ≤ b) wr v) : JtSt w v cs :=
 ⟨h.below.trans ⟨ho.os, ho.tape, ho.output, ho.size, fun k hk => ho.block k (by have := h.size; omega) (by omega)⟩, Nat.le_trans h.size ho.size, (ho.block _ (by have := h.size; omega) (by omega)).trans h.res, (ho.block _ (by have := h.size; omega) (by omega)).trans h.pt⟩
theorem JtSt.drewN (h : JtSt w wr cs) (m : Nat) : JtSt w (wr.drewN m) cs := ⟨below_drewN h.below m, h.size, h.res, h.pt⟩
theorem JtSt.cell (h : JtSt w wr cs) (j : Nat) : wr.cell? ⟨w.heap.size + 1, j, none⟩ = cs[j]? := cell_blk h.pt j
theorem JtSt.rescell (h : JtSt w wr cs) (j : Nat) : wr.cell? ⟨w.heap.size, j, none⟩ = rj0[j]? := cell_blk h.res j
theorem JtSt.free (h : JtSt w wr cs) (j : Nat) : wr.frozen? ⟨w.heap.size + 1, j, none⟩ = false := frozen_blk h.pt j
theorem JtSt.resfree (h : JtSt w wr cs) (j : Nat) : wr.frozen? ⟨w.heap.size, j, none⟩ = false := frozen_blk h.res j
theorem JtSt.set (h : JtSt w wr cs) (j : Nat) (x : Value) : JtSt w (wr.setCell ⟨w.heap.size + 1, j, none⟩ x) (cs.setIfInBounds j x) := by
 have hg := grown_set wr (w.heap.size + 1) j x
 refine ⟨h.below.trans ⟨hg.os, hg.tape, hg.output, hg.size, fun k hk => hg.block k (by have := h.size; omega) (fun e => by cases e; omega)⟩, by have := h.size; simpa using this, ?_, ?_⟩
 ·rw [hg.block w.heap.size (by have := h.size; omega) (fun e => by simp at e)]
  exact h.res
 ·exact heap_setCell_same wr (w.heap.size + 1) j _ _ _ h.pt
def putR9 (z : World) (g : Nat) (x0 x1 x2 x3 x4 x5 x6 x7 x8 : Value) : World := (((putP z g x0 x1 x2 x3 x4 x5).setCell ⟨g, 6, none⟩ x6).setCell ⟨g, 7, none⟩ x7).setCell ⟨g, 8, none⟩ x8
theorem JtSt.put (h : JtSt w wr cs) (x0 x1 x2 x3 x4 x5 x6 x7 x8 : Value) : (putR9 wr w.heap.size x0 x1 x2 x3 x4 x5 x6 x7 x8).heap[w.heap.size]? = some (.cells #[x0, x1, x2, x3, x4, x5, x6, x7, x8] 101) ∧ Below w.heap.size w (putR9 wr w.heap.size x0 x1 x2 x3 x4 x5 x6 x7 x8) ∧ Off (fun b => b = w.heap.size) wr (putR9 wr w.heap.size x0 x1 x2 x3 x4 x5 x6 x7 x8) := by
 have f1 : (wr.setCell ⟨w.heap.size, 0, none⟩ x0).heap[w.heap.size]? = some (.cells #[x0, .int .i64 0, .int .i64 0, .int .i64 0, .int .i64 0, .string ByteArray.empty, .slice none 0 0, .int .i64 0, .int .i64 0] 101) := heap_setCell_same _ w.heap.size 0 _ _ x0 h.res
 have f2 : ((wr.setCell ⟨w.heap.size, 0, none⟩ x0).setCell ⟨w.heap.size, 1, none⟩ x1).heap[w.heap.size]? = some (.cells #[x0, x1, .int .i64 0, .int .i64 0, .int .i64 0, .string ByteArray.empty, .slice none 0 0, .int .i64 0, .int .i64 0] 101) := heap_setCell_same _ w.heap.size 1 _ _ x1 f1
 have f3 : (((wr.setCell ⟨w.heap.size, 0, none⟩ x0).setCell ⟨w.heap.size, 1, none⟩ x1).setCell ⟨w.heap.size, 2, none⟩ x2).heap[w.heap.size]? = some (.cells #[x0, x1, x2, .int .i64 0, .int .i64 0, .string ByteArray.empty, .slice none 0 0, .int .i64 0, .int .i64 0] 101) := heap_setCell_same _ w.heap.size 2 _ _ x2 f2
 have f4 : ((((wr.setCell ⟨w.heap.size, 0, none⟩ x0).setCell ⟨w.heap.size, 1, none⟩ x1).setCell ⟨w.heap.size, 2, none⟩ x2).setCell ⟨w.heap.size, 3, none⟩ x3).heap[w.heap.size]? = some (.cells #[x0, x1, x2, x3, .int .i64 0, .string ByteArray.empty, .slice none 0 0, .int .i64 0, .int .i64 0] 101) := heap_setCell_same _ w.heap.size 3 _ _ x3 f3
 have f5 : (((((wr.setCell ⟨w.heap.size, 0, none⟩ x0).setCell ⟨w.heap.size, 1, none⟩ x1).setCell ⟨w.heap.size, 2, none⟩ x2).setCell ⟨w.heap.size, 3, none⟩ x3).setCell ⟨w.heap.size, 4, none⟩ x4).heap[w.heap.size]? = some (.cells #[x0, x1, x2, x3, x4, .string ByteArray.empty, .slice none 0 0, .int .i64 0, .int .i64 0] 101) := heap_setCell_same _ w.heap.size 4 _ _ x4 f4
 have f6 : ((((((wr.setCell ⟨w.heap.size, 0, none⟩ x0).setCell ⟨w.heap.size, 1, none⟩ x1).setCell ⟨w.heap.size, 2, none⟩ x2).setCell ⟨w.heap.size, 3, none⟩ x3).setCell ⟨w.heap.size, 4, none⟩ x4).setCell ⟨w.heap.size, 5, none⟩ x5).heap[w.heap.size]? = some (.cells #[x0, x1, x2, x3, x4, x5, .slice none 0 0, .int .i64 0, .int .i64 0] 101) := heap_setCell_same _ w.heap.size 5 _ _ x5 f5
 have f7 : (((((((wr.setCell ⟨w.heap.size, 0, none⟩ x0).setCell ⟨w.heap.size, 1, none⟩ x1).setCell ⟨w.heap.size, 2, none⟩ x2).setCell ⟨w.heap.size, 3, none⟩ x3).setCell ⟨w.heap.size, 4, none⟩ x4).setCell ⟨w.heap.size, 5, none⟩ x5).setCell ⟨w.heap.size, 6, none⟩ x6).heap[w.heap.size]? = some (.cells #[x0, x1, x2, x3, x4, x5, x6, .int .i64 0, .int .i64 0] 101) := heap_setCell_same _ w.heap.size 6 _ _ x6 f6
 have f8 : ((((((((wr.setCell ⟨w.heap.size, 0, none⟩ x0).setCell ⟨w.heap.size, 1, none⟩ x1).setCell ⟨w.heap.size, 2, none⟩ x2).setCell ⟨w.heap.size, 3, none⟩ x3).setCell ⟨w.heap.size, 4, none⟩ x4).setCell ⟨w.heap.size, 5, none⟩ x5).setCell ⟨w.heap.size, 6, none⟩ x6).setCell ⟨w.heap.size, 7, none⟩ x7).heap[w.heap.size]? = some (.cells #[x0, x1, x2, x3, x4, x5, x6, x7, .int .i64 0] 101) := heap_setCell_same _ w.heap.size 7 _ _ x7 f7
 have f9 : (((((((((wr.setCell ⟨w.heap.size, 0, none⟩ x0).setCell ⟨w.heap.size, 1, none⟩ x1).setCell ⟨w.heap.size, 2, none⟩ x2).setCell ⟨w.heap.size, 3, none⟩ x3).setCell ⟨w.heap.size, 4, none⟩ x4).setCell ⟨w.heap.size, 5, none⟩ x5).setCell ⟨w.heap.size, 6, none⟩ x6).setCell ⟨w.heap.size, 7, none⟩ x7).setCell ⟨w.heap.size, 8, none⟩ x8).heap[w.heap.size]? = some (.cells #[x0, x1, x2, x3, x4, x5, x6, x7, x8] 101) := heap_setCell_same _ w.heap.size 8 _ _ x8 f8
 have k : ∀ (z : World) (j : Nat) (q : Value), Off (fun b => b = w.heap.size) z (z.setCell ⟨w.heap.size, j, none⟩ q) := fun z j q => Off.of_grown (grown_set z w.heap.size j q) (fun x hx => by cases hx; rfl)
 have ho : Off (fun b => b = w.heap.size) wr (putR9 wr w.heap.size x0 x1 x2 x3 x4 x5 x6 x7 x8) := by
  unfold putR9 putP
  exact ((((((((k _ _ _).trans (k _ _ _)).trans (k _ _ _)).trans (k _ _ _)).trans (k _ _ _)).trans (k _ _ _)).trans (k _ _ _)).trans (k _ _ _)).trans (k _ _ _)
 refine ⟨f9, h.below.trans ⟨ho.os, ho.tape, ho.output, ho.size, fun b hb => ho.block b (by have := h.size; omega) (by omega)⟩, ho⟩
end
def RNo (w : World) (e : Ending) (w' : World) : Prop := ∃ (p : Option Addr) (i1 i2 i3 i4 : Int) (s : ByteArray) (A : Option Addr) (n c : Nat) (i7 i8 : Int), e = .returned (.tuple #[.agg #[.pointer p, .int .i64 i1, .int .i64 i2, .int .i64 i3, .int .i64 i4, .string s, .slice A n c, .int .i64 i7, .int .i64 i8], .bool false]) ∧ Below w.heap.size w w'
theorem rarea_nohead0 (S : Nat → Prop) (m : Nat) (D : Dsk) (w : World) (h : RefAt w S m D) (ho : D.off = false) (hf : Full D) (h4 : 4 ≤ D.n) (hh : NoHead (D.now (0 * (D.n / 2)))) :
  Calls Tryz.prog 66 #[.pointer (some ⟨m, 0, none⟩), .int .i64 0] w (RNo w) := by
 have HR := Lib.hid h
 have hn := h.1
 obtain ⟨bi, hbi⟩ : ∃ b, b = D.now (0 * (D.n / 2)) := ⟨_, rfl⟩
 have hrd : ∀ v x, Below w.heap.size w v → x = ((0 * (D.n / 2) : Nat) : Int) → Calls Tryz.prog 69 #[.pointer (some ⟨m, 0, none⟩), .int .i64 x] v fun e w' => e = .returned (.tuple #[strV bi, .int .i64 0]) ∧ v = w' := fun v x hv hx => by
  rw [hbi]
  exact rread_t S m x _ D v (HR.out.grown (Below.to_grown hv)) hx (area_lt (by decide) h4) ho hf
 rw [← hbi] at hh
 obtain ⟨g, o, f, n, hnum, hno⟩ := hh
 have HN := Lib.hid hnum
 have HRD := Lib.hid hrd
 obtain ⟨hw, hhe⟩ : ∃ x, x = D.n / 2 := ⟨_, rfl⟩
 have hhn : hw ≤ 8192 := by omega
 rw [← hhe] at HRD
 have HHALF : Hid (∀ v, Below w.heap.size w v → Calls Tryz.prog 92 #[.pointer (some ⟨m, 0, none⟩)] v fun e w' => e = .returned (.int .i64 (hw : Int)) ∧ v = w') := fun v hv => by rw [hhe]; exact rhalf_at S m D v (HR.out.grown (Below.to_grown hv))
 have HNO := Lib.hid hno
 have hg63 := hnum.g8.lt63
 have ho63 := hnum.o8.lt63
 have hf63 := hnum.f8.lt63
 have hn63 : n < 4294967296 := hnum.n4.lt
 have hb1 := grown_below0 (World.grownBy_alloc w (.cells rj0 101) none) (Nat.le_refl _)
 have HB1 := Lib.hid hb1
 clear h ho hf h4 hbi hrd hnum hhe hno hn hb1
 go_enter Tryz.func66, Tryz.ntmps66
 go_wp2_with fail
 refine (HHALF.out _ HB1.out).mono ?_
 rintro e w' ⟨rfl, rfl⟩
 go_wp2_with fail
 refine (HRD.out _ _ HB1.out (by first | omega | simp)).mono ?_
 rintro e w' ⟨rfl, rfl⟩
 go_wp2_with fail
 refine (num_call HN.out.g8 (by decide) (by decide) HN.out.len _).mono ?_
 rintro e w' ⟨rfl, rfl⟩
 go_wp2_with fail
 refine (num_call HN.out.o8 (by decide) (by decide) HN.out.len _).mono ?_
 rintro e w' ⟨rfl, rfl⟩
 go_wp2_with fail
 refine (num_call HN.out.f8 (by decide) (by decide) HN.out.len _).mono ?_
 rintro e w' ⟨rfl, rfl⟩
 go_wp2_with fail
 have hjt := JtSt.start w #[.pointer (some ⟨m, 0, none⟩), .int .i64 0, .int .i64 (g : Int), .int .i64 (o : Int), .int .i64 (f : Int), .string ⟨#[]⟩, .slice none 0 0, .int .i64 0, .int .i64 0]
 obtain ⟨z, hz⟩ : ∃ z, z = (w.alloc (.cells rj0 101)).alloc (.cells #[.pointer (some ⟨m, 0, none⟩), .int .i64 0, .int .i64 (g : Int), .int .i64 (o : Int), .int .i64 (f : Int), .string ⟨#[]⟩, .slice none 0 0, .int .i64 0, .int .i64 0] 101) := ⟨_, rfl⟩
 rw [← hz] at hjt ⊢
 have HZ := Lib.hid hjt
 clear hz hjt
 refine (num_call HN.out.n4 (by decide) (by decide) HN.out.len _).mono ?_
 rintro e w' ⟨rfl, rfl⟩
 obtain ⟨p0, p1, p2, p3, p4, p5, p6, p7, p8⟩ := z9 HZ.out.pt
 obtain ⟨r0, r1, r2, r3, r4, r5, r6, r7, r8⟩ := z9 HZ.out.res
 have q0 := HZ.out.resfree
 by_cases cg1 : g < 1
 ·have tg1 : decide ((g : Int) < 1) = true := by simp; omega
  clear cg1 HNO
  go_wp2_with fail
  have HQ := HZ
  (try simp only [Exit.inBlock, Exit.then])
  refine bodyPost_ret (results_row_tmp rfl _ _ w.heap.size _ _ _ _ rfl (HQ.out.put _ _ _ _ _ _ _ _ _).1 Tryz.underlying101 rfl (by kernel_rfl)) rfl ?_
  exact ⟨_, _, _, _, _, _, _, _, _, _, _, rfl, (HQ.out.put _ _ _ _ _ _ _ _ _).2.1⟩
 have tg1 : decide ((g : Int) < 1) = false := by simp; omega
 by_cases cg2 : 4611686018427387904 < g
 ·have tg2 : decide ((4611686018427387904 : Int) < (g : Int)) = true := by simp; omega
  clear cg1 cg2 HNO
  go_wp2_with fail
  have HQ := HZ
  (try simp only [Exit.inBlock, Exit.then])
  refine bodyPost_ret (results_row_tmp rfl _ _ w.heap.size _ _ _ _ rfl (HQ.out.put _ _ _ _ _ _ _ _ _).1 Tryz.underlying101 rfl (by kernel_rfl)) rfl ?_
  exact ⟨_, _, _, _, _, _, _, _, _, _, _, rfl, (HQ.out.put _ _ _ _ _ _ _ _ _).2.1⟩
 have tg2 : decide ((4611686018427387904 : Int) < (g : Int)) = false := by simp; omega
 by_cases co1 : o < 1
 ·have to1 : decide ((o : Int) < 1) = true := by simp; omega
  clear co1 HNO
  go_wp2_with fail
  have HQ := HZ
  (try simp only [Exit.inBlock, Exit.then])
  refine bodyPost_ret (results_row_tmp rfl _ _ w.heap.size _ _ _ _ rfl (HQ.out.put _ _ _ _ _ _ _ _ _).1 Tryz.underlying101 rfl (by kernel_rfl)) rfl ?_
  exact ⟨_, _, _, _, _, _, _, _, _, _, _, rfl, (HQ.out.put _ _ _ _ _ _ _ _ _).2.1⟩
 have to1 : decide ((o : Int) < 1) = false := by simp; omega
 by_cases co2 : 4611686018427387904 < o
 ·have to2 : decide ((4611686018427387904 : Int) < (o : Int)) = true := by simp; omega
  clear co1 co2 HNO
  go_wp2_with fail
  have HQ := HZ
  (try simp only [Exit.inBlock, Exit.then])
  refine bodyPost_ret (results_row_tmp rfl _ _ w.heap.size _ _ _ _ rfl (HQ.out.put _ _ _ _ _ _ _ _ _).1 Tryz.underlying101 rfl (by kernel_rfl)) rfl ?_
  exact ⟨_, _, _, _, _, _, _, _, _, _, _, rfl, (HQ.out.put _ _ _ _ _ _ _ _ _).2.1⟩
 have to2 : decide ((4611686018427387904 : Int) < (o : Int)) = false := by simp; omega
 by_cases cf1 : f < 1
 ·have tf1 : decide ((f : Int) < 1) = true := by simp; omega
  clear cf1 HNO
  go_wp2_with fail
  have HQ := HZ
  (try simp only [Exit.inBlock, Exit.then])
  refine bodyPost_ret (results_row_tmp rfl _ _ w.heap.size _ _ _ _ rfl (HQ.out.put _ _ _ _ _ _ _ _ _).1 Tryz.underlying101 rfl (by kernel_rfl)) rfl ?_
  exact ⟨_, _, _, _, _, _, _, _, _, _, _, rfl, (HQ.out.put _ _ _ _ _ _ _ _ _).2.1⟩
 have tf1 : decide ((f : Int) < 1) = false := by simp; omega
 by_cases cf2 : 4611686018427387904 < f
 ·have tf2 : decide ((4611686018427387904 : Int) < (f : Int)) = true := by simp; omega
  clear cf1 cf2 HNO
  go_wp2_with fail
  have HQ := HZ
  (try simp only [Exit.inBlock, Exit.then])
  refine bodyPost_ret (results_row_tmp rfl _ _ w.heap.size _ _ _ _ rfl (HQ.out.put _ _ _ _ _ _ _ _ _).1 Tryz.underlying101 rfl (by kernel_rfl)) rfl ?_
  exact ⟨_, _, _, _, _, _, _, _, _, _, _, rfl, (HQ.out.put _ _ _ _ _ _ _ _ _).2.1⟩
 have tf2 : decide ((4611686018427387904 : Int) < (f : Int)) = false := by simp; omega
 by_cases cn : 1048576 < n
 ·have tn : decide ((1048576 : Int) < (n : Int)) = true := by simp; omega
  clear cn HNO
  go_wp2_with fail
  have HQ := HZ
  (try simp only [Exit.inBlock, Exit.then])
  refine bodyPost_ret (results_row_tmp rfl _ _ w.heap.size _ _ _ _ rfl (HQ.out.put _ _ _ _ _ _ _ _ _).1 Tryz.underlying101 rfl (by kernel_rfl)) rfl ?_
  exact ⟨_, _, _, _, _, _, _, _, _, _, _, rfl, (HQ.out.put _ _ _ _ _ _ _ _ _).2.1⟩
 have tn : decide ((1048576 : Int) < (n : Int)) = false := by simp; omega
 have hne : bi ≠ headB g o f n := fun e => HNO.out ⟨⟨by omega, by omega⟩, ⟨by omega, by omega⟩, ⟨by omega, by omega⟩, by omega, e⟩
 have e1 : ((bs (headB g o f n)).toList == (bs bi).toList) = false := by rw [bs_eqd]; exact decide_eq_false (fun e => hne e.symm)
 have e2 : (!((bs (headB g o f n)).toList == (bs bi).toList)) = true := by rw [e1]; rfl
 obtain ⟨hb, hhb⟩ : ∃ l, l = headB g o f n := ⟨_, rfl⟩
 rw [← hhb] at e1 e2
 have HHB := Lib.hid hhb
 clear cg1 cg2 co1 co2 cf1 cf2 cn hne HNO hhb
 go_wp2_with fail
 refine (rhead_at g o f n hg63 ho63 hf63 (by omega) _).mono ?_
 rintro e w3 ⟨rfl, hb3⟩
 rw [← HHB.out]
 have HQ := Lib.hid (HZ.out.later hb3)
 clear hb3
 clear p0 r0
 clear p1 r1
 clear p2 r2
 clear p3 r3
 clear p4 r4
 clear p5 r5
 clear p6 r6
 clear p7 r7
 clear p8 r8
 clear q0
 obtain ⟨p0, p1, p2, p3, p4, p5, p6, p7, p8⟩ := z9 HQ.out.pt
 obtain ⟨r0, r1, r2, r3, r4, r5, r6, r7, r8⟩ := z9 HQ.out.res
 have q0 := HQ.out.resfree
 go_wp2_with fail
 (try simp only [Exit.inBlock, Exit.then])
 refine bodyPost_ret (results_row_tmp rfl _ _ w.heap.size _ _ _ _ rfl (HQ.out.put _ _ _ _ _ _ _ _ _).1 Tryz.underlying101 rfl (by kernel_rfl)) rfl ?_
 exact ⟨_, _, _, _, _, _, _, _, _, _, _, rfl, (HQ.out.put _ _ _ _ _ _ _ _ _).2.1⟩
theorem rarea_nohead1 (S : Nat → Prop) (m : Nat) (D : Dsk) (w : World) (h : RefAt w S m D) (ho : D.off = false) (hf : Full D) (h4 : 4 ≤ D.n) (hh : NoHead (D.now (1 * (D.n / 2)))) :
  Calls Tryz.prog 66 #[.pointer (some ⟨m, 0, none⟩), .int .i64 1] w (RNo w) := by
 have HR := Lib.hid h
 have hn := h.1
 obtain ⟨bi, hbi⟩ : ∃ b, b = D.now (1 * (D.n / 2)) := ⟨_, rfl⟩
 have hrd : ∀ v x, Below w.heap.size w v → x = ((1 * (D.n / 2) : Nat) : Int) → Calls Tryz.prog 69 #[.pointer (some ⟨m, 0, none⟩), .int .i64 x] v fun e w' => e = .returned (.tuple #[strV bi, .int .i64 0]) ∧ v = w' := fun v x hv hx => by
  rw [hbi]
  exact rread_t S m x _ D v (HR.out.grown (Below.to_grown hv)) hx (area_lt (by decide) h4) ho hf
 rw [← hbi] at hh
 obtain ⟨g, o, f, n, hnum, hno⟩ := hh
 have HN := Lib.hid hnum
 have HRD := Lib.hid hrd
 obtain ⟨hw, hhe⟩ : ∃ x, x = D.n / 2 := ⟨_, rfl⟩
 have hhn : hw ≤ 8192 := by omega
 rw [← hhe] at HRD
 have HHALF : Hid (∀ v, Below w.heap.size w v → Calls Tryz.prog 92 #[.pointer (some ⟨m, 0, none⟩)] v fun e w' => e = .returned (.int .i64 (hw : Int)) ∧ v = w') := fun v hv => by rw [hhe]; exact rhalf_at S m D v (HR.out.grown (Below.to_grown hv))
 have HNO := Lib.hid hno
 have hg63 := hnum.g8.lt63
 have ho63 := hnum.o8.lt63
 have hf63 := hnum.f8.lt63
 have hn63 : n < 4294967296 := hnum.n4.lt
 have hb1 := grown_below0 (World.grownBy_alloc w (.cells rj0 101) none) (Nat.le_refl _)
 have HB1 := Lib.hid hb1
 clear h ho hf h4 hbi hrd hnum hhe hno hn hb1
 go_enter Tryz.func66, Tryz.ntmps66
 go_wp2_with fail
 refine (HHALF.out _ HB1.out).mono ?_
 rintro e w' ⟨rfl, rfl⟩
 go_wp2_with fail
 refine (HRD.out _ _ HB1.out (by first | omega | simp)).mono ?_
 rintro e w' ⟨rfl, rfl⟩
 go_wp2_with fail
 refine (num_call HN.out.g8 (by decide) (by decide) HN.out.len _).mono ?_
 rintro e w' ⟨rfl, rfl⟩
 go_wp2_with fail
 refine (num_call HN.out.o8 (by decide) (by decide) HN.out.len _).mono ?_
 rintro e w' ⟨rfl, rfl⟩
 go_wp2_with fail
 refine (num_call HN.out.f8 (by decide) (by decide) HN.out.len _).mono ?_
 rintro e w' ⟨rfl, rfl⟩
 go_wp2_with fail
 have hjt := JtSt.start w #[.pointer (some ⟨m, 0, none⟩), .int .i64 1, .int .i64 (g : Int), .int .i64 (o : Int), .int .i64 (f : Int), .string ⟨#[]⟩, .slice none 0 0, .int .i64 0, .int .i64 0]
 obtain ⟨z, hz⟩ : ∃ z, z = (w.alloc (.cells rj0 101)).alloc (.cells #[.pointer (some ⟨m, 0, none⟩), .int .i64 1, .int .i64 (g : Int), .int .i64 (o : Int), .int .i64 (f : Int), .string ⟨#[]⟩, .slice none 0 0, .int .i64 0, .int .i64 0] 101) := ⟨_, rfl⟩
 rw [← hz] at hjt ⊢
 have HZ := Lib.hid hjt
 clear hz hjt
 refine (num_call HN.out.n4 (by decide) (by decide) HN.out.len _).mono ?_
 rintro e w' ⟨rfl, rfl⟩
 obtain ⟨p0, p1, p2, p3, p4, p5, p6, p7, p8⟩ := z9 HZ.out.pt
 obtain ⟨r0, r1, r2, r3, r4, r5, r6, r7, r8⟩ := z9 HZ.out.res
 have q0 := HZ.out.resfree
 by_cases cg1 : g < 1
 ·have tg1 : decide ((g : Int) < 1) = true := by simp; omega
  clear cg1 HNO
  go_wp2_with fail
  have HQ := HZ
  (try simp only [Exit.inBlock, Exit.then])
  refine bodyPost_ret (results_row_tmp rfl _ _ w.heap.size _ _ _ _ rfl (HQ.out.put _ _ _ _ _ _ _ _ _).1 Tryz.underlying101 rfl (by kernel_rfl)) rfl ?_
  exact ⟨_, _, _, _, _, _, _, _, _, _, _, rfl, (HQ.out.put _ _ _ _ _ _ _ _ _).2.1⟩
 have tg1 : decide ((g : Int) < 1) = false := by simp; omega
 by_cases cg2 : 4611686018427387904 < g
 ·have tg2 : decide ((4611686018427387904 : Int) < (g : Int)) = true := by simp; omega
  clear cg1 cg2 HNO
  go_wp2_with fail
  have HQ := HZ
  (try simp only [Exit.inBlock, Exit.then])
  refine bodyPost_ret (results_row_tmp rfl _ _ w.heap.size _ _ _ _ rfl (HQ.out.put _ _ _ _ _ _ _ _ _).1 Tryz.underlying101 rfl (by kernel_rfl)) rfl ?_
  exact ⟨_, _, _, _, _, _, _, _, _, _, _, rfl, (HQ.out.put _ _ _ _ _ _ _ _ _).2.1⟩
 have tg2 : decide ((4611686018427387904 : Int) < (g : Int)) = false := by simp; omega
 by_cases co1 : o < 1
 ·have to1 : decide ((o : Int) < 1) = true := by simp; omega
  clear co1 HNO
  go_wp2_with fail
  have HQ := HZ
  (try simp only [Exit.inBlock, Exit.then])
  refine bodyPost_ret (results_row_tmp rfl _ _ w.heap.size _ _ _ _ rfl (HQ.out.put _ _ _ _ _ _ _ _ _).1 Tryz.underlying101 rfl (by kernel_rfl)) rfl ?_
  exact ⟨_, _, _, _, _, _, _, _, _, _, _, rfl, (HQ.out.put _ _ _ _ _ _ _ _ _).2.1⟩
 have to1 : decide ((o : Int) < 1) = false := by simp; omega
 by_cases co2 : 4611686018427387904 < o
 ·have to2 : decide ((4611686018427387904 : Int) < (o : Int)) = true := by simp; omega
  clear co1 co2 HNO
  go_wp2_with fail
  have HQ := HZ
  (try simp only [Exit.inBlock, Exit.then])
  refine bodyPost_ret (results_row_tmp rfl _ _ w.heap.size _ _ _ _ rfl (HQ.out.put _ _ _ _ _ _ _ _ _).1 Tryz.underlying101 rfl (by kernel_rfl)) rfl ?_
  exact ⟨_, _, _, _, _, _, _, _, _, _, _, rfl, (HQ.out.put _ _ _ _ _ _ _ _ _).2.1⟩
 have to2 : decide ((4611686018427387904 : Int) < (o : Int)) = false := by simp; omega
 by_cases cf1 : f < 1
 ·have tf1 : decide ((f : Int) < 1) = true := by simp; omega
  clear cf1 HNO
  go_wp2_with fail
  have HQ := HZ
  (try simp only [Exit.inBlock, Exit.then])
  refine bodyPost_ret (results_row_tmp rfl _ _ w.heap.size _ _ _ _ rfl (HQ.out.put _ _ _ _ _ _ _ _ _).1 Tryz.underlying101 rfl (by kernel_rfl)) rfl ?_
  exact ⟨_, _, _, _, _, _, _, _, _, _, _, rfl, (HQ.out.put _ _ _ _ _ _ _ _ _).2.1⟩
 have tf1 : decide ((f : Int) < 1) = false := by simp; omega
 by_cases cf2 : 4611686018427387904 < f
 ·have tf2 : decide ((4611686018427387904 : Int) < (f : Int)) = true := by simp; omega
  clear cf1 cf2 HNO
  go_wp2_with fail
  have HQ := HZ
  (try simp only [Exit.inBlock, Exit.then])
  refine bodyPost_ret (results_row_tmp rfl _ _ w.heap.size _ _ _ _ rfl (HQ.out.put _ _ _ _ _ _ _ _ _).1 Tryz.underlying101 rfl (by kernel_rfl)) rfl ?_
  exact ⟨_, _, _, _, _, _, _, _, _, _, _, rfl, (HQ.out.put _ _ _ _ _ _ _ _ _).2.1⟩
 have tf2 : decide ((4611686018427387904 : Int) < (f : Int)) = false := by simp; omega
 by_cases cn : 1048576 < n
 ·have tn : decide ((1048576 : Int) < (n : Int)) = true := by simp; omega
  clear cn HNO
  go_wp2_with fail
  have HQ := HZ
  (try simp only [Exit.inBlock, Exit.then])
  refine bodyPost_ret (results_row_tmp rfl _ _ w.heap.size _ _ _ _ rfl (HQ.out.put _ _ _ _ _ _ _ _ _).1 Tryz.underlying101 rfl (by kernel_rfl)) rfl ?_
  exact ⟨_, _, _, _, _, _, _, _, _, _, _, rfl, (HQ.out.put _ _ _ _ _ _ _ _ _).2.1⟩
 have tn : decide ((1048576 : Int) < (n : Int)) = false := by simp; omega
 have hne : bi ≠ headB g o f n := fun e => HNO.out ⟨⟨by omega, by omega⟩, ⟨by omega, by omega⟩, ⟨by omega, by omega⟩, by omega, e⟩
 have e1 : ((bs (headB g o f n)).toList == (bs bi).toList) = false := by rw [bs_eqd]; exact decide_eq_false (fun e => hne e.symm)
 have e2 : (!((bs (headB g o f n)).toList == (bs bi).toList)) = true := by rw [e1]; rfl
 obtain ⟨hb, hhb⟩ : ∃ l, l = headB g o f n := ⟨_, rfl⟩
 rw [← hhb] at e1 e2
 have HHB := Lib.hid hhb
 clear cg1 cg2 co1 co2 cf1 cf2 cn hne HNO hhb
 go_wp2_with fail
 refine (rhead_at g o f n hg63 ho63 hf63 (by omega) _).mono ?_
 rintro e w3 ⟨rfl, hb3⟩
 rw [← HHB.out]
 have HQ := Lib.hid (HZ.out.later hb3)
 clear hb3
 clear p0 r0
 clear p1 r1
 clear p2 r2
 clear p3 r3
 clear p4 r4
 clear p5 r5
 clear p6 r6
 clear p7 r7
 clear p8 r8
 clear q0
 obtain ⟨p0, p1, p2, p3, p4, p5, p6, p7, p8⟩ := z9 HQ.out.pt
 obtain ⟨r0, r1, r2, r3, r4, r5, r6, r7, r8⟩ := z9 HQ.out.res
 have q0 := HQ.out.resfree
 go_wp2_with fail
 (try simp only [Exit.inBlock, Exit.then])
 refine bodyPost_ret (results_row_tmp rfl _ _ w.heap.size _ _ _ _ rfl (HQ.out.put _ _ _ _ _ _ _ _ _).1 Tryz.underlying101 rfl (by kernel_rfl)) rfl ?_
 exact ⟨_, _, _, _, _, _, _, _, _, _, _, rfl, (HQ.out.put _ _ _ _ _ _ _ _ _).2.1⟩
theorem rarea_short0 (S : Nat → Prop) (m : Nat) (D : Dsk) (w : World) (h : RefAt w S m D) (ho : D.off = false) (hf : Full D) (h4 : 4 ≤ D.n) (g o f n : Nat) (hh : HeadOk (D.now (0 * (D.n / 2))) g o f n) (ht : Tame D.now (0 * (D.n / 2)) (D.n / 2)) (hw : Wn D.now (0 * (D.n / 2)) (D.n / 2) 0 67 0 ∨ ∃ s M fs, Wy D.now (0 * (D.n / 2)) (D.n / 2) 0 67 0 s M fs ∧ (s ≠ g ∨ (joined fs M).length ≠ n)) :
  Calls Tryz.prog 66 #[.pointer (some ⟨m, 0, none⟩), .int .i64 0] w (RNo w) := by
 have HR := Lib.hid h
 have HW := Lib.hid hw
 clear hw
 have hn := h.1
 obtain ⟨bi, hbi⟩ : ∃ b, b = D.now (0 * (D.n / 2)) := ⟨_, rfl⟩
 have hrd : ∀ v x, Below w.heap.size w v → x = ((0 * (D.n / 2) : Nat) : Int) → Calls Tryz.prog 69 #[.pointer (some ⟨m, 0, none⟩), .int .i64 x] v fun e w' => e = .returned (.tuple #[strV bi, .int .i64 0]) ∧ v = w' := fun v x hv hx => by
  rw [hbi]
  exact rread_t S m x _ D v (HR.out.grown (Below.to_grown hv)) hx (area_lt (by decide) h4) ho hf
 rw [← hbi] at hh
 obtain ⟨⟨hg1, hg2⟩, ⟨ho1, ho2⟩, ⟨hf1, hf2⟩, hn2, hbe⟩ := hh
 have hnum : HNums bi g o f n := by rw [hbe]; exact head_nums hg2 ho2 hf2 hn2
 have HBE := Lib.hid hbe
 have HN := Lib.hid hnum
 have HRD := Lib.hid hrd
 obtain ⟨hw, hhe⟩ : ∃ x, x = D.n / 2 := ⟨_, rfl⟩
 have hhn : hw ≤ 8192 := by omega
 have HHE := Lib.hid hhe
 rw [← hhe] at HRD
 have HHALF : Hid (∀ v, Below w.heap.size w v → Calls Tryz.prog 92 #[.pointer (some ⟨m, 0, none⟩)] v fun e w' => e = .returned (.int .i64 (hw : Int)) ∧ v = w') := fun v hv => by rw [hhe]; exact rhalf_at S m D v (HR.out.grown (Below.to_grown hv))
 have HHT := Lib.hid (And.intro ho (And.intro hf h4))
 have HTM := Lib.hid ht
 have hg63 := hnum.g8.lt63
 have ho63 := hnum.o8.lt63
 have hf63 := hnum.f8.lt63
 have hn63 : n < 4294967296 := hnum.n4.lt
 have hb1 := grown_below0 (World.grownBy_alloc w (.cells rj0 101) none) (Nat.le_refl _)
 have HB1 := Lib.hid hb1
 clear h ho hf h4 hbi hrd hnum hn hb1 hbe ht
 go_enter Tryz.func66, Tryz.ntmps66
 go_wp2_with fail
 refine (HHALF.out _ HB1.out).mono ?_
 rintro e w' ⟨rfl, rfl⟩
 go_wp2_with fail
 refine (HRD.out _ _ HB1.out (by first | omega | simp)).mono ?_
 rintro e w' ⟨rfl, rfl⟩
 go_wp2_with fail
 refine (num_call HN.out.g8 (by decide) (by decide) HN.out.len _).mono ?_
 rintro e w' ⟨rfl, rfl⟩
 go_wp2_with fail
 refine (num_call HN.out.o8 (by decide) (by decide) HN.out.len _).mono ?_
 rintro e w' ⟨rfl, rfl⟩
 go_wp2_with fail
 refine (num_call HN.out.f8 (by decide) (by decide) HN.out.len _).mono ?_
 rintro e w' ⟨rfl, rfl⟩
 go_wp2_with fail
 have hjt := JtSt.start w #[.pointer (some ⟨m, 0, none⟩), .int .i64 0, .int .i64 (g : Int), .int .i64 (o : Int), .int .i64 (f : Int), .string ⟨#[]⟩, .slice none 0 0, .int .i64 0, .int .i64 0]
 obtain ⟨z, hz⟩ : ∃ z, z = (w.alloc (.cells rj0 101)).alloc (.cells #[.pointer (some ⟨m, 0, none⟩), .int .i64 0, .int .i64 (g : Int), .int .i64 (o : Int), .int .i64 (f : Int), .string ⟨#[]⟩, .slice none 0 0, .int .i64 0, .int .i64 0] 101) := ⟨_, rfl⟩
 rw [← hz] at hjt ⊢
 have HZ := Lib.hid hjt
 clear hz hjt
 refine (num_call HN.out.n4 (by decide) (by decide) HN.out.len _).mono ?_
 rintro e w' ⟨rfl, rfl⟩
 obtain ⟨p0, p1, p2, p3, p4, p5, p6, p7, p8⟩ := z9 HZ.out.pt
 obtain ⟨r0, r1, r2, r3, r4, r5, r6, r7, r8⟩ := z9 HZ.out.res
 have q0 := HZ.out.resfree
 have tg1 : decide ((g : Int) < 1) = false := by simp; omega
 have tg2 : decide ((4611686018427387904 : Int) < (g : Int)) = false := by simp; omega
 have to1 : decide ((o : Int) < 1) = false := by simp; omega
 have to2 : decide ((4611686018427387904 : Int) < (o : Int)) = false := by simp; omega
 have tf1 : decide ((f : Int) < 1) = false := by simp; omega
 have tf2 : decide ((4611686018427387904 : Int) < (f : Int)) = false := by simp; omega
 have tn : decide ((1048576 : Int) < (n : Int)) = false := by simp; omega
 have e1 : ((bs bi).toList == (bs bi).toList) = true := by simp
 clear hg2 ho2 hf2
 go_wp2_with fail
 refine (rhead_at g o f n hg63 ho63 hf63 (by omega) _).mono ?_
 rintro e w3 ⟨rfl, hb3⟩
 rw [← HBE.out]
 have HQ := Lib.hid (HZ.out.later hb3)
 clear hb3 HZ
 clear p0 r0
 clear p1 r1
 clear p2 r2
 clear p3 r3
 clear p4 r4
 clear p5 r5
 clear p6 r6
 clear p7 r7
 clear p8 r8
 clear q0
 obtain ⟨p0, p1, p2, p3, p4, p5, p6, p7, p8⟩ := z9 HQ.out.pt
 obtain ⟨r0, r1, r2, r3, r4, r5, r6, r7, r8⟩ := z9 HQ.out.res
 have q0 := HQ.out.resfree
 go_wp2_with fail
 have HWW : Hid (∃ s M : Nat, ∃ l : List UInt8, (M = 0 ∨ s ≠ g ∨ l.length ≠ n) ∧ l.length ≤ 10000000 ∧ Calls Tryz.prog 94 #[.pointer (some ⟨m, 0, none⟩), .int .i64 0, .int .i64 0, .int .u8 67, .int .i64 0] w3 fun e w' => e = .returned (.tuple #[strV l, .int .i64 (s : Int), .int .i64 (M : Int)]) ∧ Below w3.heap.size w3 w') := by
  rcases HW.out with h1 | ⟨s, M, fs, h1, h2⟩
  ·exact ⟨0, 0, [], .inl rfl, by decide, rwhole_n0 h1 w3 (HR.out.grown (Below.to_grown HQ.out.below)) HHT.out.1 HHT.out.2.1 HHT.out.2.2 HTM.out⟩
  ·exact ⟨s, M, joined fs M, .inr h2, by have h3 := joined_le fs M (fun j hj => (h1.run j hj).len); have h4 := (h1.run 0 h1.one).n16; omega, rwhole_y0 h1 w3 (HR.out.grown (Below.to_grown HQ.out.below)) HHT.out.1 HHT.out.2.1 HHT.out.2.2 HTM.out⟩
 obtain ⟨s, M, l, hsm, hll, hcall⟩ := HWW.out
 have HCALL := Lib.hid hcall
 clear hcall
 refine HCALL.out.mono ?_
 rintro e w4 ⟨rfl, hb4⟩
 have HQ4 := Lib.hid (HQ.out.later hb4)
 clear hb4 HCALL
 clear p0 r0
 clear p1 r1
 clear p2 r2
 clear p3 r3
 clear p4 r4
 clear p5 r5
 clear p6 r6
 clear p7 r7
 clear p8 r8
 clear q0
 obtain ⟨p0, p1, p2, p3, p4, p5, p6, p7, p8⟩ := z9 HQ4.out.pt
 obtain ⟨r0, r1, r2, r3, r4, r5, r6, r7, r8⟩ := z9 HQ4.out.res
 have q0 := HQ4.out.resfree
 have HLS : Hid ((bs l).size = l.length) := bs_size l
 by_cases hM : M = 0
 ·have m1 : ((M : Int) == 0) = true := by simp [hM]
  clear hM hsm
  go_wp2_with fail
  (try simp only [Exit.inBlock, Exit.then])
  refine bodyPost_ret (results_row_tmp rfl _ _ w.heap.size _ _ _ _ rfl (HQ4.out.put _ _ _ _ _ _ _ _ _).1 Tryz.underlying101 rfl (by kernel_rfl)) rfl ?_
  exact ⟨_, _, _, _, _, _, _, _, _, _, _, rfl, (HQ4.out.put _ _ _ _ _ _ _ _ _).2.1⟩
 have m1 : ((M : Int) == 0) = false := by simp; omega
 by_cases hsg : s = g
 ·have hln : l.length ≠ n := (hsm.resolve_left hM).resolve_left (fun h => h hsg)
  have m2 : ((s : Int) != (g : Int)) = false := by simp [hsg]
  have m3 : (((bs l).size : Int) != (n : Int)) = true := by rw [HLS.out]; simp; omega
  have m4 : ((bs l).size != n) = true := by rw [HLS.out]; simp; omega
  have m5 : (s != g) = false := by simp [hsg]
  clear hln hM hsm hsg
  go_wp2_with fail
  (try simp only [Exit.inBlock, Exit.then])
  refine bodyPost_ret (results_row_tmp rfl _ _ w.heap.size _ _ _ _ rfl (HQ4.out.put _ _ _ _ _ _ _ _ _).1 Tryz.underlying101 rfl (by kernel_rfl)) rfl ?_
  exact ⟨_, _, _, _, _, _, _, _, _, _, _, rfl, (HQ4.out.put _ _ _ _ _ _ _ _ _).2.1⟩
 have m2 : ((s : Int) != (g : Int)) = true := by simp; omega
 have m5 : (s != g) = true := by simp; omega
 clear hM hsm hsg
 go_wp2_with fail
 (try simp only [Exit.inBlock, Exit.then])
 refine bodyPost_ret (results_row_tmp rfl _ _ w.heap.size _ _ _ _ rfl (HQ4.out.put _ _ _ _ _ _ _ _ _).1 Tryz.underlying101 rfl (by kernel_rfl)) rfl ?_
 exact ⟨_, _, _, _, _, _, _, _, _, _, _, rfl, (HQ4.out.put _ _ _ _ _ _ _ _ _).2.1⟩
theorem rarea_short1 (S : Nat → Prop) (m : Nat) (D : Dsk) (w : World) (h : RefAt w S m D) (ho : D.off = false) (hf : Full D) (h4 : 4 ≤ D.n) (g o f n : Nat) (hh : HeadOk (D.now (1 * (D.n / 2))) g o f n) (ht : Tame D.now (1 * (D.n / 2)) (D.n / 2)) (hw : Wn D.now (1 * (D.n / 2)) (D.n / 2) 0 67 0 ∨ ∃ s M fs, Wy D.now (1 * (D.n / 2)) (D.n / 2) 0 67 0 s M fs ∧ (s ≠ g ∨ (joined fs M).length ≠ n)) :
  Calls Tryz.prog 66 #[.pointer (some ⟨m, 0, none⟩), .int .i64 1] w (RNo w) := by
 have HR := Lib.hid h
 have HW := Lib.hid hw
 clear hw
 have hn := h.1
 obtain ⟨bi, hbi⟩ : ∃ b, b = D.now (1 * (D.n / 2)) := ⟨_, rfl⟩
 have hrd : ∀ v x, Below w.heap.size w v → x = ((1 * (D.n / 2) : Nat) : Int) → Calls Tryz.prog 69 #[.pointer (some ⟨m, 0, none⟩), .int .i64 x] v fun e w' => e = .returned (.tuple #[strV bi, .int .i64 0]) ∧ v = w' := fun v x hv hx => by
  rw [hbi]
  exact rread_t S m x _ D v (HR.out.grown (Below.to_grown hv)) hx (area_lt (by decide) h4) ho hf
 rw [← hbi] at hh
 obtain ⟨⟨hg1, hg2⟩, ⟨ho1, ho2⟩, ⟨hf1, hf2⟩, hn2, hbe⟩ := hh
 have hnum : HNums bi g o f n := by rw [hbe]; exact head_nums hg2 ho2 hf2 hn2
 have HBE := Lib.hid hbe
 have HN := Lib.hid hnum
 have HRD := Lib.hid hrd
 obtain ⟨hw, hhe⟩ : ∃ x, x = D.n / 2 := ⟨_, rfl⟩
 have hhn : hw ≤ 8192 := by omega
 have HHE := Lib.hid hhe
 rw [← hhe] at HRD
 have HHALF : Hid (∀ v, Below w.heap.size w v → Calls Tryz.prog 92 #[.pointer (some ⟨m, 0, none⟩)] v fun e w' => e = .returned (.int .i64 (hw : Int)) ∧ v = w') := fun v hv => by rw [hhe]; exact rhalf_at S m D v (HR.out.grown (Below.to_grown hv))
 have HHT := Lib.hid (And.intro ho (And.intro hf h4))
 have HTM := Lib.hid ht
 have hg63 := hnum.g8.lt63
 have ho63 := hnum.o8.lt63
 have hf63 := hnum.f8.lt63
 have hn63 : n < 4294967296 := hnum.n4.lt
 have hb1 := grown_below0 (World.grownBy_alloc w (.cells rj0 101) none) (Nat.le_refl _)
 have HB1 := Lib.hid hb1
 clear h ho hf h4 hbi hrd hnum hn hb1 hbe ht
 go_enter Tryz.func66, Tryz.ntmps66
 go_wp2_with fail
 refine (HHALF.out _ HB1.out).mono ?_
 rintro e w' ⟨rfl, rfl⟩
 go_wp2_with fail
 refine (HRD.out _ _ HB1.out (by first | omega | simp)).mono ?_
 rintro e w' ⟨rfl, rfl⟩
 go_wp2_with fail
 refine (num_call HN.out.g8 (by decide) (by decide) HN.out.len _).mono ?_
 rintro e w' ⟨rfl, rfl⟩
 go_wp2_with fail
 refine (num_call HN.out.o8 (by decide) (by decide) HN.out.len _).mono ?_
 rintro e w' ⟨rfl, rfl⟩
 go_wp2_with fail
 refine (num_call HN.out.f8 (by decide) (by decide) HN.out.len _).mono ?_
 rintro e w' ⟨rfl, rfl⟩
 go_wp2_with fail
 have hjt := JtSt.start w #[.pointer (some ⟨m, 0, none⟩), .int .i64 1, .int .i64 (g : Int), .int .i64 (o : Int), .int .i64 (f : Int), .string ⟨#[]⟩, .slice none 0 0, .int .i64 0, .int .i64 0]
 obtain ⟨z, hz⟩ : ∃ z, z = (w.alloc (.cells rj0 101)).alloc (.cells #[.pointer (some ⟨m, 0, none⟩), .int .i64 1, .int .i64 (g : Int), .int .i64 (o : Int), .int .i64 (f : Int), .string ⟨#[]⟩, .slice none 0 0, .int .i64 0, .int .i64 0] 101) := ⟨_, rfl⟩
 rw [← hz] at hjt ⊢
 have HZ := Lib.hid hjt
 clear hz hjt
 refine (num_call HN.out.n4 (by decide) (by decide) HN.out.len _).mono ?_
 rintro e w' ⟨rfl, rfl⟩
 obtain ⟨p0, p1, p2, p3, p4, p5, p6, p7, p8⟩ := z9 HZ.out.pt
 obtain ⟨r0, r1, r2, r3, r4, r5, r6, r7, r8⟩ := z9 HZ.out.res
 have q0 := HZ.out.resfree
 have tg1 : decide ((g : Int) < 1) = false := by simp; omega
 have tg2 : decide ((4611686018427387904 : Int) < (g : Int)) = false := by simp; omega
 have to1 : decide ((o : Int) < 1) = false := by simp; omega
 have to2 : decide ((4611686018427387904 : Int) < (o : Int)) = false := by simp; omega
 have tf1 : decide ((f : Int) < 1) = false := by simp; omega
 have tf2 : decide ((4611686018427387904 : Int) < (f : Int)) = false := by simp; omega
 have tn : decide ((1048576 : Int) < (n : Int)) = false := by simp; omega
 have e1 : ((bs bi).toList == (bs bi).toList) = true := by simp
 clear hg2 ho2 hf2
 go_wp2_with fail
 refine (rhead_at g o f n hg63 ho63 hf63 (by omega) _).mono ?_
 rintro e w3 ⟨rfl, hb3⟩
 rw [← HBE.out]
 have HQ := Lib.hid (HZ.out.later hb3)
 clear hb3 HZ
 clear p0 r0
 clear p1 r1
 clear p2 r2
 clear p3 r3
 clear p4 r4
 clear p5 r5
 clear p6 r6
 clear p7 r7
 clear p8 r8
 clear q0
 obtain ⟨p0, p1, p2, p3, p4, p5, p6, p7, p8⟩ := z9 HQ.out.pt
 obtain ⟨r0, r1, r2, r3, r4, r5, r6, r7, r8⟩ := z9 HQ.out.res
 have q0 := HQ.out.resfree
 go_wp2_with fail
 have HWW : Hid (∃ s M : Nat, ∃ l : List UInt8, (M = 0 ∨ s ≠ g ∨ l.length ≠ n) ∧ l.length ≤ 10000000 ∧ Calls Tryz.prog 94 #[.pointer (some ⟨m, 0, none⟩), .int .i64 1, .int .i64 0, .int .u8 67, .int .i64 0] w3 fun e w' => e = .returned (.tuple #[strV l, .int .i64 (s : Int), .int .i64 (M : Int)]) ∧ Below w3.heap.size w3 w') := by
  rcases HW.out with h1 | ⟨s, M, fs, h1, h2⟩
  ·exact ⟨0, 0, [], .inl rfl, by decide, rwhole_n1 h1 w3 (HR.out.grown (Below.to_grown HQ.out.below)) HHT.out.1 HHT.out.2.1 HHT.out.2.2 HTM.out⟩
  ·exact ⟨s, M, joined fs M, .inr h2, by have h3 := joined_le fs M (fun j hj => (h1.run j hj).len); have h4 := (h1.run 0 h1.one).n16; omega, rwhole_y1 h1 w3 (HR.out.grown (Below.to_grown HQ.out.below)) HHT.out.1 HHT.out.2.1 HHT.out.2.2 HTM.out⟩
 obtain ⟨s, M, l, hsm, hll, hcall⟩ := HWW.out
 have HCALL := Lib.hid hcall
 clear hcall
 refine HCALL.out.mono ?_
 rintro e w4 ⟨rfl, hb4⟩
 have HQ4 := Lib.hid (HQ.out.later hb4)
 clear hb4 HCALL
 clear p0 r0
 clear p1 r1
 clear p2 r2
 clear p3 r3
 clear p4 r4
 clear p5 r5
 clear p6 r6
 clear p7 r7
 clear p8 r8
 clear q0
 obtain ⟨p0, p1, p2, p3, p4, p5, p6, p7, p8⟩ := z9 HQ4.out.pt
 obtain ⟨r0, r1, r2, r3, r4, r5, r6, r7, r8⟩ := z9 HQ4.out.res
 have q0 := HQ4.out.resfree
 have HLS : Hid ((bs l).size = l.length) := bs_size l
 by_cases hM : M = 0
 ·have m1 : ((M : Int) == 0) = true := by simp [hM]
  clear hM hsm
  go_wp2_with fail
  (try simp only [Exit.inBlock, Exit.then])
  refine bodyPost_ret (results_row_tmp rfl _ _ w.heap.size _ _ _ _ rfl (HQ4.out.put _ _ _ _ _ _ _ _ _).1 Tryz.underlying101 rfl (by kernel_rfl)) rfl ?_
  exact ⟨_, _, _, _, _, _, _, _, _, _, _, rfl, (HQ4.out.put _ _ _ _ _ _ _ _ _).2.1⟩
 have m1 : ((M : Int) == 0) = false := by simp; omega
 by_cases hsg : s = g
 ·have hln : l.length ≠ n := (hsm.resolve_left hM).resolve_left (fun h => h hsg)
  have m2 : ((s : Int) != (g : Int)) = false := by simp [hsg]
  have m3 : (((bs l).size : Int) != (n : Int)) = true := by rw [HLS.out]; simp; omega
  have m4 : ((bs l).size != n) = true := by rw [HLS.out]; simp; omega
  have m5 : (s != g) = false := by simp [hsg]
  clear hln hM hsm hsg
  go_wp2_with fail
  (try simp only [Exit.inBlock, Exit.then])
  refine bodyPost_ret (results_row_tmp rfl _ _ w.heap.size _ _ _ _ rfl (HQ4.out.put _ _ _ _ _ _ _ _ _).1 Tryz.underlying101 rfl (by kernel_rfl)) rfl ?_
  exact ⟨_, _, _, _, _, _, _, _, _, _, _, rfl, (HQ4.out.put _ _ _ _ _ _ _ _ _).2.1⟩
 have m2 : ((s : Int) != (g : Int)) = true := by simp; omega
 have m5 : (s != g) = true := by simp; omega
 clear hM hsm hsg
 go_wp2_with fail
 (try simp only [Exit.inBlock, Exit.then])
 refine bodyPost_ret (results_row_tmp rfl _ _ w.heap.size _ _ _ _ rfl (HQ4.out.put _ _ _ _ _ _ _ _ _).1 Tryz.underlying101 rfl (by kernel_rfl)) rfl ?_
 exact ⟨_, _, _, _, _, _, _, _, _, _, _, rfl, (HQ4.out.put _ _ _ _ _ _ _ _ _).2.1⟩
def RecIs (now : Nat → List UInt8) (base half op first used n last : Nat) (ls : List (List UInt8)) (u s M : Nat) (l : List UInt8) : Prop :=
 ((M = 0 ∨ s < last ∨ op < s) ∧ ls = [] ∧ u = used) ∨ (M ≠ 0 ∧ last ≤ s ∧ s ≤ op ∧ used + M ≤ half - 1 ∧ ∃ ls7, ls = l :: ls7 ∧ Recs now base half op first (used + M) (n + 1) s ls7 u)
theorem wy_len {now : Nat → List UInt8} {base half used : Nat} {c : UInt8} {k s M : Nat} {f : Nat → List UInt8} (h : Wy now base half used c k s M f) : (joined f M).length ≤ 10000000 := by
 have h3 := joined_le f M (fun j hj => (h.run j hj).len)
 have h4 := (h.run 0 h.one).n16
 omega
theorem rrec0 {S : Nat → Prop} {m : Nat} {D : Dsk} {op first used n last u : Nat} {ls : List (List UInt8)} (ho : D.off = false) (hf : Full D) (h4 : 4 ≤ D.n) (ht : Tame D.now (0 * (D.n / 2)) (D.n / 2)) (hr : Recs D.now (0 * (D.n / 2)) (D.n / 2) op first used n last ls u) :
  ∃ (s M : Nat) (l : List UInt8), (∀ w, RefAt w S m D → Calls Tryz.prog 94 #[.pointer (some ⟨m, 0, none⟩), .int .i64 0, .int .i64 (used : Int), .int .u8 82, .int .i64 ((first + n : Nat) : Int)] w fun e w' => e = .returned (.tuple #[strV l, .int .i64 (s : Int), .int .i64 (M : Int)]) ∧ Below w.heap.size w w') ∧ l.length ≤ 10000000 ∧ RecIs D.now (0 * (D.n / 2)) (D.n / 2) op first used n last ls u s M l := by
 rcases hr.inv with ⟨rfl, rfl, h | ⟨s, M, f, h, h2⟩⟩ | ⟨s, M, f, ls7, rfl, h, h1, h2, r⟩
 ·exact ⟨0, 0, [], fun w hw => rwhole_n0 h w hw ho hf h4 ht, by decide, .inl ⟨.inl rfl, rfl, rfl⟩⟩
 ·exact ⟨s, M, joined f M, fun w hw => rwhole_y0 h w hw ho hf h4 ht, wy_len h, .inl ⟨.inr h2, rfl, rfl⟩⟩
 ·exact ⟨s, M, joined f M, fun w hw => rwhole_y0 h w hw ho hf h4 ht, wy_len h, .inr ⟨by have := h.one; omega, h1, h2, h.room, ls7, rfl, r⟩⟩
theorem rrec1 {S : Nat → Prop} {m : Nat} {D : Dsk} {op first used n last u : Nat} {ls : List (List UInt8)} (ho : D.off = false) (hf : Full D) (h4 : 4 ≤ D.n) (ht : Tame D.now (1 * (D.n / 2)) (D.n / 2)) (hr : Recs D.now (1 * (D.n / 2)) (D.n / 2) op first used n last ls u) :
  ∃ (s M : Nat) (l : List UInt8), (∀ w, RefAt w S m D → Calls Tryz.prog 94 #[.pointer (some ⟨m, 0, none⟩), .int .i64 1, .int .i64 (used : Int), .int .u8 82, .int .i64 ((first + n : Nat) : Int)] w fun e w' => e = .returned (.tuple #[strV l, .int .i64 (s : Int), .int .i64 (M : Int)]) ∧ Below w.heap.size w w') ∧ l.length ≤ 10000000 ∧ RecIs D.now (1 * (D.n / 2)) (D.n / 2) op first used n last ls u s M l := by
 rcases hr.inv with ⟨rfl, rfl, h | ⟨s, M, f, h, h2⟩⟩ | ⟨s, M, f, ls7, rfl, h, h1, h2, r⟩
 ·exact ⟨0, 0, [], fun w hw => rwhole_n1 h w hw ho hf h4 ht, by decide, .inl ⟨.inl rfl, rfl, rfl⟩⟩
 ·exact ⟨s, M, joined f M, fun w hw => rwhole_y1 h w hw ho hf h4 ht, wy_len h, .inl ⟨.inr h2, rfl, rfl⟩⟩
 ·exact ⟨s, M, joined f M, fun w hw => rwhole_y1 h w hw ho hf h4 ht, wy_len h, .inr ⟨by have := h.one; omega, h1, h2, h.room, ls7, rfl, r⟩⟩
theorem rarea_bears0 (S : Nat → Prop) (m : Nat) (D : Dsk) (w : World) (h : RefAt w S m D) (ho : D.off = false) (hf : Full D) (h4 : 4 ≤ D.n) (g o f n : Nat) (hh : HeadOk (D.now (0 * (D.n / 2))) g o f n) (ht : Tame D.now (0 * (D.n / 2)) (D.n / 2)) (M u : Nat) (fs : Nat → List UInt8) (recs : List (List UInt8)) (hw : Wy D.now (0 * (D.n / 2)) (D.n / 2) 0 67 0 g M fs) (hln : (joined fs M).length = n) (hrec : Recs D.now (0 * (D.n / 2)) (D.n / 2) o f M 0 0 recs u) (hfr : f + recs.length ≤ 4611686018427387904) :
  Calls Tryz.prog 66 #[.pointer (some ⟨m, 0, none⟩), .int .i64 0] w (fun e w' => ∃ lv, e = .returned (.tuple #[.agg #[.pointer (some ⟨m, 0, none⟩), .int .i64 0, .int .i64 (g : Int), .int .i64 (o : Int), .int .i64 (f : Int), strV (joined fs M), lv, .int .i64 (u : Int), .int .i64 0], .bool true]) ∧ StrRow w' w.heap.size lv (recs.map strV) ∧ Below w.heap.size w w') := by
 have HR := Lib.hid h
 have HW := Lib.hid hw
 have HREC := Lib.hid hrec
 have HFR := Lib.hid hfr
 clear hw hrec hfr
 have hn := h.1
 obtain ⟨bi, hbi⟩ : ∃ b, b = D.now (0 * (D.n / 2)) := ⟨_, rfl⟩
 have hrd : ∀ v x, Below w.heap.size w v → x = ((0 * (D.n / 2) : Nat) : Int) → Calls Tryz.prog 69 #[.pointer (some ⟨m, 0, none⟩), .int .i64 x] v fun e w' => e = .returned (.tuple #[strV bi, .int .i64 0]) ∧ v = w' := fun v x hv hx => by
  rw [hbi]
  exact rread_t S m x _ D v (HR.out.grown (Below.to_grown hv)) hx (area_lt (by decide) h4) ho hf
 rw [← hbi] at hh
 obtain ⟨⟨hg1, hg2⟩, ⟨ho1, ho2⟩, ⟨hf1, hf2⟩, hn2, hbe⟩ := hh
 have hnum : HNums bi g o f n := by rw [hbe]; exact head_nums hg2 ho2 hf2 hn2
 have HBE := Lib.hid hbe
 have HN := Lib.hid hnum
 have HRD := Lib.hid hrd
 obtain ⟨hw, hhe⟩ : ∃ x, x = D.n / 2 := ⟨_, rfl⟩
 have hhn : hw ≤ 8192 := by omega
 have HHE := Lib.hid hhe
 rw [← hhe] at HRD
 have HHALF : Hid (∀ v, Below w.heap.size w v → Calls Tryz.prog 92 #[.pointer (some ⟨m, 0, none⟩)] v fun e w' => e = .returned (.int .i64 (hw : Int)) ∧ v = w') := fun v hv => by rw [hhe]; exact rhalf_at S m D v (HR.out.grown (Below.to_grown hv))
 have HHT := Lib.hid (And.intro ho (And.intro hf h4))
 have HTM := Lib.hid ht
 obtain ⟨l, hl⟩ : ∃ l, l = joined fs M := ⟨_, rfl⟩
 rw [← hl] at hln ⊢
 have HL := Lib.hid hl
 have HLN : Hid ((bs l).size = n) := (bs_size l).trans hln
 clear hl hln
 have hg63 := hnum.g8.lt63
 have ho63 := hnum.o8.lt63
 have hf63 := hnum.f8.lt63
 have hn63 : n < 4294967296 := hnum.n4.lt
 have hb1 := grown_below0 (World.grownBy_alloc w (.cells rj0 101) none) (Nat.le_refl _)
 have HB1 := Lib.hid hb1
 clear h ho hf h4 hbi hrd hnum hn hb1 hbe ht
 go_enter Tryz.func66, Tryz.ntmps66
 go_wp2_with fail
 refine (HHALF.out _ HB1.out).mono ?_
 rintro e w' ⟨rfl, rfl⟩
 go_wp2_with fail
 refine (HRD.out _ _ HB1.out (by first | omega | simp)).mono ?_
 rintro e w' ⟨rfl, rfl⟩
 go_wp2_with fail
 refine (num_call HN.out.g8 (by decide) (by decide) HN.out.len _).mono ?_
 rintro e w' ⟨rfl, rfl⟩
 go_wp2_with fail
 refine (num_call HN.out.o8 (by decide) (by decide) HN.out.len _).mono ?_
 rintro e w' ⟨rfl, rfl⟩
 go_wp2_with fail
 refine (num_call HN.out.f8 (by decide) (by decide) HN.out.len _).mono ?_
 rintro e w' ⟨rfl, rfl⟩
 go_wp2_with fail
 have hjt := JtSt.start w #[.pointer (some ⟨m, 0, none⟩), .int .i64 0, .int .i64 (g : Int), .int .i64 (o : Int), .int .i64 (f : Int), .string ⟨#[]⟩, .slice none 0 0, .int .i64 0, .int .i64 0]
 obtain ⟨z, hz⟩ : ∃ z, z = (w.alloc (.cells rj0 101)).alloc (.cells #[.pointer (some ⟨m, 0, none⟩), .int .i64 0, .int .i64 (g : Int), .int .i64 (o : Int), .int .i64 (f : Int), .string ⟨#[]⟩, .slice none 0 0, .int .i64 0, .int .i64 0] 101) := ⟨_, rfl⟩
 rw [← hz] at hjt ⊢
 have HZ := Lib.hid hjt
 clear hz hjt
 refine (num_call HN.out.n4 (by decide) (by decide) HN.out.len _).mono ?_
 rintro e w' ⟨rfl, rfl⟩
 obtain ⟨p0, p1, p2, p3, p4, p5, p6, p7, p8⟩ := z9 HZ.out.pt
 obtain ⟨r0, r1, r2, r3, r4, r5, r6, r7, r8⟩ := z9 HZ.out.res
 have q0 := HZ.out.resfree
 have tg1 : decide ((g : Int) < 1) = false := by simp; omega
 have tg2 : decide ((4611686018427387904 : Int) < (g : Int)) = false := by simp; omega
 have to1 : decide ((o : Int) < 1) = false := by simp; omega
 have to2 : decide ((4611686018427387904 : Int) < (o : Int)) = false := by simp; omega
 have tf1 : decide ((f : Int) < 1) = false := by simp; omega
 have tf2 : decide ((4611686018427387904 : Int) < (f : Int)) = false := by simp; omega
 have tn : decide ((1048576 : Int) < (n : Int)) = false := by simp; omega
 have e1 : ((bs bi).toList == (bs bi).toList) = true := by simp
 clear hg2 ho2 hf2
 go_wp2_with fail
 refine (rhead_at g o f n hg63 ho63 hf63 (by omega) _).mono ?_
 rintro e w3 ⟨rfl, hb3⟩
 rw [← HBE.out]
 have HQ := Lib.hid (HZ.out.later hb3)
 clear hb3 HZ
 clear p0 r0
 clear p1 r1
 clear p2 r2
 clear p3 r3
 clear p4 r4
 clear p5 r5
 clear p6 r6
 clear p7 r7
 clear p8 r8
 clear q0
 obtain ⟨p0, p1, p2, p3, p4, p5, p6, p7, p8⟩ := z9 HQ.out.pt
 obtain ⟨r0, r1, r2, r3, r4, r5, r6, r7, r8⟩ := z9 HQ.out.res
 have q0 := HQ.out.resfree
 go_wp2_with fail
 have HCALL := Lib.hid (rwhole_y0 HW.out w3 (HR.out.grown (Below.to_grown HQ.out.below)) HHT.out.1 HHT.out.2.1 HHT.out.2.2 HTM.out)
 rw [← HL.out] at HCALL
 refine HCALL.out.mono ?_
 rintro e w4 ⟨rfl, hb4⟩
 have HQ4 := Lib.hid (HQ.out.later hb4)
 clear hb4 HCALL
 clear p0 r0
 clear p1 r1
 clear p2 r2
 clear p3 r3
 clear p4 r4
 clear p5 r5
 clear p6 r6
 clear p7 r7
 clear p8 r8
 clear q0
 obtain ⟨p0, p1, p2, p3, p4, p5, p6, p7, p8⟩ := z9 HQ4.out.pt
 obtain ⟨r0, r1, r2, r3, r4, r5, r6, r7, r8⟩ := z9 HQ4.out.res
 have q0 := HQ4.out.resfree
 have f0 := HQ4.out.free
 have hM1 := HW.out.one
 have m1 : ((M : Int) == 0) = false := by simp; omega
 have m2 : ((g : Int) != (g : Int)) = false := by simp
 have m3 : (((bs l).size : Int) != (n : Int)) = false := by rw [HLN.out]; simp
 have HNN : Hid (D.n / 2 ≤ 8192) := by show _ ≤ _; have := HR.out.1; omega
 have hMh : M ≤ D.n / 2 - 1 := by have := HW.out.room; omega
 go_wp2_with fail
 have HJ0 : Hid (JtSt w ((w4.setCell ⟨w.heap.size + 1, 5, none⟩ (strV l)).setCell ⟨w.heap.size + 1, 7, none⟩ (.int .i64 (M : Int))) #[.pointer (some ⟨m, 0, none⟩), .int .i64 0, .int .i64 (g : Int), .int .i64 (o : Int), .int .i64 (f : Int), strV l, .slice none 0 0, .int .i64 (M : Int), .int .i64 0]) := (HQ4.out.set 5 (strV l)).set 7 (.int .i64 (M : Int))
 obtain ⟨w5, hw5⟩ : ∃ w5, w5 = (w4.setCell ⟨w.heap.size + 1, 5, none⟩ (strV l)).setCell ⟨w.heap.size + 1, 7, none⟩ (.int .i64 (M : Int)) := ⟨_, rfl⟩
 rw [← hw5] at HJ0 ⊢
 clear hw5 f0
 clear p0 r0
 clear p1 r1
 clear p2 r2
 clear p3 r3
 clear p4 r4
 clear p5 r5
 clear p6 r6
 clear p7 r7
 clear p8 r8
 clear q0 m1 m2 m3 HQ4 HQ
 go_loopw [13] (fun v13 wr => ∃ (last used : Nat) (dn lr : List (List UInt8)) (lv : Value), v13 = .int .i64 (last : Int) ∧ Recs D.now (0 * (D.n / 2)) (D.n / 2) o f used dn.length last lr u ∧ dn ++ lr = recs ∧ JtSt w wr #[.pointer (some ⟨m, 0, none⟩), .int .i64 0, .int .i64 (g : Int), .int .i64 (o : Int), .int .i64 (f : Int), strV l, lv, .int .i64 (used : Int), .int .i64 0] ∧ StrRow wr (w.heap.size + 2) lv (dn.map strV) ∧ used ≤ D.n / 2 - 1 ∧ dn.length ≤ used) (fun _ wr => match wr.cell? ⟨w.heap.size + 1, 7, none⟩ with | some (.int _ x) => 20000 - x.toNat | _ => 0)
 case atStart => exact ⟨0, M, [], recs, _, rfl, HREC.out, rfl, HJ0.out, World.ownsRow_nil _ _ _ _, hMh, Nat.zero_le _⟩
 case round =>
  obtain ⟨last, used, dn, lr, lv, rfl, hrc, hrs, hjt, hrow, hu, hdu⟩ := hrel
  obtain ⟨A, cap, rfl, hc1, hc2⟩ := row_len hrow
  simp only [List.length_map] at hc1 hjt hrow ⊢
  have HDL : Hid (dn.length < 100000) := by show _ < _; have := HNN.out; omega
  have HDU := Lib.hid hdu
  have HJT := Lib.hid hjt
  have HRW := Lib.hid hrow
  have HJB : Hid (RJBlk wr.drew (w.heap.size + 1) m ⟨0, g, o, f, n, l, dn, used⟩ (.slice A dn.length cap) 0) := hjt.pt
  have HR0 : Hid (StrRow wr.drew 0 (.slice A dn.length cap) (dn.map strV)) := row_less (Sec.row_off hrow (off_drew wr 1) (by simp)) (Nat.zero_le _)
  have HLR : Hid (dn.length + lr.length = recs.length) := by show _ = _; rw [← hrs, List.length_append]
  have HRS := Lib.hid hrs
  obtain ⟨s7, M7, l7, hcall, hll, hdec⟩ := rrec0 (S := S) (m := m) HHT.out.1 HHT.out.2.1 HHT.out.2.2 HTM.out hrc
  have HCALL := Lib.hid hcall
  have HDEC := Lib.hid hdec
  clear hjt hrow hrs hrc hcall hdec hll
  go_upto_region 12 with fail
  refine wp_region_noPanic ?_
  refine wp_region_held_drew (S := fun w' => w'.cell? ⟨w.heap.size + 1, 7, none⟩ = some (Value.int .i64 (used : Int))) (by kernel_rfl) ?hSn (fun hHeld => ?_)
  case hSn => exact HJT.out.cell 7
  refine ztk 0 rfl ?_
  refine ztk 1 rfl ?_
  refine ztk 2 rfl ?_
  refine ztk 3 rfl ?_
  refine zrd 4 rfl (fun K hK => ?_)
  go_simp
  refine (rnext_blk (w.heap.size + 1) m ⟨0, g, o, f, n, l, dn, used⟩ _ 0 wr.drew HJB.out HR0.out (by have := HFR.out; have := HLR.out; show f + dn.length < _; omega)).mono ?_
  rintro e w6 ⟨rfl, k6, hw6⟩
  have HJ6 := Lib.hid ((HJT.out.drewN 1).drewN k6)
  have HW6b : Hid (w6 = (wr.drewN 1).drewN k6) := hw6
  have HW6 : Hid (Below w.heap.size w w6) := by rw [HW6b.out]; exact below_drewN (below_drewN HJT.out.below 1) k6
  clear hw6
  go_wp2_with fail
  refine hK.out _ _ ?q (fun hHeld => ?_)
  case q => (try dsimp only); rw [HW6b.out]; exact HJ6.out.cell 7
  clear hK K
  try simp only [zpt]
  refine zrd 5 rfl (fun K hK => ?_)
  go_simp
  rw [show (f : Int) + (dn.length : Int) = ((f + dn.length : Nat) : Int) by omega]
  refine (HCALL.out w6 (HR.out.grown (Below.to_grown HW6.out))).mono ?_
  rintro e w7 ⟨rfl, hb7⟩
  have HQ7 : Hid (JtSt w w7 _) := (show JtSt w w6 _ from by rw [HW6b.out]; exact HJ6.out).later hb7
  have HR7 : Hid (StrRow w7 (w.heap.size + 2) _ (dn.map strV)) := Sec.row_off (show StrRow w6 _ _ _ from by rw [HW6b.out]; exact Sec.row_off HRW.out ((off_drew wr 1).trans (off_drew _ k6)) (by simp)) (Off.of_grown (Below.to_grown hb7) (S := fun _ => False) (by simp)) (by simp)
  clear hb7
  go_wp2_with fail
  refine hK.out _ _ ?q (fun hHeld => ?_)
  case q => (try dsimp only); exact HQ7.out.cell 7
  clear hK K
  try simp only [zpt]
  refine ztk 6 rfl ?_
  refine ztk 7 rfl ?_
  refine ztk 8 rfl ?_
  refine ztk 9 rfl ?_
  refine ztk 10 rfl ?_
  refine ztk 11 rfl ?_
  refine ztk 12 rfl ?_
  refine wpAnyH_done (by kernel_rfl) ?_ _
  refine NoPanic.normal ?_
  clear hHeld
  obtain ⟨p0, p1, p2, p3, p4, p5, p6, p7, p8⟩ := z9 HQ7.out.pt
  obtain ⟨r0, r1, r2, r3, r4, r5, r6, r7, r8⟩ := z9 HQ7.out.res
  have q0 := HQ7.out.resfree
  have f0 := HQ7.out.free
  by_cases cM : M7 = 0
  ·have n1 : ((M7 : Int) == 0) = true := by simp [cM]
   obtain ⟨_, hl0, hu0⟩ := HDEC.out.resolve_right (fun q => q.1 cM)
   have hrec2 : recs = dn := by rw [← HRS.out, hl0, List.append_nil]
   have HREC2 := Lib.hid hrec2
   have HU0 := Lib.hid hu0
   clear cM hl0 hu0 hrec2
   go_wp2_with fail
   (try simp only [Exit.inBlock, Exit.then])
   refine bodyPost_ret (results_row_tmp rfl _ _ w.heap.size _ _ _ _ rfl (HQ7.out.put _ _ _ _ _ _ _ _ _).1 Tryz.underlying101 rfl (by kernel_rfl)) rfl ?_
   rw [HREC2.out, HU0.out]
   refine ⟨_, rfl, ?_, (HQ7.out.put _ _ _ _ _ _ _ _ _).2.1⟩
   exact row_less (Sec.row_off HR7.out (HQ7.out.put _ _ _ _ _ _ _ _ _).2.2 (fun g hg e => by have := (World.ownsRow.lt HR7.out g hg).1; omega)) (by omega)
  have n1 : ((M7 : Int) == 0) = false := by simp; omega
  by_cases cl : s7 < last
  ·have n2 : decide ((s7 : Int) < (last : Int)) = true := by simp; omega
   have n3 : decide (s7 < last) = true := by simp; omega
   obtain ⟨_, hl0, hu0⟩ := HDEC.out.resolve_right (fun q => by have := q.2.1; omega)
   have hrec2 : recs = dn := by rw [← HRS.out, hl0, List.append_nil]
   have HREC2 := Lib.hid hrec2
   have HU0 := Lib.hid hu0
   clear cM cl hl0 hu0 hrec2
   go_wp2_with fail
   (try simp only [Exit.inBlock, Exit.then])
   refine bodyPost_ret (results_row_tmp rfl _ _ w.heap.size _ _ _ _ rfl (HQ7.out.put _ _ _ _ _ _ _ _ _).1 Tryz.underlying101 rfl (by kernel_rfl)) rfl ?_
   rw [HREC2.out, HU0.out]
   refine ⟨_, rfl, ?_, (HQ7.out.put _ _ _ _ _ _ _ _ _).2.1⟩
   exact row_less (Sec.row_off HR7.out (HQ7.out.put _ _ _ _ _ _ _ _ _).2.2 (fun g hg e => by have := (World.ownsRow.lt HR7.out g hg).1; omega)) (by omega)
  have n2 : decide ((s7 : Int) < (last : Int)) = false := by simp; omega
  have n3 : decide (s7 < last) = false := by simp; omega
  by_cases co : o < s7
  ·have n4 : decide ((o : Int) < (s7 : Int)) = true := by simp; omega
   have n5 : decide (o < s7) = true := by simp; omega
   obtain ⟨_, hl0, hu0⟩ := HDEC.out.resolve_right (fun q => by have := q.2.2.1; omega)
   have hrec2 : recs = dn := by rw [← HRS.out, hl0, List.append_nil]
   have HREC2 := Lib.hid hrec2
   have HU0 := Lib.hid hu0
   clear cM cl co hl0 hu0 hrec2
   go_wp2_with fail
   (try simp only [Exit.inBlock, Exit.then])
   refine bodyPost_ret (results_row_tmp rfl _ _ w.heap.size _ _ _ _ rfl (HQ7.out.put _ _ _ _ _ _ _ _ _).1 Tryz.underlying101 rfl (by kernel_rfl)) rfl ?_
   rw [HREC2.out, HU0.out]
   refine ⟨_, rfl, ?_, (HQ7.out.put _ _ _ _ _ _ _ _ _).2.1⟩
   exact row_less (Sec.row_off HR7.out (HQ7.out.put _ _ _ _ _ _ _ _ _).2.2 (fun g hg e => by have := (World.ownsRow.lt HR7.out g hg).1; omega)) (by omega)
  have n4 : decide ((o : Int) < (s7 : Int)) = false := by simp; omega
  have n5 : decide (o < s7) = false := by simp; omega
  obtain ⟨_, _, _, hus, ls7, hls, hrc7⟩ := HDEC.out.resolve_left (fun q => by have := q.1; omega)
  have HR8 : Hid (StrRow (w7.alloc (.cells #[strV l7] 9)) (w.heap.size + 2) (.slice A dn.length cap) (dn.map strV)) := Sec.row_off HR7.out (Off.of_grown (World.grownBy_alloc w7 _ none) (S := fun _ => False) (by simp)) (by simp)
  have HLEN : Hid ((dn.map strV).length < 100000) := by show _ < _; have h1 := HDL.out; rw [List.length_map]; omega
  have HQN : Hid (∀ w9 : World, (w7.alloc (.cells #[strV l7] 9)).grownBy w9 (Value.slice A dn.length cap).ownBlock → JtSt w w9 #[.pointer (some ⟨m, 0, none⟩), .int .i64 0, .int .i64 (g : Int), .int .i64 (o : Int), .int .i64 (f : Int), strV l, .slice A dn.length cap, .int .i64 (used : Int), .int .i64 0]) := fun w9 hg9 => (HQ7.out.later (grown_below0 (World.grownBy_alloc w7 _ none) (Nat.le_refl _))).off (Off.of_grown hg9 (fun k e => (World.ownsRow.lt HR8.out k e).1))
  have HBS : Hid (w.heap.size + 2 ≤ (w7.alloc (.cells #[strV l7] 9)).heap.size) := Nat.le_trans HQ7.out.size (World.grownBy_alloc w7 _ none).size
  have hus2 : used + M7 ≤ 8192 := by have := HNN.out; omega
  have s1 : (0 : Int) ≤ (used : Int) + (M7 : Int) := by omega
  have s2 : (used : Int) + (M7 : Int) ≤ 8192 := by omega
  have HLS7 := Lib.hid hls
  have HRC7 := Lib.hid hrc7
  have HUS7 := Lib.hid hus
  have HM0 : Hid (0 < M7) := by show _ < _; omega
  clear cM cl co hls hrc7 hus hus2
  clear r0
  clear r1
  clear r2
  clear r3
  clear r4
  clear r5
  clear r6
  clear r7
  clear r8
  clear q0
  go_wp2_with (first
   | (at_builtin; refine wpList_append_str rfl (.tmp 134) (.tmp 136) rfl (w.heap.size + 2) (.slice A dn.length cap) (dn.map strV) (strV l7) rfl rfl HR8.out w7.heap.size rfl (cell_new w7 (strV l7) 9) HLEN.out HBS.out ?_; intro v9 w9 h9 hg9; (obtain ⟨A9, cap9, rfl, _, _⟩ := row_len h9); (have HQ9 := Lib.hid (HQN.out w9 hg9)); (have p6 : w9.cell? ⟨w.heap.size + 1, 6, none⟩ = some (.slice A dn.length cap) := HQ9.out.cell 6); (have p7 : w9.cell? ⟨w.heap.size + 1, 7, none⟩ = some (.int .i64 (used : Int)) := HQ9.out.cell 7); (have f9 := HQ9.out.free); (have HR9 := Lib.hid h9); clear h9 hg9; go_frame)
   | fail)
  have hL9 : (dn.map strV ++ [strV l7]).length = dn.length + 1 := by simp
  have HJ9 : Hid (JtSt w ((w9.setCell ⟨w.heap.size + 1, 6, none⟩ (.slice A9 (dn.length + 1) cap9)).setCell ⟨w.heap.size + 1, 7, none⟩ (.int .i64 ((used : Int) + (M7 : Int)))) #[.pointer (some ⟨m, 0, none⟩), .int .i64 0, .int .i64 (g : Int), .int .i64 (o : Int), .int .i64 (f : Int), strV l, .slice A9 (dn.length + 1) cap9, .int .i64 ((used : Int) + (M7 : Int)), .int .i64 0]) := (HQ9.out.set 6 _).set 7 _
  have HR9b := HR9.out
  rw [hL9] at HR9b
  have e7 : ((w9.setCell ⟨w.heap.size + 1, 6, none⟩ (.slice A9 (dn.length + 1) cap9)).setCell ⟨w.heap.size + 1, 7, none⟩ (.int .i64 ((used : Int) + (M7 : Int)))).cell? ⟨w.heap.size + 1, 7, none⟩ = some (.int .i64 ((used : Int) + (M7 : Int))) := HJ9.out.cell 7
  have e8 : wr.cell? ⟨w.heap.size + 1, 7, none⟩ = some (.int .i64 (used : Int)) := HJT.out.cell 7
  refine ⟨⟨s7, used + M7, dn ++ [l7], ls7, .slice A9 (dn.length + 1) cap9, rfl, by rw [List.length_append]; exact HRC7.out, by rw [List.append_assoc, List.singleton_append, ← HLS7.out]; exact HRS.out, by rw [Int.natCast_add]; exact HJ9.out, ?_, HUS7.out, by rw [List.length_append]; show dn.length + 1 ≤ _; have := HDU.out; have := HM0.out; omega⟩, ?_⟩
  ·rw [List.map_append]
   exact Sec.row_off (Sec.row_off HR9b (Off.of_grown (grown_set w9 (w.heap.size + 1) 6 _) (S := fun b => b = w.heap.size + 1) (fun k e => by cases e; rfl)) (fun g hg e => by have := (World.ownsRow.lt HR9b g hg).1; omega)) (Off.of_grown (grown_set _ (w.heap.size + 1) 7 _) (S := fun b => b = w.heap.size + 1) (fun k e => by cases e; rfl)) (fun g hg e => by have := (World.ownsRow.lt HR9b g hg).1; omega)
  ·rw [e7, e8]
   show 20000 - ((used : Int) + (M7 : Int)).toNat < 20000 - (used : Int).toNat
   have := HM0.out
   omega
theorem rarea_bears1 (S : Nat → Prop) (m : Nat) (D : Dsk) (w : World) (h : RefAt w S m D) (ho : D.off = false) (hf : Full D) (h4 : 4 ≤ D.n) (g o f n : Nat) (hh : HeadOk (D.now (1 * (D.n / 2))) g o f n) (ht : Tame D.now (1 * (D.n / 2)) (D.n / 2)) (M u : Nat) (fs : Nat → List UInt8) (recs : List (List UInt8)) (hw : Wy D.now (1 * (D.n / 2)) (D.n / 2) 0 67 0 g M fs) (hln : (joined fs M).length = n) (hrec : Recs D.now (1 * (D.n / 2)) (D.n / 2) o f M 0 0 recs u) (hfr : f + recs.length ≤ 4611686018427387904) :
  Calls Tryz.prog 66 #[.pointer (some ⟨m, 0, none⟩), .int .i64 1] w (fun e w' => ∃ lv, e = .returned (.tuple #[.agg #[.pointer (some ⟨m, 0, none⟩), .int .i64 1, .int .i64 (g : Int), .int .i64 (o : Int), .int .i64 (f : Int), strV (joined fs M), lv, .int .i64 (u : Int), .int .i64 0], .bool true]) ∧ StrRow w' w.heap.size lv (recs.map strV) ∧ Below w.heap.size w w') := by
 have HR := Lib.hid h
 have HW := Lib.hid hw
 have HREC := Lib.hid hrec
 have HFR := Lib.hid hfr
 clear hw hrec hfr
 have hn := h.1
 obtain ⟨bi, hbi⟩ : ∃ b, b = D.now (1 * (D.n / 2)) := ⟨_, rfl⟩
 have hrd : ∀ v x, Below w.heap.size w v → x = ((1 * (D.n / 2) : Nat) : Int) → Calls Tryz.prog 69 #[.pointer (some ⟨m, 0, none⟩), .int .i64 x] v fun e w' => e = .returned (.tuple #[strV bi, .int .i64 0]) ∧ v = w' := fun v x hv hx => by
  rw [hbi]
  exact rread_t S m x _ D v (HR.out.grown (Below.to_grown hv)) hx (area_lt (by decide) h4) ho hf
 rw [← hbi] at hh
 obtain ⟨⟨hg1, hg2⟩, ⟨ho1, ho2⟩, ⟨hf1, hf2⟩, hn2, hbe⟩ := hh
 have hnum : HNums bi g o f n := by rw [hbe]; exact head_nums hg2 ho2 hf2 hn2
 have HBE := Lib.hid hbe
 have HN := Lib.hid hnum
 have HRD := Lib.hid hrd
 obtain ⟨hw, hhe⟩ : ∃ x, x = D.n / 2 := ⟨_, rfl⟩
 have hhn : hw ≤ 8192 := by omega
 have HHE := Lib.hid hhe
 rw [← hhe] at HRD
 have HHALF : Hid (∀ v, Below w.heap.size w v → Calls Tryz.prog 92 #[.pointer (some ⟨m, 0, none⟩)] v fun e w' => e = .returned (.int .i64 (hw : Int)) ∧ v = w') := fun v hv => by rw [hhe]; exact rhalf_at S m D v (HR.out.grown (Below.to_grown hv))
 have HHT := Lib.hid (And.intro ho (And.intro hf h4))
 have HTM := Lib.hid ht
 obtain ⟨l, hl⟩ : ∃ l, l = joined fs M := ⟨_, rfl⟩
 rw [← hl] at hln ⊢
 have HL := Lib.hid hl
 have HLN : Hid ((bs l).size = n) := (bs_size l).trans hln
 clear hl hln
 have hg63 := hnum.g8.lt63
 have ho63 := hnum.o8.lt63
 have hf63 := hnum.f8.lt63
 have hn63 : n < 4294967296 := hnum.n4.lt
 have hb1 := grown_below0 (World.grownBy_alloc w (.cells rj0 101) none) (Nat.le_refl _)
 have HB1 := Lib.hid hb1
 clear h ho hf h4 hbi hrd hnum hn hb1 hbe ht
 go_enter Tryz.func66, Tryz.ntmps66
 go_wp2_with fail
 refine (HHALF.out _ HB1.out).mono ?_
 rintro e w' ⟨rfl, rfl⟩
 go_wp2_with fail
 refine (HRD.out _ _ HB1.out (by first | omega | simp)).mono ?_
 rintro e w' ⟨rfl, rfl⟩
 go_wp2_with fail
 refine (num_call HN.out.g8 (by decide) (by decide) HN.out.len _).mono ?_
 rintro e w' ⟨rfl, rfl⟩
 go_wp2_with fail
 refine (num_call HN.out.o8 (by decide) (by decide) HN.out.len _).mono ?_
 rintro e w' ⟨rfl, rfl⟩
 go_wp2_with fail
 refine (num_call HN.out.f8 (by decide) (by decide) HN.out.len _).mono ?_
 rintro e w' ⟨rfl, rfl⟩
 go_wp2_with fail
 have hjt := JtSt.start w #[.pointer (some ⟨m, 0, none⟩), .int .i64 1, .int .i64 (g : Int), .int .i64 (o : Int), .int .i64 (f : Int), .string ⟨#[]⟩, .slice none 0 0, .int .i64 0, .int .i64 0]
 obtain ⟨z, hz⟩ : ∃ z, z = (w.alloc (.cells rj0 101)).alloc (.cells #[.pointer (some ⟨m, 0, none⟩), .int .i64 1, .int .i64 (g : Int), .int .i64 (o : Int), .int .i64 (f : Int), .string ⟨#[]⟩, .slice none 0 0, .int .i64 0, .int .i64 0] 101) := ⟨_, rfl⟩
 rw [← hz] at hjt ⊢
 have HZ := Lib.hid hjt
 clear hz hjt
 refine (num_call HN.out.n4 (by decide) (by decide) HN.out.len _).mono ?_
 rintro e w' ⟨rfl, rfl⟩
 obtain ⟨p0, p1, p2, p3, p4, p5, p6, p7, p8⟩ := z9 HZ.out.pt
 obtain ⟨r0, r1, r2, r3, r4, r5, r6, r7, r8⟩ := z9 HZ.out.res
 have q0 := HZ.out.resfree
 have tg1 : decide ((g : Int) < 1) = false := by simp; omega
 have tg2 : decide ((4611686018427387904 : Int) < (g : Int)) = false := by simp; omega
 have to1 : decide ((o : Int) < 1) = false := by simp; omega
 have to2 : decide ((4611686018427387904 : Int) < (o : Int)) = false := by simp; omega
 have tf1 : decide ((f : Int) < 1) = false := by simp; omega
 have tf2 : decide ((4611686018427387904 : Int) < (f : Int)) = false := by simp; omega
 have tn : decide ((1048576 : Int) < (n : Int)) = false := by simp; omega
 have e1 : ((bs bi).toList == (bs bi).toList) = true := by simp
 clear hg2 ho2 hf2
 go_wp2_with fail
 refine (rhead_at g o f n hg63 ho63 hf63 (by omega) _).mono ?_
 rintro e w3 ⟨rfl, hb3⟩
 rw [← HBE.out]
 have HQ := Lib.hid (HZ.out.later hb3)
 clear hb3 HZ
 clear p0 r0
 clear p1 r1
 clear p2 r2
 clear p3 r3
 clear p4 r4
 clear p5 r5
 clear p6 r6
 clear p7 r7
 clear p8 r8
 clear q0
 obtain ⟨p0, p1, p2, p3, p4, p5, p6, p7, p8⟩ := z9 HQ.out.pt
 obtain ⟨r0, r1, r2, r3, r4, r5, r6, r7, r8⟩ := z9 HQ.out.res
 have q0 := HQ.out.resfree
 go_wp2_with fail
 have HCALL := Lib.hid (rwhole_y1 HW.out w3 (HR.out.grown (Below.to_grown HQ.out.below)) HHT.out.1 HHT.out.2.1 HHT.out.2.2 HTM.out)
 rw [← HL.out] at HCALL
 refine HCALL.out.mono ?_
 rintro e w4 ⟨rfl, hb4⟩
 have HQ4 := Lib.hid (HQ.out.later hb4)
 clear hb4 HCALL
 clear p0 r0
 clear p1 r1
 clear p2 r2
 clear p3 r3
 clear p4 r4
 clear p5 r5
 clear p6 r6
 clear p7 r7
 clear p8 r8
 clear q0
 obtain ⟨p0, p1, p2, p3, p4, p5, p6, p7, p8⟩ := z9 HQ4.out.pt
 obtain ⟨r0, r1, r2, r3, r4, r5, r6, r7, r8⟩ := z9 HQ4.out.res
 have q0 := HQ4.out.resfree
 have f0 := HQ4.out.free
 have hM1 := HW.out.one
 have m1 : ((M : Int) == 0) = false := by simp; omega
 have m2 : ((g : Int) != (g : Int)) = false := by simp
 have m3 : (((bs l).size : Int) != (n : Int)) = false := by rw [HLN.out]; simp
 have HNN : Hid (D.n / 2 ≤ 8192) := by show _ ≤ _; have := HR.out.1; omega
 have hMh : M ≤ D.n / 2 - 1 := by have := HW.out.room; omega
 go_wp2_with fail
 have HJ0 : Hid (JtSt w ((w4.setCell ⟨w.heap.size + 1, 5, none⟩ (strV l)).setCell ⟨w.heap.size + 1, 7, none⟩ (.int .i64 (M : Int))) #[.pointer (some ⟨m, 0, none⟩), .int .i64 1, .int .i64 (g : Int), .int .i64 (o : Int), .int .i64 (f : Int), strV l, .slice none 0 0, .int .i64 (M : Int), .int .i64 0]) := (HQ4.out.set 5 (strV l)).set 7 (.int .i64 (M : Int))
 obtain ⟨w5, hw5⟩ : ∃ w5, w5 = (w4.setCell ⟨w.heap.size + 1, 5, none⟩ (strV l)).setCell ⟨w.heap.size + 1, 7, none⟩ (.int .i64 (M : Int)) := ⟨_, rfl⟩
 rw [← hw5] at HJ0 ⊢
 clear hw5 f0
 clear p0 r0
 clear p1 r1
 clear p2 r2
 clear p3 r3
 clear p4 r4
 clear p5 r5
 clear p6 r6
 clear p7 r7
 clear p8 r8
 clear q0 m1 m2 m3 HQ4 HQ
 go_loopw [13] (fun v13 wr => ∃ (last used : Nat) (dn lr : List (List UInt8)) (lv : Value), v13 = .int .i64 (last : Int) ∧ Recs D.now (1 * (D.n / 2)) (D.n / 2) o f used dn.length last lr u ∧ dn ++ lr = recs ∧ JtSt w wr #[.pointer (some ⟨m, 0, none⟩), .int .i64 1, .int .i64 (g : Int), .int .i64 (o : Int), .int .i64 (f : Int), strV l, lv, .int .i64 (used : Int), .int .i64 0] ∧ StrRow wr (w.heap.size + 2) lv (dn.map strV) ∧ used ≤ D.n / 2 - 1 ∧ dn.length ≤ used) (fun _ wr => match wr.cell? ⟨w.heap.size + 1, 7, none⟩ with | some (.int _ x) => 20000 - x.toNat | _ => 0)
 case atStart => exact ⟨0, M, [], recs, _, rfl, HREC.out, rfl, HJ0.out, World.ownsRow_nil _ _ _ _, hMh, Nat.zero_le _⟩
 case round =>
  obtain ⟨last, used, dn, lr, lv, rfl, hrc, hrs, hjt, hrow, hu, hdu⟩ := hrel
  obtain ⟨A, cap, rfl, hc1, hc2⟩ := row_len hrow
  simp only [List.length_map] at hc1 hjt hrow ⊢
  have HDL : Hid (dn.length < 100000) := by show _ < _; have := HNN.out; omega
  have HDU := Lib.hid hdu
  have HJT := Lib.hid hjt
  have HRW := Lib.hid hrow
  have HJB : Hid (RJBlk wr.drew (w.heap.size + 1) m ⟨1, g, o, f, n, l, dn, used⟩ (.slice A dn.length cap) 0) := hjt.pt
  have HR0 : Hid (StrRow wr.drew 0 (.slice A dn.length cap) (dn.map strV)) := row_less (Sec.row_off hrow (off_drew wr 1) (by simp)) (Nat.zero_le _)
  have HLR : Hid (dn.length + lr.length = recs.length) := by show _ = _; rw [← hrs, List.length_append]
  have HRS := Lib.hid hrs
  obtain ⟨s7, M7, l7, hcall, hll, hdec⟩ := rrec1 (S := S) (m := m) HHT.out.1 HHT.out.2.1 HHT.out.2.2 HTM.out hrc
  have HCALL := Lib.hid hcall
  have HDEC := Lib.hid hdec
  clear hjt hrow hrs hrc hcall hdec hll
  go_upto_region 12 with fail
  refine wp_region_noPanic ?_
  refine wp_region_held_drew (S := fun w' => w'.cell? ⟨w.heap.size + 1, 7, none⟩ = some (Value.int .i64 (used : Int))) (by kernel_rfl) ?hSn (fun hHeld => ?_)
  case hSn => exact HJT.out.cell 7
  refine ztk 0 rfl ?_
  refine ztk 1 rfl ?_
  refine ztk 2 rfl ?_
  refine ztk 3 rfl ?_
  refine zrd 4 rfl (fun K hK => ?_)
  go_simp
  refine (rnext_blk (w.heap.size + 1) m ⟨1, g, o, f, n, l, dn, used⟩ _ 0 wr.drew HJB.out HR0.out (by have := HFR.out; have := HLR.out; show f + dn.length < _; omega)).mono ?_
  rintro e w6 ⟨rfl, k6, hw6⟩
  have HJ6 := Lib.hid ((HJT.out.drewN 1).drewN k6)
  have HW6b : Hid (w6 = (wr.drewN 1).drewN k6) := hw6
  have HW6 : Hid (Below w.heap.size w w6) := by rw [HW6b.out]; exact below_drewN (below_drewN HJT.out.below 1) k6
  clear hw6
  go_wp2_with fail
  refine hK.out _ _ ?q (fun hHeld => ?_)
  case q => (try dsimp only); rw [HW6b.out]; exact HJ6.out.cell 7
  clear hK K
  try simp only [zpt]
  refine zrd 5 rfl (fun K hK => ?_)
  go_simp
  rw [show (f : Int) + (dn.length : Int) = ((f + dn.length : Nat) : Int) by omega]
  refine (HCALL.out w6 (HR.out.grown (Below.to_grown HW6.out))).mono ?_
  rintro e w7 ⟨rfl, hb7⟩
  have HQ7 : Hid (JtSt w w7 _) := (show JtSt w w6 _ from by rw [HW6b.out]; exact HJ6.out).later hb7
  have HR7 : Hid (StrRow w7 (w.heap.size + 2) _ (dn.map strV)) := Sec.row_off (show StrRow w6 _ _ _ from by rw [HW6b.out]; exact Sec.row_off HRW.out ((off_drew wr 1).trans (off_drew _ k6)) (by simp)) (Off.of_grown (Below.to_grown hb7) (S := fun _ => False) (by simp)) (by simp)
  clear hb7
  go_wp2_with fail
  refine hK.out _ _ ?q (fun hHeld => ?_)
  case q => (try dsimp only); exact HQ7.out.cell 7
  clear hK K
  try simp only [zpt]
  refine ztk 6 rfl ?_
  refine ztk 7 rfl ?_
  refine ztk 8 rfl ?_
  refine ztk 9 rfl ?_
  refine ztk 10 rfl ?_
  refine ztk 11 rfl ?_
  refine ztk 12 rfl ?_
  refine wpAnyH_done (by kernel_rfl) ?_ _
  refine NoPanic.normal ?_
  clear hHeld
  obtain ⟨p0, p1, p2, p3, p4, p5, p6, p7, p8⟩ := z9 HQ7.out.pt
  obtain ⟨r0, r1, r2, r3, r4, r5, r6, r7, r8⟩ := z9 HQ7.out.res
  have q0 := HQ7.out.resfree
  have f0 := HQ7.out.free
  by_cases cM : M7 = 0
  ·have n1 : ((M7 : Int) == 0) = true := by simp [cM]
   obtain ⟨_, hl0, hu0⟩ := HDEC.out.resolve_right (fun q => q.1 cM)
   have hrec2 : recs = dn := by rw [← HRS.out, hl0, List.append_nil]
   have HREC2 := Lib.hid hrec2
   have HU0 := Lib.hid hu0
   clear cM hl0 hu0 hrec2
   go_wp2_with fail
   (try simp only [Exit.inBlock, Exit.then])
   refine bodyPost_ret (results_row_tmp rfl _ _ w.heap.size _ _ _ _ rfl (HQ7.out.put _ _ _ _ _ _ _ _ _).1 Tryz.underlying101 rfl (by kernel_rfl)) rfl ?_
   rw [HREC2.out, HU0.out]
   refine ⟨_, rfl, ?_, (HQ7.out.put _ _ _ _ _ _ _ _ _).2.1⟩
   exact row_less (Sec.row_off HR7.out (HQ7.out.put _ _ _ _ _ _ _ _ _).2.2 (fun g hg e => by have := (World.ownsRow.lt HR7.out g hg).1; omega)) (by omega)
  have n1 : ((M7 : Int) == 0) = false := by simp; omega
  by_cases cl : s7 < last
  ·have n2 : decide ((s7 : Int) < (last : Int)) = true := by simp; omega
   have n3 : decide (s7 < last) = true := by simp; omega
   obtain ⟨_, hl0, hu0⟩ := HDEC.out.resolve_right (fun q => by have := q.2.1; omega)
   have hrec2 : recs = dn := by rw [← HRS.out, hl0, List.append_nil]
   have HREC2 := Lib.hid hrec2
   have HU0 := Lib.hid hu0
   clear cM cl hl0 hu0 hrec2
   go_wp2_with fail
   (try simp only [Exit.inBlock, Exit.then])
   refine bodyPost_ret (results_row_tmp rfl _ _ w.heap.size _ _ _ _ rfl (HQ7.out.put _ _ _ _ _ _ _ _ _).1 Tryz.underlying101 rfl (by kernel_rfl)) rfl ?_
   rw [HREC2.out, HU0.out]
   refine ⟨_, rfl, ?_, (HQ7.out.put _ _ _ _ _ _ _ _ _).2.1⟩
   exact row_less (Sec.row_off HR7.out (HQ7.out.put _ _ _ _ _ _ _ _ _).2.2 (fun g hg e => by have := (World.ownsRow.lt HR7.out g hg).1; omega)) (by omega)
  have n2 : decide ((s7 : Int) < (last : Int)) = false := by simp; omega
  have n3 : decide (s7 < last) = false := by simp; omega
  by_cases co : o < s7
  ·have n4 : decide ((o : Int) < (s7 : Int)) = true := by simp; omega
   have n5 : decide (o < s7) = true := by simp; omega
   obtain ⟨_, hl0, hu0⟩ := HDEC.out.resolve_right (fun q => by have := q.2.2.1; omega)
   have hrec2 : recs = dn := by rw [← HRS.out, hl0, List.append_nil]
   have HREC2 := Lib.hid hrec2
   have HU0 := Lib.hid hu0
   clear cM cl co hl0 hu0 hrec2
   go_wp2_with fail
   (try simp only [Exit.inBlock, Exit.then])
   refine bodyPost_ret (results_row_tmp rfl _ _ w.heap.size _ _ _ _ rfl (HQ7.out.put _ _ _ _ _ _ _ _ _).1 Tryz.underlying101 rfl (by kernel_rfl)) rfl ?_
   rw [HREC2.out, HU0.out]
   refine ⟨_, rfl, ?_, (HQ7.out.put _ _ _ _ _ _ _ _ _).2.1⟩
   exact row_less (Sec.row_off HR7.out (HQ7.out.put _ _ _ _ _ _ _ _ _).2.2 (fun g hg e => by have := (World.ownsRow.lt HR7.out g hg).1; omega)) (by omega)
  have n4 : decide ((o : Int) < (s7 : Int)) = false := by simp; omega
  have n5 : decide (o < s7) = false := by simp; omega
  obtain ⟨_, _, _, hus, ls7, hls, hrc7⟩ := HDEC.out.resolve_left (fun q => by have := q.1; omega)
  have HR8 : Hid (StrRow (w7.alloc (.cells #[strV l7] 9)) (w.heap.size + 2) (.slice A dn.length cap) (dn.map strV)) := Sec.row_off HR7.out (Off.of_grown (World.grownBy_alloc w7 _ none) (S := fun _ => False) (by simp)) (by simp)
  have HLEN : Hid ((dn.map strV).length < 100000) := by show _ < _; have h1 := HDL.out; rw [List.length_map]; omega
  have HQN : Hid (∀ w9 : World, (w7.alloc (.cells #[strV l7] 9)).grownBy w9 (Value.slice A dn.length cap).ownBlock → JtSt w w9 #[.pointer (some ⟨m, 0, none⟩), .int .i64 1, .int .i64 (g : Int), .int .i64 (o : Int), .int .i64 (f : Int), strV l, .slice A dn.length cap, .int .i64 (used : Int), .int .i64 0]) := fun w9 hg9 => (HQ7.out.later (grown_below0 (World.grownBy_alloc w7 _ none) (Nat.le_refl _))).off (Off.of_grown hg9 (fun k e => (World.ownsRow.lt HR8.out k e).1))
  have HBS : Hid (w.heap.size + 2 ≤ (w7.alloc (.cells #[strV l7] 9)).heap.size) := Nat.le_trans HQ7.out.size (World.grownBy_alloc w7 _ none).size
  have hus2 : used + M7 ≤ 8192 := by have := HNN.out; omega
  have s1 : (0 : Int) ≤ (used : Int) + (M7 : Int) := by omega
  have s2 : (used : Int) + (M7 : Int) ≤ 8192 := by omega
  have HLS7 := Lib.hid hls
  have HRC7 := Lib.hid hrc7
  have HUS7 := Lib.hid hus
  have HM0 : Hid (0 < M7) := by show _ < _; omega
  clear cM cl co hls hrc7 hus hus2
  clear r0
  clear r1
  clear r2
  clear r3
  clear r4
  clear r5
  clear r6
  clear r7
  clear r8
  clear q0
  go_wp2_with (first
   | (at_builtin; refine wpList_append_str rfl (.tmp 134) (.tmp 136) rfl (w.heap.size + 2) (.slice A dn.length cap) (dn.map strV) (strV l7) rfl rfl HR8.out w7.heap.size rfl (cell_new w7 (strV l7) 9) HLEN.out HBS.out ?_; intro v9 w9 h9 hg9; (obtain ⟨A9, cap9, rfl, _, _⟩ := row_len h9); (have HQ9 := Lib.hid (HQN.out w9 hg9)); (have p6 : w9.cell? ⟨w.heap.size + 1, 6, none⟩ = some (.slice A dn.length cap) := HQ9.out.cell 6); (have p7 : w9.cell? ⟨w.heap.size + 1, 7, none⟩ = some (.int .i64 (used : Int)) := HQ9.out.cell 7); (have f9 := HQ9.out.free); (have HR9 := Lib.hid h9); clear h9 hg9; go_frame)
   | fail)
  have hL9 : (dn.map strV ++ [strV l7]).length = dn.length + 1 := by simp
  have HJ9 : Hid (JtSt w ((w9.setCell ⟨w.heap.size + 1, 6, none⟩ (.slice A9 (dn.length + 1) cap9)).setCell ⟨w.heap.size + 1, 7, none⟩ (.int .i64 ((used : Int) + (M7 : Int)))) #[.pointer (some ⟨m, 0, none⟩), .int .i64 1, .int .i64 (g : Int), .int .i64 (o : Int), .int .i64 (f : Int), strV l, .slice A9 (dn.length + 1) cap9, .int .i64 ((used : Int) + (M7 : Int)), .int .i64 0]) := (HQ9.out.set 6 _).set 7 _
  have HR9b := HR9.out
  rw [hL9] at HR9b
  have e7 : ((w9.setCell ⟨w.heap.size + 1, 6, none⟩ (.slice A9 (dn.length + 1) cap9)).setCell ⟨w.heap.size + 1, 7, none⟩ (.int .i64 ((used : Int) + (M7 : Int)))).cell? ⟨w.heap.size + 1, 7, none⟩ = some (.int .i64 ((used : Int) + (M7 : Int))) := HJ9.out.cell 7
  have e8 : wr.cell? ⟨w.heap.size + 1, 7, none⟩ = some (.int .i64 (used : Int)) := HJT.out.cell 7
  refine ⟨⟨s7, used + M7, dn ++ [l7], ls7, .slice A9 (dn.length + 1) cap9, rfl, by rw [List.length_append]; exact HRC7.out, by rw [List.append_assoc, List.singleton_append, ← HLS7.out]; exact HRS.out, by rw [Int.natCast_add]; exact HJ9.out, ?_, HUS7.out, by rw [List.length_append]; show dn.length + 1 ≤ _; have := HDU.out; have := HM0.out; omega⟩, ?_⟩
  ·rw [List.map_append]
   exact Sec.row_off (Sec.row_off HR9b (Off.of_grown (grown_set w9 (w.heap.size + 1) 6 _) (S := fun b => b = w.heap.size + 1) (fun k e => by cases e; rfl)) (fun g hg e => by have := (World.ownsRow.lt HR9b g hg).1; omega)) (Off.of_grown (grown_set _ (w.heap.size + 1) 7 _) (S := fun b => b = w.heap.size + 1) (fun k e => by cases e; rfl)) (fun g hg e => by have := (World.ownsRow.lt HR9b g hg).1; omega)
  ·rw [e7, e8]
   show 20000 - ((used : Int) + (M7 : Int)).toNat < 20000 - (used : Int).toNat
   have := HM0.out
   omega
end Go.Proofs.YtgdedgfohjplmaaGreat.Jnl
