/- A sector is written: sectors.Write. -/
import Derived.Test.YtgdedgfohjplmaaJB
import Derived.Laws.BitsLemmas
import Derived.Lib.SlBytesConst
import Derived.Laws.BytesArg
import Derived.Laws.AppendOwn
namespace Go.Proofs.Ytgdedgfohjplmaa.Sec
open Go.RowKit Go.Maps

/-- The disk behind a write that is done. -/
def Dsk.push (D : Dsk) (i : Nat) (l : List UInt8) : Dsk := { D with wr := D.wr ++ [(i, l)], now := upd D.now i l }
set_option maxRecDepth 100000 in
theorem wpList_store_wr0 {ops : Array Oper} {rest : List Oper} {op : Oper} {a : Act} {w' : World} {Q : Exit → Act → World → Prop} (hgd : op.guard = none) (x y : Operand) (ho : op.op = .store 71 x y)
    (i : Nat) (w : World) (gg : Nat) (hgg : w.heap.size = gg) (hw : w' = w.alloc (.cells (wrA 0 noughts) 71)) (hx : a.eval x = .pointer (some ⟨gg, 0, none⟩)) (hy : a.eval y = .agg (wrA i noughts))
    (h : wpList Try.prog ops Q rest (a.put op.dst undef) (wr0 w i)) : wpList Try.prog ops Q (op :: rest) a w' := by
  subst hw
  subst hgg
  exact wpList_store_wr hgd x y ho w.heap.size i noughts noughts_length hx hy (there_new w _ _ _ (by rw [wrA_size, noughts_length]; omega)) h

set_option maxRecDepth 100000 in
set_option maxHeartbeats 4000000 in
theorem write_plain (S : Nat → Prop) (d i : Nat) (D : Dsk) (l : List UInt8) (A : Option Addr) (cap : Nat) (w : World) (h : DiskAt w S d D) (hr : RowB w S A l) (hS : ∀ b, w.heap.size ≤ b → S b) (hi : i < D.n) (ho : D.off = false) (hl : l.length ≤ 128) (harm : D.armed = none) (hn : D.wr.length < 1000000) :
    Calls Try.prog 46 #[.pointer (some ⟨d, 0, none⟩), .int .i64 (i : Int), .slice A l.length cap] w fun e w' => e = .returned (.int .i64 0) ∧ DiskAt w' S d (D.push i (pad l)) ∧ Off S w w' := by
  have hask := asked_at S d D (i : Int) w h
  rw [show askedN D (i : Int) = 0 by unfold askedN; rw [if_neg (by simp [ho]), if_neg (by omega)]] at hask
  obtain ⟨h1, h2, mb, mn, sv, pa, hd, hB, hmb, hmn, hne, hsb, hsn, hrow, hos, ha⟩ := h
  have c4 : w.cell? ⟨d, 4, none⟩ = some (.pointer pa) := cell_blk hd 4
  have ha' := ha
  rw [harm] at ha'
  have hpa : pa = none := ha'
  subst hpa
  have d128 : decide ((128 : Int) < (l.length : Int)) = false := by simp; omega
  have hbw := build_wr
  have hzw := zero_wr
  have HRW := Lib.hid (hr.grown (wr0_grown w i))
  have HA := Lib.hid hask
  have HL := Lib.hid hl
  have HPL := Lib.hid (pad_length l hl)
  have HTH := Lib.hid (wr0_there w i)
  have HB0 := Lib.hid (Off.refl S w)
  have HW0 := Lib.hid (And.intro hd (And.intro hsb (And.intro hsn (And.intro hrow ha))))
  have H2 := Lib.hid h2
  clear hd hask hr ha ha' hsb hsn hrow h2 hl
  go_enter Try.func46, Try.ntmps46
  go_wp2_with fail
  refine HA.out.mono ?_
  rintro e w' ⟨rfl, rfl⟩
  go_wp2_with (first
    | (with_reducible show Go.wpList _ _ _ ((⟨_, .store _ _ _, _, _, _, _⟩ : Oper) :: _) _ _; refine wpList_store_wr0 rfl _ _ rfl i (w) w.heap.size rfl rfl rfl rfl ?_; generalize (wrA 0 noughts).setIfInBounds 0 _ = junk; go_frame)
    | go_in)
  rw [run_copy_sec _ _ w.heap.size S A l cap HL.out HRW.out HTH.out]
  simp only [Result.andThen]
  rw [Oper.upon_value]
  have hsz := laid_size (w) i l
  have hgr := laid_grown (w) i l
  have hld := laid (w) i l HL.out
  skip
  have hs0 : (w).heap.size = w.heap.size := rfl
  obtain ⟨g, hgq⟩ : ∃ g, g = w.heap.size := ⟨_, rfl⟩
  rw [← hgq] at hsz hgr hld hS ⊢
  generalize (wr0 (w) i).setCells g 1 (u8s l) = w1 at hsz hgr hld ⊢
  obtain ⟨hd, hsb, hsn, hrow, ha⟩ := HW0.out
  have hdlt := (Array.getElem?_eq_some_iff.1 hd).1
  have hown := hrow.lt
  have hmnlt := hsn.lt
  have HMN : Hid (mn < g ∧ d < g) := by show _ ∧ _; omega
  clear hmnlt
  have hd1 := (hgr.block d hdlt (by simp)).trans hd
  have hsb1 := hsb.kept hgr (by simp)
  have hsn1 := hsn.kept hgr (by simp)
  have hrow1 := row_grown hrow hgr
  have ha1 := ha.grown hgr
  have c3x : w1.drew.cell? ⟨d, 3, none⟩ = some sv := cell_blk (w := w1.drew) hd1 3
  have hgA := drew_alloc_grown w1 (.cells (wrA i (pad l)) 71) none
  have hdA := (hgA.block d (by omega) (by simp)).trans hd1
  have c3y : (w1.drew.alloc (.cells (wrA i (pad l)) 71)).cell? ⟨d, 3, none⟩ = some sv := cell_blk hdA 3
  have c3z : (w1.alloc (.cells (wrA i (pad l)) 71)).cell? ⟨d, 3, none⟩ = some sv := c3y
  have HLAID := Lib.hid hld
  have HG : Hid (g < w1.heap.size) := by show g < _; omega
  have hgd : g ≠ d := by omega
  have HROW := Lib.hid (row_grown hrow1 hgA)
  obtain ⟨i0, hi0, he0⟩ := Option.map_eq_some_iff.1 info_wr
  simp only [Prod.mk.injEq] at he0
  have HI0 := Lib.hid (And.intro hi0 he0)
  have HZW : Hid ((Value.agg (wrA 0 noughts)).cells.size = 129) := by show (wrA 0 noughts).size = 129; rw [wrA_size, noughts_length]
  have HLL : Hid ((wrA i (pad l)).toList.length = 1 * 129) := by show _ = _; rw [Array.length_toList, wrA_size, HPL.out]
  have HNEWS : Hid (∀ j u, (wrA i (pad l)).toList[j]? = some u → (w1.drew.alloc (.cells (wrA i (pad l)) 71)).cell? ((⟨w1.heap.size, 0, none⟩ : Addr).add j) = some u) := by
    intro j u hu
    have hadd : (⟨w1.heap.size, 0, none⟩ : Addr).add j = ⟨w1.heap.size, j, none⟩ := by unfold Addr.add; split <;> simp_all
    rw [hadd]
    have := cell_new w1.drew (wrA i (pad l)) 71 j
    exact this.trans (by simpa using hu)
  have HM1 : Hid (D.wr.length + 1 ≤ maxLen) := by show _ ≤ _; unfold maxLen; omega
  have HM2 : Hid ((D.wr.length + 1) * 136 ≤ 140737488355328) := by show _ ≤ _; omega
  have HBB : Hid (0 ≤ (w1.drew.alloc (.cells (wrA i (pad l)) 71)).heap.size) := Nat.zero_le _
  have HPUSH : Hid (∀ sv2 w5, w5.ownsRow 0 71 129 sv2 (D.wr.length + 1) (rows D.wr ++ (wrA i (pad l)).toList) → (w1.drew.alloc (.cells (wrA i (pad l)) 71)).grownBy w5 sv.ownBlock → (sv2.ownBlock = sv.ownBlock ∨ sv2.ownBlock = some (w1.drew.alloc (.cells (wrA i (pad l)) 71)).heap.size) → _) := fun sv2 w5 ho5 hg5 hob => DiskAt.push (w := w1) (D := D) (sv2 := sv2) hd1 hB hsb1 hsn1 hrow1 hos ha1 (fun b hb => hS b (by omega)) hgA ho5 hg5 hob
  have HKEEP : Hid (∀ (sv2 : Value) (w5 : World), w5.ownsRow 0 71 129 sv2 (D.wr.length + 1) (rows D.wr ++ (wrA i (pad l)).toList) → (w1.drew.alloc (.cells (wrA i (pad l)) 71)).grownBy w5 sv.ownBlock → w5.rangeAt g 0 (wrA i (pad l)).toList ∧ g < w5.heap.size) := by
    intro sv2 w5 _ hg5
    have hgs := hg5.size
    have hgA' := hgA.size
    refine ⟨fun j v hv => ?_, by omega⟩
    have hne5 : some g ≠ sv.ownBlock := fun e => by have := (hown g e.symm).2; omega
    exact hg5.cell (hgA.cell (hld j v hv) (by simp)) hne5
  have HKEEP2 : Hid (∀ (sv2 : Value) (w5 : World), w5.ownsRow 0 71 129 sv2 (D.wr.length + 1) (rows D.wr ++ (wrA i (pad l)).toList) → (w1.drew.alloc (.cells (wrA i (pad l)) 71)).grownBy w5 sv.ownBlock → (w5.setCell ⟨d, 3, none⟩ sv2).rangeAt g 0 (wrA i (pad l)).toList ∧ g < (w5.setCell ⟨d, 3, none⟩ sv2).heap.size) := by
    intro sv2 w5 ho5 hg5
    obtain ⟨hr5, hs5⟩ := HKEEP.out sv2 w5 ho5 hg5
    refine ⟨fun j v hv => ?_, by simpa using hs5⟩
    rw [World.cell?_setCell_other _ _ _ _ (by simp)]
    exact hr5 j v hv
  have hb1 : Off S (w) w1 := Off.of_grown hgr (by simp)
  have HB1 := Lib.hid hb1
  have HSZ := Lib.hid hsz
  have HGQ := Lib.hid hgq
  clear hs0 HRW HTH c4 HW0 hd hsb hsn hrow ha hdlt hown hd1 hsb1 hsn1 hrow1 ha1 hgA hdA hld hi0 he0 hb1 hgr hsz hgq
  clear hbw hzw
  go_wp2_with fail
  refine wp_region_noPanic ?_
  refine wp_region_held_drew (S := fun w' => w'.rangeAt g 0 (wrA i (pad l)).toList ∧ g < w'.heap.size) (by kernel_rfl) ?hSa (fun hHeld => ?_)
  case hSa => exact ⟨(World.rangeAt_drew _ _ _ _).2 HLAID.out, by simpa using HG.out⟩
  refine wpAnyH_take (i := 0) (oi := ⟨_, _, _, _, _, _⟩) (v := ?va0) rfl (by kernel_rfl) (by kernel_rfl) (by kernel_rfl) (fun _ _ _ h => h) (Or.inl ⟨by rfl, ?hya0⟩) hHeld ?_
  case hya0 => (intro wS hSw; (try dsimp only at hSw); go_simp; (first | done | with_reducible rfl))
  try simp only [Act.put, List.setIfInBounds_toArray, List.set_cons_zero, List.set_cons_succ]
  refine wpAnyH_take (i := 1) (oi := ⟨_, _, _, _, _, _⟩) (v := ?va1) rfl (by kernel_rfl) (by kernel_rfl) (by kernel_rfl) (fun _ _ _ h => h) (Or.inl ⟨by rfl, ?hya1⟩) hHeld ?_
  case hya1 => (intro wS hSw; (try dsimp only at hSw); go_simp; (first | done | with_reducible rfl))
  try simp only [Act.put, List.setIfInBounds_toArray, List.set_cons_zero, List.set_cons_succ]
  refine wpAnyH_take (i := 2) (oi := ⟨_, _, _, _, _, _⟩) (v := ?va2) rfl (by kernel_rfl) (by kernel_rfl) (by kernel_rfl) (fun _ _ _ h => h) (Or.inl ⟨by rfl, ?hya2⟩) hHeld ?_
  case hya2 => (intro wS hSw; (try dsimp only at hSw); go_simp; (first | done | with_reducible rfl))
  try simp only [Act.put, List.setIfInBounds_toArray, List.set_cons_zero, List.set_cons_succ]
  refine wpAnyH_take (i := 3) (oi := ⟨_, _, _, _, _, _⟩) (v := ?va3) rfl (by kernel_rfl) (by kernel_rfl) (by kernel_rfl) (fun _ _ _ h => h) (Or.inl ⟨by rfl, ?hya3⟩) hHeld ?_
  case hya3 => (intro wS hSw; (try dsimp only at hSw); go_simp; (first | done | with_reducible rfl))
  try simp only [Act.put, List.setIfInBounds_toArray, List.set_cons_zero, List.set_cons_succ]
  refine wpAnyH_take (i := 5) (oi := ⟨_, _, _, _, _, _⟩) (v := .agg (wrA i (pad l))) rfl (by kernel_rfl) (by kernel_rfl) (by kernel_rfl) (fun _ _ _ h => h) (yields_wr (by rfl) (.tmp 8) rfl g rfl i (pad l) HPL.out (fun w h => h.1)) hHeld ?_
  try simp only [Act.put, List.setIfInBounds_toArray, List.set_cons_zero, List.set_cons_succ]
  refine wpAnyH_ready (rs := [4, 6]) (by kernel_rfl) (by simp) ?_
  refine AllReadyH.cons (o := ⟨_, _, _, _, _, _⟩) rfl (fun K hK => ?_) (AllReadyH.cons (o := ⟨_, _, _, _, _, _⟩) rfl (fun K hK => ?_) AllReadyH.nil)
  · go_simp
    refine hK.out _ _ ?kax4 (fun hNew => ?_)
    case kax4 => (try dsimp only); exact hHeld
    clear hK K hHeld
    have hHeld := hNew
    clear hNew
    try simp only [Act.put, List.setIfInBounds_toArray, List.set_cons_zero, List.set_cons_succ]
    refine wpAnyH_ready (rs := [6]) (by kernel_rfl) (by simp) ?_
    refine AllReadyH.cons (o := ⟨_, _, _, _, _, _⟩) rfl (fun K hK => ?_) AllReadyH.nil
    refine step_wp rfl ?_
    refine wp_one_wr (.tmp 51) rfl i (pad l) HPL.out rfl ?_
    refine hK.out _ _ ?kax6 (fun hNew => ?_)
    case kax6 => (try dsimp only); exact ⟨World.rangeAt_alloc hHeld.1 _, by rw [World.size_alloc]; exact Nat.lt_succ_of_lt hHeld.2⟩
    clear hK K hHeld
    have hHeld := hNew
    clear hNew
    try simp only [Act.put, List.setIfInBounds_toArray, List.set_cons_zero, List.set_cons_succ]
    refine wpAnyH_ready (rs := [7]) (by kernel_rfl) (by simp) ?_
    refine AllReadyH.cons (o := ⟨_, _, _, _, _, _⟩) rfl (fun K hK => ?_) AllReadyH.nil
    refine step_append_own rfl (.tmp 50) (.tmp 52) 49 71 rfl i0 _ 129 136 Try.underlying49 HI0.out.1 HI0.out.2.1 HI0.out.2.2.1 HI0.out.2.2.2 HZW.out (by decide) 0 sv D.wr.length (rows D.wr) HROW.out rfl ⟨w1.heap.size, 0, none⟩ 1 1 (wrA i (pad l)).toList rfl HLL.out HNEWS.out (wrA_one i (pad l)) HM1.out HM2.out HBB.out ?_
    intro sv2 w5 hown5 hgr5 hob5
    obtain ⟨g2, cap2, rfl⟩ := row_shape hown5
    have HOWN5 := Lib.hid hown5
    have HGR5 := Lib.hid hgr5
    clear hown5 hgr5
    have hp := HPUSH.out _ w5 HOWN5.out HGR5.out hob5
    have d3 := cell_blk hp.1 3
    have z3 := frozen_blk hp.1 3
    have HP := Lib.hid hp
    clear hp
    refine hK.out _ _ ?kax7 (fun hNew => ?_)
    case kax7 => (try dsimp only); exact HKEEP.out _ _ HOWN5.out HGR5.out
    clear hK K hHeld
    have hHeld := hNew
    clear hNew
    try simp only [Act.put, List.setIfInBounds_toArray, List.set_cons_zero, List.set_cons_succ]
    refine wpAnyH_take (i := 8) (oi := ⟨_, _, _, _, _, _⟩) (v := ?vax8) rfl (by kernel_rfl) (by kernel_rfl) (by kernel_rfl) (fun _ _ _ h => h) (Or.inl ⟨by rfl, ?hyax8⟩) hHeld ?_
    case hyax8 => (intro wS hSw; (try dsimp only at hSw); go_simp; (first | done | with_reducible rfl))
    try simp only [Act.put, List.setIfInBounds_toArray, List.set_cons_zero, List.set_cons_succ]
    refine wpAnyH_take (i := 9) (oi := ⟨_, _, _, _, _, _⟩) (v := ?vax9) rfl (by kernel_rfl) (by kernel_rfl) (by kernel_rfl) (fun _ _ _ h => h) (Or.inl ⟨by rfl, ?hyax9⟩) hHeld ?_
    case hyax9 => (intro wS hSw; (try dsimp only at hSw); go_simp; (first | done | with_reducible rfl))
    try simp only [Act.put, List.setIfInBounds_toArray, List.set_cons_zero, List.set_cons_succ]
    refine wpAnyH_ready (rs := [10]) (by kernel_rfl) (by simp) ?_
    refine AllReadyH.cons (o := ⟨_, _, _, _, _, _⟩) rfl (fun K hK => ?_) AllReadyH.nil
    go_simp
    refine hK.out _ _ ?kax10 (fun hNew => ?_)
    case kax10 => (try dsimp only); exact HKEEP2.out _ _ HOWN5.out HGR5.out
    clear hK K hHeld
    have hHeld := hNew
    clear hNew
    try simp only [Act.put, List.setIfInBounds_toArray, List.set_cons_zero, List.set_cons_succ]
    refine wpAnyH_done (by kernel_rfl) ?_ _
    refine NoPanic.normal ?_
    obtain ⟨_, hd6, hsb6, hsn6, hrow6, hos6, ha6, hbw6⟩ := HP.out
    have hr6 := hHeld.1
    clear hHeld HP d3 z3 HOWN5 HGR5
    generalize w5.setCell ⟨d, 3, none⟩ (.slice (some ⟨g2, 0, none⟩) (D.wr.length + 1) cap2) = w6 at hd6 hsb6 hsn6 hrow6 ha6 hbw6 hr6 ⊢
    have HD6 := Lib.hid hd6
    have HSN6 := Lib.hid hsn6
    have HALL := Lib.hid (And.intro hsb6 (And.intro hrow6 (And.intro hos6 (And.intro ha6 hbw6))))
    have hc2 : w6.drew.cell? ⟨d, 2, none⟩ = some (.map (some mn)) := cell_blk (w := w6.drew) hd6 2
    have HC2 := Lib.hid hc2
    have HR6 := Lib.hid hr6
    clear hd6 hsb6 hsn6 hrow6 hos6 ha6 hbw6 hr6 hc2 c3x c3y c3z
    go_wp2_with fail
    refine wp_region_noPanic ?_
    refine wp_region_held_drew (S := fun w' => w'.rangeAt g 0 (wrA i (pad l)).toList ∧ w'.cell? ⟨d, 2, none⟩ = some (.map (some mn))) (by kernel_rfl) ?hSaxz (fun hHeld => ?_)
    case hSaxz => exact ⟨(World.rangeAt_drew _ _ _ _).2 HR6.out, HC2.out⟩
    refine wpAnyH_take (i := 0) (oi := ⟨_, _, _, _, _, _⟩) (v := ?vaxz0) rfl (by kernel_rfl) (by kernel_rfl) (by kernel_rfl) (fun _ _ _ h => h) (Or.inl ⟨by rfl, ?hyaxz0⟩) hHeld ?_
    case hyaxz0 => (intro wS hSw; (try dsimp only at hSw); go_simp; (first | done | with_reducible rfl))
    try simp only [Act.put, List.setIfInBounds_toArray, List.set_cons_zero, List.set_cons_succ]
    refine wpAnyH_take (i := 1) (oi := ⟨_, _, _, _, _, _⟩) (v := ?vaxz1) rfl (by kernel_rfl) (by kernel_rfl) (by kernel_rfl) (fun _ _ _ h => h) (Or.inl ⟨by rfl, ?hyaxz1⟩) hHeld ?_
    case hyaxz1 => (intro wS hSw; (try dsimp only at hSw); go_simp; (first | done | with_reducible rfl))
    try simp only [Act.put, List.setIfInBounds_toArray, List.set_cons_zero, List.set_cons_succ]
    refine wpAnyH_take (i := 2) (oi := ⟨_, _, _, _, _, _⟩) (v := ?vaxz2) rfl (by kernel_rfl) (by kernel_rfl) (by kernel_rfl) (fun _ _ _ h => h) (Or.inl ⟨by rfl, ?hyaxz2⟩) hHeld ?_
    case hyaxz2 => (intro wS hSw; (try dsimp only at hSw); go_simp; (first | done | with_reducible rfl))
    try simp only [Act.put, List.setIfInBounds_toArray, List.set_cons_zero, List.set_cons_succ]
    refine wpAnyH_take (i := 3) (oi := ⟨_, _, _, _, _, _⟩) (v := ?vaxz3) rfl (by kernel_rfl) (by kernel_rfl) (by kernel_rfl) (fun _ _ _ h => h) (Or.inl ⟨by rfl, ?hyaxz3⟩) hHeld ?_
    case hyaxz3 => (intro wS hSw; (try dsimp only at hSw); go_simp; (first | done | with_reducible rfl))
    try simp only [Act.put, List.setIfInBounds_toArray, List.set_cons_zero, List.set_cons_succ]
    refine wpAnyH_take (i := 4) (oi := ⟨_, _, _, _, _, _⟩) (v := .agg (wrA i (pad l))) rfl (by kernel_rfl) (by kernel_rfl) (by kernel_rfl) (fun _ _ _ h => h) (yields_wr (by rfl) (.tmp 8) rfl g rfl i (pad l) HPL.out (fun w h => h.1)) hHeld ?_
    try simp only [Act.put, List.setIfInBounds_toArray, List.set_cons_zero, List.set_cons_succ]
    refine wpAnyH_ready (rs := [5]) (by kernel_rfl) (by simp) ?_
    refine AllReadyH.cons (o := ⟨_, _, _, _, _, _⟩) rfl (fun K hK => ?_) AllReadyH.nil
    go_simp
    refine (put_at mn D.n i D.now (pad l) _ hi h1 HPL.out (by exact HSN6.out.kept (drew_grown w6 none) (by simp))).mono ?_
    rintro e w7 ⟨rfl, hsn7, hg7⟩
    have HSN7 := Lib.hid hsn7
    have HG7 := Lib.hid ((drew_grown w6 (some mn)).andThen hg7 (fun _ hj => .inr hj))
    clear hsn7 hg7
    go_wp2_with fail
    refine hK.out _ _ ?kaxz5 (fun hNew => ?_)
    case kaxz5 => (try dsimp only); exact ⟨fun j v hv => HG7.out.cell (HR6.out j v hv) (fun e => by have := HMN.out; injection e with e; dsimp only at e; omega), (cell_blk ((HG7.out.block d (Array.getElem?_eq_some_iff.1 HD6.out).1 (fun e => by have := HSN6.out.ne HD6.out; injection e with e; exact this e.symm)).trans HD6.out) 2)⟩
    clear hK K hHeld
    have hHeld := hNew
    clear hNew
    try simp only [Act.put, List.setIfInBounds_toArray, List.set_cons_zero, List.set_cons_succ]
    refine wpAnyH_done (by kernel_rfl) ?_ _
    refine NoPanic.normal ?_
    go_wp2_with fail
    go_ret
    obtain ⟨hsb6, hrow6, hos6, ha6, hbw6⟩ := HALL.out
    have fin := disk_now (D := { (D : Dsk) with wr := D.wr ++ [(i, pad l)] }) h1 (fun p hp => by rcases List.mem_append.1 hp with hp | hp; exact H2.out p hp; rw [List.mem_singleton.1 hp]; exact ⟨hi, HPL.out⟩) HD6.out hB hmb hmn hne hsb6 HSN6.out hrow6 hos6 ha6 HG7.out HSN7.out
    exact ⟨rfl, fin.1, ((HB0.out.trans HB1.out).trans hbw6).trans fin.2⟩
  · refine step_wp rfl ?_
    refine wp_one_wr (.tmp 51) rfl i (pad l) HPL.out rfl ?_
    refine hK.out _ _ ?kay6 (fun hNew => ?_)
    case kay6 => (try dsimp only); exact ⟨World.rangeAt_alloc hHeld.1 _, by rw [World.size_alloc]; exact Nat.lt_succ_of_lt hHeld.2⟩
    clear hK K hHeld
    have hHeld := hNew
    clear hNew
    try simp only [Act.put, List.setIfInBounds_toArray, List.set_cons_zero, List.set_cons_succ]
    refine wpAnyH_ready (rs := [4]) (by kernel_rfl) (by simp) ?_
    refine AllReadyH.cons (o := ⟨_, _, _, _, _, _⟩) rfl (fun K hK => ?_) AllReadyH.nil
    go_simp
    refine hK.out _ _ ?kay4 (fun hNew => ?_)
    case kay4 => (try dsimp only); exact hHeld
    clear hK K hHeld
    have hHeld := hNew
    clear hNew
    try simp only [Act.put, List.setIfInBounds_toArray, List.set_cons_zero, List.set_cons_succ]
    refine wpAnyH_ready (rs := [7]) (by kernel_rfl) (by simp) ?_
    refine AllReadyH.cons (o := ⟨_, _, _, _, _, _⟩) rfl (fun K hK => ?_) AllReadyH.nil
    refine step_append_own rfl (.tmp 50) (.tmp 52) 49 71 rfl i0 _ 129 136 Try.underlying49 HI0.out.1 HI0.out.2.1 HI0.out.2.2.1 HI0.out.2.2.2 HZW.out (by decide) 0 sv D.wr.length (rows D.wr) HROW.out rfl ⟨w1.heap.size, 0, none⟩ 1 1 (wrA i (pad l)).toList rfl HLL.out HNEWS.out (wrA_one i (pad l)) HM1.out HM2.out HBB.out ?_
    intro sv2 w5 hown5 hgr5 hob5
    obtain ⟨g2, cap2, rfl⟩ := row_shape hown5
    have HOWN5 := Lib.hid hown5
    have HGR5 := Lib.hid hgr5
    clear hown5 hgr5
    have hp := HPUSH.out _ w5 HOWN5.out HGR5.out hob5
    have d3 := cell_blk hp.1 3
    have z3 := frozen_blk hp.1 3
    have HP := Lib.hid hp
    clear hp
    refine hK.out _ _ ?kay7 (fun hNew => ?_)
    case kay7 => (try dsimp only); exact HKEEP.out _ _ HOWN5.out HGR5.out
    clear hK K hHeld
    have hHeld := hNew
    clear hNew
    try simp only [Act.put, List.setIfInBounds_toArray, List.set_cons_zero, List.set_cons_succ]
    refine wpAnyH_take (i := 8) (oi := ⟨_, _, _, _, _, _⟩) (v := ?vay8) rfl (by kernel_rfl) (by kernel_rfl) (by kernel_rfl) (fun _ _ _ h => h) (Or.inl ⟨by rfl, ?hyay8⟩) hHeld ?_
    case hyay8 => (intro wS hSw; (try dsimp only at hSw); go_simp; (first | done | with_reducible rfl))
    try simp only [Act.put, List.setIfInBounds_toArray, List.set_cons_zero, List.set_cons_succ]
    refine wpAnyH_take (i := 9) (oi := ⟨_, _, _, _, _, _⟩) (v := ?vay9) rfl (by kernel_rfl) (by kernel_rfl) (by kernel_rfl) (fun _ _ _ h => h) (Or.inl ⟨by rfl, ?hyay9⟩) hHeld ?_
    case hyay9 => (intro wS hSw; (try dsimp only at hSw); go_simp; (first | done | with_reducible rfl))
    try simp only [Act.put, List.setIfInBounds_toArray, List.set_cons_zero, List.set_cons_succ]
    refine wpAnyH_ready (rs := [10]) (by kernel_rfl) (by simp) ?_
    refine AllReadyH.cons (o := ⟨_, _, _, _, _, _⟩) rfl (fun K hK => ?_) AllReadyH.nil
    go_simp
    refine hK.out _ _ ?kay10 (fun hNew => ?_)
    case kay10 => (try dsimp only); exact HKEEP2.out _ _ HOWN5.out HGR5.out
    clear hK K hHeld
    have hHeld := hNew
    clear hNew
    try simp only [Act.put, List.setIfInBounds_toArray, List.set_cons_zero, List.set_cons_succ]
    refine wpAnyH_done (by kernel_rfl) ?_ _
    refine NoPanic.normal ?_
    obtain ⟨_, hd6, hsb6, hsn6, hrow6, hos6, ha6, hbw6⟩ := HP.out
    have hr6 := hHeld.1
    clear hHeld HP d3 z3 HOWN5 HGR5
    generalize w5.setCell ⟨d, 3, none⟩ (.slice (some ⟨g2, 0, none⟩) (D.wr.length + 1) cap2) = w6 at hd6 hsb6 hsn6 hrow6 ha6 hbw6 hr6 ⊢
    have HD6 := Lib.hid hd6
    have HSN6 := Lib.hid hsn6
    have HALL := Lib.hid (And.intro hsb6 (And.intro hrow6 (And.intro hos6 (And.intro ha6 hbw6))))
    have hc2 : w6.drew.cell? ⟨d, 2, none⟩ = some (.map (some mn)) := cell_blk (w := w6.drew) hd6 2
    have HC2 := Lib.hid hc2
    have HR6 := Lib.hid hr6
    clear hd6 hsb6 hsn6 hrow6 hos6 ha6 hbw6 hr6 hc2 c3x c3y c3z
    go_wp2_with fail
    refine wp_region_noPanic ?_
    refine wp_region_held_drew (S := fun w' => w'.rangeAt g 0 (wrA i (pad l)).toList ∧ w'.cell? ⟨d, 2, none⟩ = some (.map (some mn))) (by kernel_rfl) ?hSayz (fun hHeld => ?_)
    case hSayz => exact ⟨(World.rangeAt_drew _ _ _ _).2 HR6.out, HC2.out⟩
    refine wpAnyH_take (i := 0) (oi := ⟨_, _, _, _, _, _⟩) (v := ?vayz0) rfl (by kernel_rfl) (by kernel_rfl) (by kernel_rfl) (fun _ _ _ h => h) (Or.inl ⟨by rfl, ?hyayz0⟩) hHeld ?_
    case hyayz0 => (intro wS hSw; (try dsimp only at hSw); go_simp; (first | done | with_reducible rfl))
    try simp only [Act.put, List.setIfInBounds_toArray, List.set_cons_zero, List.set_cons_succ]
    refine wpAnyH_take (i := 1) (oi := ⟨_, _, _, _, _, _⟩) (v := ?vayz1) rfl (by kernel_rfl) (by kernel_rfl) (by kernel_rfl) (fun _ _ _ h => h) (Or.inl ⟨by rfl, ?hyayz1⟩) hHeld ?_
    case hyayz1 => (intro wS hSw; (try dsimp only at hSw); go_simp; (first | done | with_reducible rfl))
    try simp only [Act.put, List.setIfInBounds_toArray, List.set_cons_zero, List.set_cons_succ]
    refine wpAnyH_take (i := 2) (oi := ⟨_, _, _, _, _, _⟩) (v := ?vayz2) rfl (by kernel_rfl) (by kernel_rfl) (by kernel_rfl) (fun _ _ _ h => h) (Or.inl ⟨by rfl, ?hyayz2⟩) hHeld ?_
    case hyayz2 => (intro wS hSw; (try dsimp only at hSw); go_simp; (first | done | with_reducible rfl))
    try simp only [Act.put, List.setIfInBounds_toArray, List.set_cons_zero, List.set_cons_succ]
    refine wpAnyH_take (i := 3) (oi := ⟨_, _, _, _, _, _⟩) (v := ?vayz3) rfl (by kernel_rfl) (by kernel_rfl) (by kernel_rfl) (fun _ _ _ h => h) (Or.inl ⟨by rfl, ?hyayz3⟩) hHeld ?_
    case hyayz3 => (intro wS hSw; (try dsimp only at hSw); go_simp; (first | done | with_reducible rfl))
    try simp only [Act.put, List.setIfInBounds_toArray, List.set_cons_zero, List.set_cons_succ]
    refine wpAnyH_take (i := 4) (oi := ⟨_, _, _, _, _, _⟩) (v := .agg (wrA i (pad l))) rfl (by kernel_rfl) (by kernel_rfl) (by kernel_rfl) (fun _ _ _ h => h) (yields_wr (by rfl) (.tmp 8) rfl g rfl i (pad l) HPL.out (fun w h => h.1)) hHeld ?_
    try simp only [Act.put, List.setIfInBounds_toArray, List.set_cons_zero, List.set_cons_succ]
    refine wpAnyH_ready (rs := [5]) (by kernel_rfl) (by simp) ?_
    refine AllReadyH.cons (o := ⟨_, _, _, _, _, _⟩) rfl (fun K hK => ?_) AllReadyH.nil
    go_simp
    refine (put_at mn D.n i D.now (pad l) _ hi h1 HPL.out (by exact HSN6.out.kept (drew_grown w6 none) (by simp))).mono ?_
    rintro e w7 ⟨rfl, hsn7, hg7⟩
    have HSN7 := Lib.hid hsn7
    have HG7 := Lib.hid ((drew_grown w6 (some mn)).andThen hg7 (fun _ hj => .inr hj))
    clear hsn7 hg7
    go_wp2_with fail
    refine hK.out _ _ ?kayz5 (fun hNew => ?_)
    case kayz5 => (try dsimp only); exact ⟨fun j v hv => HG7.out.cell (HR6.out j v hv) (fun e => by have := HMN.out; injection e with e; dsimp only at e; omega), (cell_blk ((HG7.out.block d (Array.getElem?_eq_some_iff.1 HD6.out).1 (fun e => by have := HSN6.out.ne HD6.out; injection e with e; exact this e.symm)).trans HD6.out) 2)⟩
    clear hK K hHeld
    have hHeld := hNew
    clear hNew
    try simp only [Act.put, List.setIfInBounds_toArray, List.set_cons_zero, List.set_cons_succ]
    refine wpAnyH_done (by kernel_rfl) ?_ _
    refine NoPanic.normal ?_
    go_wp2_with fail
    go_ret
    obtain ⟨hsb6, hrow6, hos6, ha6, hbw6⟩ := HALL.out
    have fin := disk_now (D := { (D : Dsk) with wr := D.wr ++ [(i, pad l)] }) h1 (fun p hp => by rcases List.mem_append.1 hp with hp | hp; exact H2.out p hp; rw [List.mem_singleton.1 hp]; exact ⟨hi, HPL.out⟩) HD6.out hB hmb hmn hne hsb6 HSN6.out hrow6 hos6 ha6 HG7.out HSN7.out
    exact ⟨rfl, fin.1, ((HB0.out.trans HB1.out).trans hbw6).trans fin.2⟩
set_option maxRecDepth 100000 in
set_option maxHeartbeats 4000000 in
theorem write_armed (S : Nat → Prop) (d i : Nat) (D : Dsk) (l : List UInt8) (A : Option Addr) (cap : Nat) (w : World) (h : DiskAt w S d D) (hr : RowB w S A l) (hS : ∀ b, w.heap.size ≤ b → S b) (hi : i < D.n) (ho : D.off = false) (hl : l.length ≤ 128) (k : Nat) (harm : D.armed = some (k + 1)) (hn : D.wr.length < 1000000) :
    Calls Try.prog 46 #[.pointer (some ⟨d, 0, none⟩), .int .i64 (i : Int), .slice A l.length cap] w fun e w' => e = .returned (.int .i64 0) ∧ DiskAt w' S d (({ D with armed := some k } : Dsk).push i (pad l)) ∧ Off S w w' := by
  have hask := asked_at S d D (i : Int) w h
  rw [show askedN D (i : Int) = 0 by unfold askedN; rw [if_neg (by simp [ho]), if_neg (by omega)]] at hask
  obtain ⟨h1, h2, mb, mn, sv, pa, hd, hB, hmb, hmn, hne, hsb, hsn, hrow, hos, ha⟩ := h
  have c4 : w.cell? ⟨d, 4, none⟩ = some (.pointer pa) := cell_blk hd 4
  have ha' := ha
  rw [harm] at ha'
  obtain ⟨ab, hpa, hab, hbb, hk⟩ := ha'
  subst hpa
  have cb : w.cell? ⟨ab, 0, none⟩ = some (.int .i64 ((k + 1 : Nat) : Int)) := cell_blk hbb 0
  have zb := frozen_blk hbb 0
  have dk0 : decide (((k + 1 : Nat) : Int) = 0) = false := by simp; omega
  have hsub : wrap64 (((k + 1 : Nat) : Int) - 1) = (k : Int) := by unfold wrap64; omega
  have d128 : decide ((128 : Int) < (l.length : Int)) = false := by simp; omega
  have hgs := grown_set w ab 0 (.int .i64 (k : Int))
  have hb0 : Off S w (w.setCell ⟨ab, 0, none⟩ (.int .i64 (k : Int))) := grown_off hgs hab
  have hrow' := row_kept hrow hgs (row_ne hrow hbb (by decide))
  have habd : d ≠ ab := by
    rintro rfl
    rw [hd] at hbb
    injection hbb with hbb
    injection hbb with _ hbb
    exact absurd hbb (by decide)
  have hd' := (hgs.block d (Array.getElem?_eq_some_iff.1 hd).1 (fun e => habd (Option.some.inj e))).trans hd
  have hsb' := hsb.kept hgs (fun e => hsb.ne hbb (Option.some.inj e))
  have hsn' := hsn.kept hgs (fun e => hsn.ne hbb (Option.some.inj e))
  have ha2 : ArmedAt (w.setCell ⟨ab, 0, none⟩ (.int .i64 (k : Int))) S (some ⟨ab, 0, none⟩) (some k) := ⟨ab, rfl, hab, by simpa using heap_setCell_same w ab 0 _ _ (.int .i64 (k : Int)) hbb, by omega⟩
  have hr' := hr.off hb0
  have HW0 := Lib.hid (And.intro hd' (And.intro hsb' (And.intro hsn' (And.intro hrow' ha2))))
  have HB0 := Lib.hid hb0
  have hs0 : (w.setCell ⟨ab, 0, none⟩ (.int .i64 (k : Int))).heap.size = w.heap.size := by simp
  have HS0 := Lib.hid hs0
  have HRW := Lib.hid (hr'.grown (wr0_grown _ i))
  have HTH : Hid ((wr0 (w.setCell ⟨ab, 0, none⟩ (.int .i64 (k : Int))) i).there w.heap.size 0 129) := by
    have := wr0_there (w.setCell ⟨ab, 0, none⟩ (.int .i64 (k : Int))) i
    rw [hs0] at this
    exact this
  have HA := Lib.hid hask
  have HL := Lib.hid hl
  have HPL := Lib.hid (pad_length l hl)
  have H2 := Lib.hid h2
  have hbw := build_wr
  have hzw := zero_wr
  clear hd hask hr ha hsb hsn hrow h2 hl hbb hgs hb0 hrow' hd' hsb' hsn' ha2 hr' hab hs0
  go_enter Try.func46, Try.ntmps46
  go_wp2_with fail
  refine HA.out.mono ?_
  rintro e w' ⟨rfl, rfl⟩
  go_wp2_with (first
    | (with_reducible show Go.wpList _ _ _ ((⟨_, .store _ _ _, _, _, _, _⟩ : Oper) :: _) _ _; refine wpList_store_wr0 rfl _ _ rfl i (w.setCell ⟨ab, 0, none⟩ (.int .i64 (k : Int))) w.heap.size HS0.out rfl rfl rfl ?_; generalize (wrA 0 noughts).setIfInBounds 0 _ = junk; go_frame)
    | go_in)
  rw [run_copy_sec _ _ w.heap.size S A l cap HL.out HRW.out HTH.out]
  simp only [Result.andThen]
  rw [Oper.upon_value]
  have hsz := laid_size (w.setCell ⟨ab, 0, none⟩ (.int .i64 (k : Int))) i l
  have hgr := laid_grown (w.setCell ⟨ab, 0, none⟩ (.int .i64 (k : Int))) i l
  have hld := laid (w.setCell ⟨ab, 0, none⟩ (.int .i64 (k : Int))) i l HL.out
  rw [HS0.out] at hsz hgr hld
  have hs0 : (w.setCell ⟨ab, 0, none⟩ (.int .i64 (k : Int))).heap.size = w.heap.size := HS0.out
  obtain ⟨g, hgq⟩ : ∃ g, g = w.heap.size := ⟨_, rfl⟩
  rw [← hgq] at hsz hgr hld hS ⊢
  generalize (wr0 (w.setCell ⟨ab, 0, none⟩ (.int .i64 (k : Int))) i).setCells g 1 (u8s l) = w1 at hsz hgr hld ⊢
  obtain ⟨hd, hsb, hsn, hrow, ha⟩ := HW0.out
  have hdlt := (Array.getElem?_eq_some_iff.1 hd).1
  have hown := hrow.lt
  have hmnlt := hsn.lt
  have HMN : Hid (mn < g ∧ d < g) := by show _ ∧ _; omega
  clear hmnlt
  have hd1 := (hgr.block d hdlt (by simp)).trans hd
  have hsb1 := hsb.kept hgr (by simp)
  have hsn1 := hsn.kept hgr (by simp)
  have hrow1 := row_grown hrow hgr
  have ha1 := ha.grown hgr
  have c3x : w1.drew.cell? ⟨d, 3, none⟩ = some sv := cell_blk (w := w1.drew) hd1 3
  have hgA := drew_alloc_grown w1 (.cells (wrA i (pad l)) 71) none
  have hdA := (hgA.block d (by omega) (by simp)).trans hd1
  have c3y : (w1.drew.alloc (.cells (wrA i (pad l)) 71)).cell? ⟨d, 3, none⟩ = some sv := cell_blk hdA 3
  have c3z : (w1.alloc (.cells (wrA i (pad l)) 71)).cell? ⟨d, 3, none⟩ = some sv := c3y
  have HLAID := Lib.hid hld
  have HG : Hid (g < w1.heap.size) := by show g < _; omega
  have hgd : g ≠ d := by omega
  have HROW := Lib.hid (row_grown hrow1 hgA)
  obtain ⟨i0, hi0, he0⟩ := Option.map_eq_some_iff.1 info_wr
  simp only [Prod.mk.injEq] at he0
  have HI0 := Lib.hid (And.intro hi0 he0)
  have HZW : Hid ((Value.agg (wrA 0 noughts)).cells.size = 129) := by show (wrA 0 noughts).size = 129; rw [wrA_size, noughts_length]
  have HLL : Hid ((wrA i (pad l)).toList.length = 1 * 129) := by show _ = _; rw [Array.length_toList, wrA_size, HPL.out]
  have HNEWS : Hid (∀ j u, (wrA i (pad l)).toList[j]? = some u → (w1.drew.alloc (.cells (wrA i (pad l)) 71)).cell? ((⟨w1.heap.size, 0, none⟩ : Addr).add j) = some u) := by
    intro j u hu
    have hadd : (⟨w1.heap.size, 0, none⟩ : Addr).add j = ⟨w1.heap.size, j, none⟩ := by unfold Addr.add; split <;> simp_all
    rw [hadd]
    have := cell_new w1.drew (wrA i (pad l)) 71 j
    exact this.trans (by simpa using hu)
  have HM1 : Hid (D.wr.length + 1 ≤ maxLen) := by show _ ≤ _; unfold maxLen; omega
  have HM2 : Hid ((D.wr.length + 1) * 136 ≤ 140737488355328) := by show _ ≤ _; omega
  have HBB : Hid (0 ≤ (w1.drew.alloc (.cells (wrA i (pad l)) 71)).heap.size) := Nat.zero_le _
  have HPUSH : Hid (∀ sv2 w5, w5.ownsRow 0 71 129 sv2 (D.wr.length + 1) (rows D.wr ++ (wrA i (pad l)).toList) → (w1.drew.alloc (.cells (wrA i (pad l)) 71)).grownBy w5 sv.ownBlock → (sv2.ownBlock = sv.ownBlock ∨ sv2.ownBlock = some (w1.drew.alloc (.cells (wrA i (pad l)) 71)).heap.size) → _) := fun sv2 w5 ho5 hg5 hob => DiskAt.push (w := w1) (D := { D with armed := some k }) (sv2 := sv2) hd1 hB hsb1 hsn1 hrow1 hos ha1 (fun b hb => hS b (by omega)) hgA ho5 hg5 hob
  have HKEEP : Hid (∀ (sv2 : Value) (w5 : World), w5.ownsRow 0 71 129 sv2 (D.wr.length + 1) (rows D.wr ++ (wrA i (pad l)).toList) → (w1.drew.alloc (.cells (wrA i (pad l)) 71)).grownBy w5 sv.ownBlock → w5.rangeAt g 0 (wrA i (pad l)).toList ∧ g < w5.heap.size) := by
    intro sv2 w5 _ hg5
    have hgs := hg5.size
    have hgA' := hgA.size
    refine ⟨fun j v hv => ?_, by omega⟩
    have hne5 : some g ≠ sv.ownBlock := fun e => by have := (hown g e.symm).2; omega
    exact hg5.cell (hgA.cell (hld j v hv) (by simp)) hne5
  have HKEEP2 : Hid (∀ (sv2 : Value) (w5 : World), w5.ownsRow 0 71 129 sv2 (D.wr.length + 1) (rows D.wr ++ (wrA i (pad l)).toList) → (w1.drew.alloc (.cells (wrA i (pad l)) 71)).grownBy w5 sv.ownBlock → (w5.setCell ⟨d, 3, none⟩ sv2).rangeAt g 0 (wrA i (pad l)).toList ∧ g < (w5.setCell ⟨d, 3, none⟩ sv2).heap.size) := by
    intro sv2 w5 ho5 hg5
    obtain ⟨hr5, hs5⟩ := HKEEP.out sv2 w5 ho5 hg5
    refine ⟨fun j v hv => ?_, by simpa using hs5⟩
    rw [World.cell?_setCell_other _ _ _ _ (by simp)]
    exact hr5 j v hv
  have hb1 : Off S (w.setCell ⟨ab, 0, none⟩ (.int .i64 (k : Int))) w1 := Off.of_grown hgr (by simp)
  have HB1 := Lib.hid hb1
  have HSZ := Lib.hid hsz
  have HGQ := Lib.hid hgq
  clear hs0 HRW HTH c4 HW0 hd hsb hsn hrow ha hdlt hown hd1 hsb1 hsn1 hrow1 ha1 hgA hdA hld hi0 he0 hb1 hgr hsz hgq
  clear hbw hzw
  go_wp2_with fail
  refine wp_region_noPanic ?_
  refine wp_region_held_drew (S := fun w' => w'.rangeAt g 0 (wrA i (pad l)).toList ∧ g < w'.heap.size) (by kernel_rfl) ?hSb (fun hHeld => ?_)
  case hSb => exact ⟨(World.rangeAt_drew _ _ _ _).2 HLAID.out, by simpa using HG.out⟩
  refine wpAnyH_take (i := 0) (oi := ⟨_, _, _, _, _, _⟩) (v := ?vb0) rfl (by kernel_rfl) (by kernel_rfl) (by kernel_rfl) (fun _ _ _ h => h) (Or.inl ⟨by rfl, ?hyb0⟩) hHeld ?_
  case hyb0 => (intro wS hSw; (try dsimp only at hSw); go_simp; (first | done | with_reducible rfl))
  try simp only [Act.put, List.setIfInBounds_toArray, List.set_cons_zero, List.set_cons_succ]
  refine wpAnyH_take (i := 1) (oi := ⟨_, _, _, _, _, _⟩) (v := ?vb1) rfl (by kernel_rfl) (by kernel_rfl) (by kernel_rfl) (fun _ _ _ h => h) (Or.inl ⟨by rfl, ?hyb1⟩) hHeld ?_
  case hyb1 => (intro wS hSw; (try dsimp only at hSw); go_simp; (first | done | with_reducible rfl))
  try simp only [Act.put, List.setIfInBounds_toArray, List.set_cons_zero, List.set_cons_succ]
  refine wpAnyH_take (i := 2) (oi := ⟨_, _, _, _, _, _⟩) (v := ?vb2) rfl (by kernel_rfl) (by kernel_rfl) (by kernel_rfl) (fun _ _ _ h => h) (Or.inl ⟨by rfl, ?hyb2⟩) hHeld ?_
  case hyb2 => (intro wS hSw; (try dsimp only at hSw); go_simp; (first | done | with_reducible rfl))
  try simp only [Act.put, List.setIfInBounds_toArray, List.set_cons_zero, List.set_cons_succ]
  refine wpAnyH_take (i := 3) (oi := ⟨_, _, _, _, _, _⟩) (v := ?vb3) rfl (by kernel_rfl) (by kernel_rfl) (by kernel_rfl) (fun _ _ _ h => h) (Or.inl ⟨by rfl, ?hyb3⟩) hHeld ?_
  case hyb3 => (intro wS hSw; (try dsimp only at hSw); go_simp; (first | done | with_reducible rfl))
  try simp only [Act.put, List.setIfInBounds_toArray, List.set_cons_zero, List.set_cons_succ]
  refine wpAnyH_take (i := 5) (oi := ⟨_, _, _, _, _, _⟩) (v := .agg (wrA i (pad l))) rfl (by kernel_rfl) (by kernel_rfl) (by kernel_rfl) (fun _ _ _ h => h) (yields_wr (by rfl) (.tmp 8) rfl g rfl i (pad l) HPL.out (fun w h => h.1)) hHeld ?_
  try simp only [Act.put, List.setIfInBounds_toArray, List.set_cons_zero, List.set_cons_succ]
  refine wpAnyH_ready (rs := [4, 6]) (by kernel_rfl) (by simp) ?_
  refine AllReadyH.cons (o := ⟨_, _, _, _, _, _⟩) rfl (fun K hK => ?_) (AllReadyH.cons (o := ⟨_, _, _, _, _, _⟩) rfl (fun K hK => ?_) AllReadyH.nil)
  · go_simp
    refine hK.out _ _ ?kbx4 (fun hNew => ?_)
    case kbx4 => (try dsimp only); exact hHeld
    clear hK K hHeld
    have hHeld := hNew
    clear hNew
    try simp only [Act.put, List.setIfInBounds_toArray, List.set_cons_zero, List.set_cons_succ]
    refine wpAnyH_ready (rs := [6]) (by kernel_rfl) (by simp) ?_
    refine AllReadyH.cons (o := ⟨_, _, _, _, _, _⟩) rfl (fun K hK => ?_) AllReadyH.nil
    refine step_wp rfl ?_
    refine wp_one_wr (.tmp 51) rfl i (pad l) HPL.out rfl ?_
    refine hK.out _ _ ?kbx6 (fun hNew => ?_)
    case kbx6 => (try dsimp only); exact ⟨World.rangeAt_alloc hHeld.1 _, by rw [World.size_alloc]; exact Nat.lt_succ_of_lt hHeld.2⟩
    clear hK K hHeld
    have hHeld := hNew
    clear hNew
    try simp only [Act.put, List.setIfInBounds_toArray, List.set_cons_zero, List.set_cons_succ]
    refine wpAnyH_ready (rs := [7]) (by kernel_rfl) (by simp) ?_
    refine AllReadyH.cons (o := ⟨_, _, _, _, _, _⟩) rfl (fun K hK => ?_) AllReadyH.nil
    refine step_append_own rfl (.tmp 50) (.tmp 52) 49 71 rfl i0 _ 129 136 Try.underlying49 HI0.out.1 HI0.out.2.1 HI0.out.2.2.1 HI0.out.2.2.2 HZW.out (by decide) 0 sv D.wr.length (rows D.wr) HROW.out rfl ⟨w1.heap.size, 0, none⟩ 1 1 (wrA i (pad l)).toList rfl HLL.out HNEWS.out (wrA_one i (pad l)) HM1.out HM2.out HBB.out ?_
    intro sv2 w5 hown5 hgr5 hob5
    obtain ⟨g2, cap2, rfl⟩ := row_shape hown5
    have HOWN5 := Lib.hid hown5
    have HGR5 := Lib.hid hgr5
    clear hown5 hgr5
    have hp := HPUSH.out _ w5 HOWN5.out HGR5.out hob5
    have d3 := cell_blk hp.1 3
    have z3 := frozen_blk hp.1 3
    have HP := Lib.hid hp
    clear hp
    refine hK.out _ _ ?kbx7 (fun hNew => ?_)
    case kbx7 => (try dsimp only); exact HKEEP.out _ _ HOWN5.out HGR5.out
    clear hK K hHeld
    have hHeld := hNew
    clear hNew
    try simp only [Act.put, List.setIfInBounds_toArray, List.set_cons_zero, List.set_cons_succ]
    refine wpAnyH_take (i := 8) (oi := ⟨_, _, _, _, _, _⟩) (v := ?vbx8) rfl (by kernel_rfl) (by kernel_rfl) (by kernel_rfl) (fun _ _ _ h => h) (Or.inl ⟨by rfl, ?hybx8⟩) hHeld ?_
    case hybx8 => (intro wS hSw; (try dsimp only at hSw); go_simp; (first | done | with_reducible rfl))
    try simp only [Act.put, List.setIfInBounds_toArray, List.set_cons_zero, List.set_cons_succ]
    refine wpAnyH_take (i := 9) (oi := ⟨_, _, _, _, _, _⟩) (v := ?vbx9) rfl (by kernel_rfl) (by kernel_rfl) (by kernel_rfl) (fun _ _ _ h => h) (Or.inl ⟨by rfl, ?hybx9⟩) hHeld ?_
    case hybx9 => (intro wS hSw; (try dsimp only at hSw); go_simp; (first | done | with_reducible rfl))
    try simp only [Act.put, List.setIfInBounds_toArray, List.set_cons_zero, List.set_cons_succ]
    refine wpAnyH_ready (rs := [10]) (by kernel_rfl) (by simp) ?_
    refine AllReadyH.cons (o := ⟨_, _, _, _, _, _⟩) rfl (fun K hK => ?_) AllReadyH.nil
    go_simp
    refine hK.out _ _ ?kbx10 (fun hNew => ?_)
    case kbx10 => (try dsimp only); exact HKEEP2.out _ _ HOWN5.out HGR5.out
    clear hK K hHeld
    have hHeld := hNew
    clear hNew
    try simp only [Act.put, List.setIfInBounds_toArray, List.set_cons_zero, List.set_cons_succ]
    refine wpAnyH_done (by kernel_rfl) ?_ _
    refine NoPanic.normal ?_
    obtain ⟨_, hd6, hsb6, hsn6, hrow6, hos6, ha6, hbw6⟩ := HP.out
    have hr6 := hHeld.1
    clear hHeld HP d3 z3 HOWN5 HGR5
    generalize w5.setCell ⟨d, 3, none⟩ (.slice (some ⟨g2, 0, none⟩) (D.wr.length + 1) cap2) = w6 at hd6 hsb6 hsn6 hrow6 ha6 hbw6 hr6 ⊢
    have HD6 := Lib.hid hd6
    have HSN6 := Lib.hid hsn6
    have HALL := Lib.hid (And.intro hsb6 (And.intro hrow6 (And.intro hos6 (And.intro ha6 hbw6))))
    have hc2 : w6.drew.cell? ⟨d, 2, none⟩ = some (.map (some mn)) := cell_blk (w := w6.drew) hd6 2
    have HC2 := Lib.hid hc2
    have HR6 := Lib.hid hr6
    clear hd6 hsb6 hsn6 hrow6 hos6 ha6 hbw6 hr6 hc2 c3x c3y c3z
    go_wp2_with fail
    refine wp_region_noPanic ?_
    refine wp_region_held_drew (S := fun w' => w'.rangeAt g 0 (wrA i (pad l)).toList ∧ w'.cell? ⟨d, 2, none⟩ = some (.map (some mn))) (by kernel_rfl) ?hSbxz (fun hHeld => ?_)
    case hSbxz => exact ⟨(World.rangeAt_drew _ _ _ _).2 HR6.out, HC2.out⟩
    refine wpAnyH_take (i := 0) (oi := ⟨_, _, _, _, _, _⟩) (v := ?vbxz0) rfl (by kernel_rfl) (by kernel_rfl) (by kernel_rfl) (fun _ _ _ h => h) (Or.inl ⟨by rfl, ?hybxz0⟩) hHeld ?_
    case hybxz0 => (intro wS hSw; (try dsimp only at hSw); go_simp; (first | done | with_reducible rfl))
    try simp only [Act.put, List.setIfInBounds_toArray, List.set_cons_zero, List.set_cons_succ]
    refine wpAnyH_take (i := 1) (oi := ⟨_, _, _, _, _, _⟩) (v := ?vbxz1) rfl (by kernel_rfl) (by kernel_rfl) (by kernel_rfl) (fun _ _ _ h => h) (Or.inl ⟨by rfl, ?hybxz1⟩) hHeld ?_
    case hybxz1 => (intro wS hSw; (try dsimp only at hSw); go_simp; (first | done | with_reducible rfl))
    try simp only [Act.put, List.setIfInBounds_toArray, List.set_cons_zero, List.set_cons_succ]
    refine wpAnyH_take (i := 2) (oi := ⟨_, _, _, _, _, _⟩) (v := ?vbxz2) rfl (by kernel_rfl) (by kernel_rfl) (by kernel_rfl) (fun _ _ _ h => h) (Or.inl ⟨by rfl, ?hybxz2⟩) hHeld ?_
    case hybxz2 => (intro wS hSw; (try dsimp only at hSw); go_simp; (first | done | with_reducible rfl))
    try simp only [Act.put, List.setIfInBounds_toArray, List.set_cons_zero, List.set_cons_succ]
    refine wpAnyH_take (i := 3) (oi := ⟨_, _, _, _, _, _⟩) (v := ?vbxz3) rfl (by kernel_rfl) (by kernel_rfl) (by kernel_rfl) (fun _ _ _ h => h) (Or.inl ⟨by rfl, ?hybxz3⟩) hHeld ?_
    case hybxz3 => (intro wS hSw; (try dsimp only at hSw); go_simp; (first | done | with_reducible rfl))
    try simp only [Act.put, List.setIfInBounds_toArray, List.set_cons_zero, List.set_cons_succ]
    refine wpAnyH_take (i := 4) (oi := ⟨_, _, _, _, _, _⟩) (v := .agg (wrA i (pad l))) rfl (by kernel_rfl) (by kernel_rfl) (by kernel_rfl) (fun _ _ _ h => h) (yields_wr (by rfl) (.tmp 8) rfl g rfl i (pad l) HPL.out (fun w h => h.1)) hHeld ?_
    try simp only [Act.put, List.setIfInBounds_toArray, List.set_cons_zero, List.set_cons_succ]
    refine wpAnyH_ready (rs := [5]) (by kernel_rfl) (by simp) ?_
    refine AllReadyH.cons (o := ⟨_, _, _, _, _, _⟩) rfl (fun K hK => ?_) AllReadyH.nil
    go_simp
    refine (put_at mn D.n i D.now (pad l) _ hi h1 HPL.out (by exact HSN6.out.kept (drew_grown w6 none) (by simp))).mono ?_
    rintro e w7 ⟨rfl, hsn7, hg7⟩
    have HSN7 := Lib.hid hsn7
    have HG7 := Lib.hid ((drew_grown w6 (some mn)).andThen hg7 (fun _ hj => .inr hj))
    clear hsn7 hg7
    go_wp2_with fail
    refine hK.out _ _ ?kbxz5 (fun hNew => ?_)
    case kbxz5 => (try dsimp only); exact ⟨fun j v hv => HG7.out.cell (HR6.out j v hv) (fun e => by have := HMN.out; injection e with e; dsimp only at e; omega), (cell_blk ((HG7.out.block d (Array.getElem?_eq_some_iff.1 HD6.out).1 (fun e => by have := HSN6.out.ne HD6.out; injection e with e; exact this e.symm)).trans HD6.out) 2)⟩
    clear hK K hHeld
    have hHeld := hNew
    clear hNew
    try simp only [Act.put, List.setIfInBounds_toArray, List.set_cons_zero, List.set_cons_succ]
    refine wpAnyH_done (by kernel_rfl) ?_ _
    refine NoPanic.normal ?_
    go_wp2_with fail
    go_ret
    obtain ⟨hsb6, hrow6, hos6, ha6, hbw6⟩ := HALL.out
    have fin := disk_now (D := { ({ D with armed := some k } : Dsk) with wr := D.wr ++ [(i, pad l)] }) h1 (fun p hp => by rcases List.mem_append.1 hp with hp | hp; exact H2.out p hp; rw [List.mem_singleton.1 hp]; exact ⟨hi, HPL.out⟩) HD6.out hB hmb hmn hne hsb6 HSN6.out hrow6 hos6 ha6 HG7.out HSN7.out
    exact ⟨rfl, fin.1, ((HB0.out.trans HB1.out).trans hbw6).trans fin.2⟩
  · refine step_wp rfl ?_
    refine wp_one_wr (.tmp 51) rfl i (pad l) HPL.out rfl ?_
    refine hK.out _ _ ?kby6 (fun hNew => ?_)
    case kby6 => (try dsimp only); exact ⟨World.rangeAt_alloc hHeld.1 _, by rw [World.size_alloc]; exact Nat.lt_succ_of_lt hHeld.2⟩
    clear hK K hHeld
    have hHeld := hNew
    clear hNew
    try simp only [Act.put, List.setIfInBounds_toArray, List.set_cons_zero, List.set_cons_succ]
    refine wpAnyH_ready (rs := [4]) (by kernel_rfl) (by simp) ?_
    refine AllReadyH.cons (o := ⟨_, _, _, _, _, _⟩) rfl (fun K hK => ?_) AllReadyH.nil
    go_simp
    refine hK.out _ _ ?kby4 (fun hNew => ?_)
    case kby4 => (try dsimp only); exact hHeld
    clear hK K hHeld
    have hHeld := hNew
    clear hNew
    try simp only [Act.put, List.setIfInBounds_toArray, List.set_cons_zero, List.set_cons_succ]
    refine wpAnyH_ready (rs := [7]) (by kernel_rfl) (by simp) ?_
    refine AllReadyH.cons (o := ⟨_, _, _, _, _, _⟩) rfl (fun K hK => ?_) AllReadyH.nil
    refine step_append_own rfl (.tmp 50) (.tmp 52) 49 71 rfl i0 _ 129 136 Try.underlying49 HI0.out.1 HI0.out.2.1 HI0.out.2.2.1 HI0.out.2.2.2 HZW.out (by decide) 0 sv D.wr.length (rows D.wr) HROW.out rfl ⟨w1.heap.size, 0, none⟩ 1 1 (wrA i (pad l)).toList rfl HLL.out HNEWS.out (wrA_one i (pad l)) HM1.out HM2.out HBB.out ?_
    intro sv2 w5 hown5 hgr5 hob5
    obtain ⟨g2, cap2, rfl⟩ := row_shape hown5
    have HOWN5 := Lib.hid hown5
    have HGR5 := Lib.hid hgr5
    clear hown5 hgr5
    have hp := HPUSH.out _ w5 HOWN5.out HGR5.out hob5
    have d3 := cell_blk hp.1 3
    have z3 := frozen_blk hp.1 3
    have HP := Lib.hid hp
    clear hp
    refine hK.out _ _ ?kby7 (fun hNew => ?_)
    case kby7 => (try dsimp only); exact HKEEP.out _ _ HOWN5.out HGR5.out
    clear hK K hHeld
    have hHeld := hNew
    clear hNew
    try simp only [Act.put, List.setIfInBounds_toArray, List.set_cons_zero, List.set_cons_succ]
    refine wpAnyH_take (i := 8) (oi := ⟨_, _, _, _, _, _⟩) (v := ?vby8) rfl (by kernel_rfl) (by kernel_rfl) (by kernel_rfl) (fun _ _ _ h => h) (Or.inl ⟨by rfl, ?hyby8⟩) hHeld ?_
    case hyby8 => (intro wS hSw; (try dsimp only at hSw); go_simp; (first | done | with_reducible rfl))
    try simp only [Act.put, List.setIfInBounds_toArray, List.set_cons_zero, List.set_cons_succ]
    refine wpAnyH_take (i := 9) (oi := ⟨_, _, _, _, _, _⟩) (v := ?vby9) rfl (by kernel_rfl) (by kernel_rfl) (by kernel_rfl) (fun _ _ _ h => h) (Or.inl ⟨by rfl, ?hyby9⟩) hHeld ?_
    case hyby9 => (intro wS hSw; (try dsimp only at hSw); go_simp; (first | done | with_reducible rfl))
    try simp only [Act.put, List.setIfInBounds_toArray, List.set_cons_zero, List.set_cons_succ]
    refine wpAnyH_ready (rs := [10]) (by kernel_rfl) (by simp) ?_
    refine AllReadyH.cons (o := ⟨_, _, _, _, _, _⟩) rfl (fun K hK => ?_) AllReadyH.nil
    go_simp
    refine hK.out _ _ ?kby10 (fun hNew => ?_)
    case kby10 => (try dsimp only); exact HKEEP2.out _ _ HOWN5.out HGR5.out
    clear hK K hHeld
    have hHeld := hNew
    clear hNew
    try simp only [Act.put, List.setIfInBounds_toArray, List.set_cons_zero, List.set_cons_succ]
    refine wpAnyH_done (by kernel_rfl) ?_ _
    refine NoPanic.normal ?_
    obtain ⟨_, hd6, hsb6, hsn6, hrow6, hos6, ha6, hbw6⟩ := HP.out
    have hr6 := hHeld.1
    clear hHeld HP d3 z3 HOWN5 HGR5
    generalize w5.setCell ⟨d, 3, none⟩ (.slice (some ⟨g2, 0, none⟩) (D.wr.length + 1) cap2) = w6 at hd6 hsb6 hsn6 hrow6 ha6 hbw6 hr6 ⊢
    have HD6 := Lib.hid hd6
    have HSN6 := Lib.hid hsn6
    have HALL := Lib.hid (And.intro hsb6 (And.intro hrow6 (And.intro hos6 (And.intro ha6 hbw6))))
    have hc2 : w6.drew.cell? ⟨d, 2, none⟩ = some (.map (some mn)) := cell_blk (w := w6.drew) hd6 2
    have HC2 := Lib.hid hc2
    have HR6 := Lib.hid hr6
    clear hd6 hsb6 hsn6 hrow6 hos6 ha6 hbw6 hr6 hc2 c3x c3y c3z
    go_wp2_with fail
    refine wp_region_noPanic ?_
    refine wp_region_held_drew (S := fun w' => w'.rangeAt g 0 (wrA i (pad l)).toList ∧ w'.cell? ⟨d, 2, none⟩ = some (.map (some mn))) (by kernel_rfl) ?hSbyz (fun hHeld => ?_)
    case hSbyz => exact ⟨(World.rangeAt_drew _ _ _ _).2 HR6.out, HC2.out⟩
    refine wpAnyH_take (i := 0) (oi := ⟨_, _, _, _, _, _⟩) (v := ?vbyz0) rfl (by kernel_rfl) (by kernel_rfl) (by kernel_rfl) (fun _ _ _ h => h) (Or.inl ⟨by rfl, ?hybyz0⟩) hHeld ?_
    case hybyz0 => (intro wS hSw; (try dsimp only at hSw); go_simp; (first | done | with_reducible rfl))
    try simp only [Act.put, List.setIfInBounds_toArray, List.set_cons_zero, List.set_cons_succ]
    refine wpAnyH_take (i := 1) (oi := ⟨_, _, _, _, _, _⟩) (v := ?vbyz1) rfl (by kernel_rfl) (by kernel_rfl) (by kernel_rfl) (fun _ _ _ h => h) (Or.inl ⟨by rfl, ?hybyz1⟩) hHeld ?_
    case hybyz1 => (intro wS hSw; (try dsimp only at hSw); go_simp; (first | done | with_reducible rfl))
    try simp only [Act.put, List.setIfInBounds_toArray, List.set_cons_zero, List.set_cons_succ]
    refine wpAnyH_take (i := 2) (oi := ⟨_, _, _, _, _, _⟩) (v := ?vbyz2) rfl (by kernel_rfl) (by kernel_rfl) (by kernel_rfl) (fun _ _ _ h => h) (Or.inl ⟨by rfl, ?hybyz2⟩) hHeld ?_
    case hybyz2 => (intro wS hSw; (try dsimp only at hSw); go_simp; (first | done | with_reducible rfl))
    try simp only [Act.put, List.setIfInBounds_toArray, List.set_cons_zero, List.set_cons_succ]
    refine wpAnyH_take (i := 3) (oi := ⟨_, _, _, _, _, _⟩) (v := ?vbyz3) rfl (by kernel_rfl) (by kernel_rfl) (by kernel_rfl) (fun _ _ _ h => h) (Or.inl ⟨by rfl, ?hybyz3⟩) hHeld ?_
    case hybyz3 => (intro wS hSw; (try dsimp only at hSw); go_simp; (first | done | with_reducible rfl))
    try simp only [Act.put, List.setIfInBounds_toArray, List.set_cons_zero, List.set_cons_succ]
    refine wpAnyH_take (i := 4) (oi := ⟨_, _, _, _, _, _⟩) (v := .agg (wrA i (pad l))) rfl (by kernel_rfl) (by kernel_rfl) (by kernel_rfl) (fun _ _ _ h => h) (yields_wr (by rfl) (.tmp 8) rfl g rfl i (pad l) HPL.out (fun w h => h.1)) hHeld ?_
    try simp only [Act.put, List.setIfInBounds_toArray, List.set_cons_zero, List.set_cons_succ]
    refine wpAnyH_ready (rs := [5]) (by kernel_rfl) (by simp) ?_
    refine AllReadyH.cons (o := ⟨_, _, _, _, _, _⟩) rfl (fun K hK => ?_) AllReadyH.nil
    go_simp
    refine (put_at mn D.n i D.now (pad l) _ hi h1 HPL.out (by exact HSN6.out.kept (drew_grown w6 none) (by simp))).mono ?_
    rintro e w7 ⟨rfl, hsn7, hg7⟩
    have HSN7 := Lib.hid hsn7
    have HG7 := Lib.hid ((drew_grown w6 (some mn)).andThen hg7 (fun _ hj => .inr hj))
    clear hsn7 hg7
    go_wp2_with fail
    refine hK.out _ _ ?kbyz5 (fun hNew => ?_)
    case kbyz5 => (try dsimp only); exact ⟨fun j v hv => HG7.out.cell (HR6.out j v hv) (fun e => by have := HMN.out; injection e with e; dsimp only at e; omega), (cell_blk ((HG7.out.block d (Array.getElem?_eq_some_iff.1 HD6.out).1 (fun e => by have := HSN6.out.ne HD6.out; injection e with e; exact this e.symm)).trans HD6.out) 2)⟩
    clear hK K hHeld
    have hHeld := hNew
    clear hNew
    try simp only [Act.put, List.setIfInBounds_toArray, List.set_cons_zero, List.set_cons_succ]
    refine wpAnyH_done (by kernel_rfl) ?_ _
    refine NoPanic.normal ?_
    go_wp2_with fail
    go_ret
    obtain ⟨hsb6, hrow6, hos6, ha6, hbw6⟩ := HALL.out
    have fin := disk_now (D := { ({ D with armed := some k } : Dsk) with wr := D.wr ++ [(i, pad l)] }) h1 (fun p hp => by rcases List.mem_append.1 hp with hp | hp; exact H2.out p hp; rw [List.mem_singleton.1 hp]; exact ⟨hi, HPL.out⟩) HD6.out hB hmb hmn hne hsb6 HSN6.out hrow6 hos6 ha6 HG7.out HSN7.out
    exact ⟨rfl, fin.1, ((HB0.out.trans HB1.out).trans hbw6).trans fin.2⟩
end Go.Proofs.Ytgdedgfohjplmaa.Sec

/- sectors.Write, all cases under one statement; sectors.Read, likewise. -/
namespace Go.Proofs.Ytgdedgfohjplmaa.Sec
open Go.RowKit Go.Maps

/-- What a write answers, and the disk behind it. -/
def wrote (D : Dsk) (i : Int) (l : List UInt8) : Int × Dsk :=
  if askedN D i ≠ 0 then (askedN D i, D)
  else if 128 < l.length then (3, D)
  else match D.armed with
    | none => (0, D.push i.toNat (pad l))
    | some 0 => (20, { D with armed := none, off := true })
    | some (k + 1) => (0, ({ D with armed := some k } : Dsk).push i.toNat (pad l))

set_option maxRecDepth 100000 in
theorem askedN_cases (D : Dsk) (i : Int) : askedN D i = 20 ∨ askedN D i = 2 ∨ (askedN D i = 0 ∧ D.off = false ∧ 0 ≤ i ∧ i.toNat < D.n) := by
  unfold askedN
  by_cases h1 : D.off = true
  · exact .inl (by rw [if_pos h1])
  · rw [if_neg h1]
    by_cases h2 : i < 0 ∨ (D.n : Int) ≤ i
    · exact .inr (.inl (by rw [if_pos h2]))
    · exact .inr (.inr ⟨by rw [if_neg h2], by simpa using h1, by omega, by omega⟩)

set_option maxRecDepth 100000 in
set_option maxHeartbeats 2000000 in
theorem write_refused (S : Nat → Prop) (d : Nat) (i x : Int) (D : Dsk) (l : List UInt8) (A : Option Addr) (cap : Nat) (w : World) (h : DiskAt w S d D) (hx : askedN D i = x) (hx0 : x = 20 ∨ x = 2) :
    Calls Try.prog 46 #[.pointer (some ⟨d, 0, none⟩), .int .i64 i, .slice A l.length cap] w fun e w' => e = .returned (.int .i64 x) ∧ w = w' := by
  have hask := asked_at S d D i w h
  rw [hx] at hask
  have HA := Lib.hid hask
  clear hask h hx
  rcases hx0 with rfl | rfl <;>
  · go_enter Try.func46, Try.ntmps46
    go_wp2_with fail
    refine HA.out.mono ?_
    rintro e w' ⟨rfl, rfl⟩
    go_wp2_with fail
    go_ret
    exact ⟨rfl, rfl⟩

set_option maxRecDepth 100000 in
set_option maxHeartbeats 2000000 in
theorem write_long (S : Nat → Prop) (d : Nat) (i : Int) (D : Dsk) (l : List UInt8) (A : Option Addr) (cap : Nat) (w : World) (h : DiskAt w S d D) (hx : askedN D i = 0) (hl : 128 < l.length) :
    Calls Try.prog 46 #[.pointer (some ⟨d, 0, none⟩), .int .i64 i, .slice A l.length cap] w fun e w' => e = .returned (.int .i64 3) ∧ w = w' := by
  have hask := asked_at S d D i w h
  rw [hx] at hask
  have d128 : decide ((128 : Int) < (l.length : Int)) = true := by simp; omega
  have HA := Lib.hid hask
  clear hask h hx hl
  go_enter Try.func46, Try.ntmps46
  go_wp2_with fail
  refine HA.out.mono ?_
  rintro e w' ⟨rfl, rfl⟩
  go_wp2_with fail
  go_ret
  exact ⟨rfl, rfl⟩

set_option maxRecDepth 100000 in
set_option maxHeartbeats 2000000 in
theorem write_dies (S : Nat → Prop) (d : Nat) (i : Int) (D : Dsk) (l : List UInt8) (A : Option Addr) (cap : Nat) (w : World) (h : DiskAt w S d D) (hx : askedN D i = 0) (hl : l.length ≤ 128) (harm : D.armed = some 0) :
    Calls Try.prog 46 #[.pointer (some ⟨d, 0, none⟩), .int .i64 i, .slice A l.length cap] w fun e w' => e = .returned (.int .i64 20) ∧ DiskAt w' S d { D with armed := none, off := true } ∧ Off S w w' := by
  have hask := asked_at S d D i w h
  have hcr := crash_at S d D w h
  rw [hx] at hask
  have d128 : decide ((128 : Int) < (l.length : Int)) = false := by simp; omega
  have HA := Lib.hid hask
  have HC := Lib.hid hcr
  obtain ⟨h1, h2, mb, mn, sv, pa, hd, hB, hmb, hmn, hne, hsb, hsn, hrow, hos, ha⟩ := h
  have c4 : w.cell? ⟨d, 4, none⟩ = some (.pointer pa) := cell_blk hd 4
  rw [harm] at ha
  obtain ⟨ab, rfl, hab, hbb, hk⟩ := ha
  have cb : w.cell? ⟨ab, 0, none⟩ = some (.int .i64 ((0 : Nat) : Int)) := cell_blk hbb 0
  clear hask hcr hx hl hd hsb hsn hrow h2 hbb
  go_enter Try.func46, Try.ntmps46
  go_wp2_with fail
  refine HA.out.mono ?_
  rintro e w' ⟨rfl, rfl⟩
  go_wp2_with fail
  refine HC.out.mono ?_
  rintro e w' ⟨rfl, hdk, hb⟩
  have HD := Lib.hid hdk
  have HB := Lib.hid hb
  clear hdk hb
  go_wp2_with fail
  go_ret
  exact ⟨rfl, HD.out, HB.out⟩

set_option maxRecDepth 100000 in
/-- A WRITE. -/
theorem write_at (S : Nat → Prop) (d : Nat) (i : Int) (D : Dsk) (l : List UInt8) (A : Option Addr) (cap : Nat) (w : World) (h : DiskAt w S d D) (hr : RowB w S A l) (hS : ∀ b, w.heap.size ≤ b → S b) (hn : D.wr.length < 1000000) :
    Calls Try.prog 46 #[.pointer (some ⟨d, 0, none⟩), .int .i64 i, .slice A l.length cap] w fun e w' => e = .returned (.int .i64 (wrote D i l).1) ∧ DiskAt w' S d (wrote D i l).2 ∧ Off S w w' := by
  rcases askedN_cases D i with hx | hx | ⟨hx, ho, hi0, hi⟩
  · refine (write_refused S d i 20 D l A cap w h hx (.inl rfl)).mono ?_
    rintro e w' ⟨rfl, rfl⟩
    unfold wrote
    rw [if_pos (by rw [hx]; decide), hx]
    exact ⟨rfl, h, Off.refl _ _⟩
  · refine (write_refused S d i 2 D l A cap w h hx (.inr rfl)).mono ?_
    rintro e w' ⟨rfl, rfl⟩
    unfold wrote
    rw [if_pos (by rw [hx]; decide), hx]
    exact ⟨rfl, h, Off.refl _ _⟩
  · unfold wrote
    rw [if_neg (by simpa using hx)]
    by_cases hl : 128 < l.length
    · rw [if_pos hl]
      refine (write_long S d i D l A cap w h hx hl).mono ?_
      rintro e w' ⟨rfl, rfl⟩
      exact ⟨rfl, h, Off.refl _ _⟩
    · rw [if_neg hl]
      obtain ⟨j, rfl⟩ : ∃ j : Nat, i = j := ⟨i.toNat, by omega⟩
      rw [Int.toNat_natCast] at hi ⊢
      cases harm : D.armed with
      | none => exact write_plain S d j D l A cap w h hr hS hi ho (by omega) harm hn
      | some k =>
        cases k with
        | zero => exact write_dies S d j D l A cap w h hx (by omega) harm
        | succ k => exact write_armed S d j D l A cap w h hr hS hi ho (by omega) k harm hn

/-! ## Read -/
/-- A block of its own holds the bytes l. -/
def Told (w w' : World) (A : Option Addr) (l : List UInt8) : Prop := A = some ⟨w.heap.size, 0, none⟩ ∧ w'.rangeAt w.heap.size 0 (u8s l) ∧ w.grownBy w' none
set_option maxRecDepth 100000 in
set_option maxHeartbeats 2000000 in
theorem read_refused (S : Nat → Prop) (d : Nat) (i x : Int) (D : Dsk) (w : World) (h : DiskAt w S d D) (hx : askedN D i = x) (hx0 : x = 20 ∨ x = 2) :
    Calls Try.prog 42 #[.pointer (some ⟨d, 0, none⟩), .int .i64 i] w fun e w' => e = .returned (.tuple #[.slice none 0 0, .int .i64 x]) ∧ w = w' := by
  have hask := asked_at S d D i w h
  rw [hx] at hask
  have HA := Lib.hid hask
  clear hask h hx
  rcases hx0 with rfl | rfl <;>
  · go_enter Try.func42, Try.ntmps42
    go_wp2_with fail
    refine HA.out.mono ?_
    rintro e w' ⟨rfl, rfl⟩
    go_wp2_with fail
    go_ret2
    exact ⟨rfl, rfl⟩
set_option maxRecDepth 100000 in
/-- A READ of a sector that is there. -/
theorem read_told (S : Nat → Prop) (d i : Nat) (D : Dsk) (w : World) (h : DiskAt w S d D) (hi : i < D.n) (ho : D.off = false) :
    Calls Try.prog 42 #[.pointer (some ⟨d, 0, none⟩), .int .i64 (i : Int)] w fun e w' => e = .returned (.tuple #[.slice (some ⟨w.heap.size, 0, none⟩) 128 128, .int .i64 0]) ∧ (D.now i).length = 128 ∧ w'.rangeAt w.heap.size 0 (u8s (D.now i)) ∧ w'.heap.size = w.heap.size + 1 ∧ w.grownBy w' none ∧ DiskAt w' S d D := by
  refine (read_ok S d i D w h hi ho).mono ?_
  rintro e w' ⟨rfl, rfl⟩
  have hl : (D.now i).length = 128 := by
    obtain ⟨h1, _, mb, mn, sv, pa, hd, _, _, _, _, _, hsn, _⟩ := h
    exact (look_at hsn hi h1).1
  have hg := grown_new w (.cells (u8s noughts).toArray 65) (u8s (D.now i)) 0
  refine ⟨rfl, hl, range_new w _ _ _ (by simp [u8s_length, noughts_length, hl]), ?_, hg, h.grown hg⟩
  have h2 : ∀ (vs : List Value) (o : Nat) (w : World) (b : Nat), (w.setCells b o vs).heap.size = w.heap.size := by
    intro vs
    induction vs with
    | nil => intro _ _ _; rfl
    | cons v r ih => intro o w b; simp [World.setCells, ih]
  rw [h2, World.size_alloc]
end Go.Proofs.Ytgdedgfohjplmaa.Sec

/- A disk forgets its writes: sectors.Settle. -/
namespace Go.Proofs.Ytgdedgfohjplmaa.Sec
open Go.RowKit Go.Maps

set_option maxRecDepth 100000 in
theorem cleared {w : World} {b N : Nat} {f : Nat → List UInt8} (h : SecMap w b N f) :
    ∃ w', (∀ ty, (Builtin.clear_ #[48] ty #[.map (some b)]).run Try.prog w = .ok (.tuple #[]) w') ∧ w'.ownsMap Try.prog 3 secR b 0 (.map []) ∧ w.grownBy w' (some b) := by
  obtain ⟨n, D, _, ⟨es, clock, hb, F, hs, hD⟩, _⟩ := h
  have hset := MapKept.heap_set (o' := .map #[] clock) hb
  refine ⟨{ w with heap := w.heap.setIfInBounds b (.map #[] clock) }, fun ty => ?_, ⟨#[], clock, ?_, ⟨by simp, MapKept.stamped_empty clock, by simp⟩, Nat.le_refl _, rfl⟩, ?_⟩
  · simp [Builtin.clear_, run_underlying Try.underlying48, MapKept.run_getObj_map hb, MapKept.run_setObj_map _ hb, Result.andThen]
  · exact hset.1
  · exact ⟨rfl, rfl, rfl, by simp, fun k hk hne => by simp [Array.getElem?_setIfInBounds]; intro e; exact absurd (by rw [e]) hne⟩

set_option maxRecDepth 100000 in
theorem row_of_map {w w' : World} {B n m N : Nat} {sv : Value} {xs : List Value} {f : Nat → List UInt8} (h : w.ownsRow B 71 129 sv n xs) (hm : SecMap w m N f) (hg : w.grownBy w' (some m)) : w'.ownsRow B 71 129 sv n xs := by
  refine row_kept h hg ?_
  intro e
  obtain ⟨_, ⟨rfl, _⟩ | ⟨g, cap, cur, rfl, _, hb, _⟩⟩ := h
  · simp [Value.ownBlock] at e
  · simp [Value.ownBlock] at e
    subst e
    exact hm.ne hb rfl
set_option maxRecDepth 100000 in
theorem ArmedAt.of_map {w w' : World} {S : Nat → Prop} {m N : Nat} {pa : Option Addr} {k : Option Nat} {f : Nat → List UInt8} (h : ArmedAt w S pa k) (hm : SecMap w m N f) (hg : w.grownBy w' (some m)) : ArmedAt w' S pa k := by
  cases k with
  | none => exact h
  | some k =>
    obtain ⟨b, e, hB, hb, hk⟩ := h
    exact ⟨b, e, hB, (hg.block b (Array.getElem?_eq_some_iff.1 hb).1 (fun x => hm.ne hb (Option.some.inj x).symm)).trans hb, hk⟩

set_option maxRecDepth 100000 in
set_option maxHeartbeats 4000000 in
theorem settle_at (S : Nat → Prop) (d : Nat) (D : Dsk) (w : World) (h : DiskAt w S d D) :
    Calls Try.prog 12 #[.pointer (some ⟨d, 0, none⟩)] w fun e w' => e = .returned (.tuple #[]) ∧ DiskAt w' S d { D with base := D.now, wr := [] } ∧ Off S w w' := by
  obtain ⟨h1, h2, mb, mn, sv, pa, hd, hB, hmb, hmn, hne, hsb, hsn, hrow, hos, ha⟩ := h
  obtain ⟨w1, hcl, hown, hg1⟩ := cleared hsb
  have c1 : w.cell? ⟨d, 1, none⟩ = some (.map (some mb)) := cell_blk hd 1
  have hdb : d ≠ mb := fun e => hsb.ne hd e.symm
  have hdn : d ≠ mn := fun e => hsn.ne hd e.symm
  have hdlt := (Array.getElem?_eq_some_iff.1 hd).1
  have hd1 := (hg1.block d hdlt (fun e => hdb (Option.some.inj e))).trans hd
  have hsn1 := hsn.kept hg1 (fun e => hne (Option.some.inj e).symm)
  have hrow1 := row_of_map hrow hsb hg1
  have ha1 := ha.of_map hsb hg1
  have hb1 := grown_off hg1 hmb
  have HNE := Lib.hid (And.intro hdb hdn)
  have HCL := Lib.hid (And.intro hown hb1)
  have HSN1 := Lib.hid hsn1
  have HD1 := Lib.hid hd1
  have HROW1 := Lib.hid (And.intro hrow1 ha1)
  have HG1 := Lib.hid hg1
  have H1 : Hid (w1.drew.cell? ⟨d, 1, none⟩ = some (.map (some mb))) := cell_blk (w := w1.drew) hd1 1
  have H2 : Hid (w1.drew.cell? ⟨d, 2, none⟩ = some (.map (some mn))) := cell_blk (w := w1.drew) hd1 2
  clear hd hsb hsn hrow ha h2 hown hg1 hd1 hsn1 hrow1 ha1 hb1 hdb hdn
  go_enter Try.func12, Try.ntmps12
  go_wp2_with fail
  refine wp_region_noPanic ?_
  refine wp_region_held_drew (S := fun w' => w'.cell? ⟨d, 1, none⟩ = some (.map (some mb)) ∧ w'.cell? ⟨d, 2, none⟩ = some (.map (some mn))) (by kernel_rfl) ?hSa (fun hHeld => ?_)
  case hSa => exact ⟨H1.out, H2.out⟩
  refine wpAnyH_take (i := 0) (oi := ⟨_, _, _, _, _, _⟩) (v := ?va0) rfl (by kernel_rfl) (by kernel_rfl) (by kernel_rfl) (fun _ _ _ h => h) (Or.inl ⟨by rfl, ?hya0⟩) hHeld ?_
  case hya0 => (intro wS hSw; (try dsimp only at hSw); go_simp; (first | done | with_reducible rfl))
  try simp only [Act.put, List.setIfInBounds_toArray, List.set_cons_zero, List.set_cons_succ]
  refine wpAnyH_take (i := 1) (oi := ⟨_, _, _, _, _, _⟩) (v := ?va1) rfl (by kernel_rfl) (by kernel_rfl) (by kernel_rfl) (fun _ _ _ h => h) (Or.inl ⟨by rfl, ?hya1⟩) hHeld ?_
  case hya1 => (intro wS hSw; (try dsimp only at hSw); go_simp; (first | done | with_reducible rfl))
  try simp only [Act.put, List.setIfInBounds_toArray, List.set_cons_zero, List.set_cons_succ]
  refine wpAnyH_take (i := 2) (oi := ⟨_, _, _, _, _, _⟩) (v := ?va2) rfl (by kernel_rfl) (by kernel_rfl) (by kernel_rfl) (fun _ _ _ h => h) (Or.inl ⟨by rfl, ?hya2⟩) hHeld ?_
  case hya2 => (intro wS hSw; (try dsimp only at hSw); go_simp; (first | done | with_reducible rfl))
  try simp only [Act.put, List.setIfInBounds_toArray, List.set_cons_zero, List.set_cons_succ]
  refine wpAnyH_take (i := 3) (oi := ⟨_, _, _, _, _, _⟩) (v := ?va3) rfl (by kernel_rfl) (by kernel_rfl) (by kernel_rfl) (fun _ _ _ h => h) (Or.inl ⟨by rfl, ?hya3⟩) hHeld ?_
  case hya3 => (intro wS hSw; (try dsimp only at hSw); go_simp; (first | done | with_reducible rfl))
  try simp only [Act.put, List.setIfInBounds_toArray, List.set_cons_zero, List.set_cons_succ]
  refine wpAnyH_take (i := 4) (oi := ⟨_, _, _, _, _, _⟩) (v := ?va4) rfl (by kernel_rfl) (by kernel_rfl) (by kernel_rfl) (fun _ _ _ h => h) (Or.inl ⟨by rfl, ?hya4⟩) hHeld ?_
  case hya4 => (intro wS hSw; (try dsimp only at hSw); go_simp; (first | done | with_reducible rfl))
  try simp only [Act.put, List.setIfInBounds_toArray, List.set_cons_zero, List.set_cons_succ]
  refine wpAnyH_take (i := 5) (oi := ⟨_, _, _, _, _, _⟩) (v := ?va5) rfl (by kernel_rfl) (by kernel_rfl) (by kernel_rfl) (fun _ _ _ h => h) (Or.inl ⟨by rfl, ?hya5⟩) hHeld ?_
  case hya5 => (intro wS hSw; (try dsimp only at hSw); go_simp; (first | done | with_reducible rfl))
  try simp only [Act.put, List.setIfInBounds_toArray, List.set_cons_zero, List.set_cons_succ]
  refine wpAnyH_take (i := 6) (oi := ⟨_, _, _, _, _, _⟩) (v := ?va6) rfl (by kernel_rfl) (by kernel_rfl) (by kernel_rfl) (fun _ _ _ h => h) (Or.inl ⟨by rfl, ?hya6⟩) hHeld ?_
  case hya6 => (intro wS hSw; (try dsimp only at hSw); go_simp; (first | done | with_reducible rfl))
  try simp only [Act.put, List.setIfInBounds_toArray, List.set_cons_zero, List.set_cons_succ]
  refine wpAnyH_take (i := 7) (oi := ⟨_, _, _, _, _, _⟩) (v := ?va7) rfl (by kernel_rfl) (by kernel_rfl) (by kernel_rfl) (fun _ _ _ h => h) (Or.inl ⟨by rfl, ?hya7⟩) hHeld ?_
  case hya7 => (intro wS hSw; (try dsimp only at hSw); go_simp; (first | done | with_reducible rfl))
  try simp only [Act.put, List.setIfInBounds_toArray, List.set_cons_zero, List.set_cons_succ]
  refine wpAnyH_ready (rs := [8]) (by kernel_rfl) (by simp) ?_
  refine AllReadyH.cons (o := ⟨_, _, _, _, _, _⟩) rfl (fun K hK => ?_) AllReadyH.nil
  go_simp
  refine (copy_at mb mn D.n D.now _ h1 (by exact HCL.out.1.kept (drew_grown w1 none) (by simp)) (by exact HSN1.out.kept (drew_grown w1 none) (by simp)) hne).mono ?_
  rintro e w3 ⟨rfl, hsb3, hg3⟩
  have HSB3 := Lib.hid hsb3
  have HG3 := Lib.hid ((drew_grown w1 (some mb)).andThen hg3 (fun _ hj => .inr hj))
  clear hsb3 hg3
  go_wp2_with fail
  refine hK.out _ _ ?ka8 (fun hNew => ?_)
  case ka8 => (try dsimp only); exact ⟨cell_blk ((HG3.out.block d (Array.getElem?_eq_some_iff.1 HD1.out).1 (fun e => HNE.out.1 (Option.some.inj e))).trans HD1.out) 1, cell_blk ((HG3.out.block d (Array.getElem?_eq_some_iff.1 HD1.out).1 (fun e => HNE.out.1 (Option.some.inj e))).trans HD1.out) 2⟩
  clear hK K hHeld
  have hHeld := hNew
  clear hNew
  try simp only [Act.put, List.setIfInBounds_toArray, List.set_cons_zero, List.set_cons_succ]
  refine wpAnyH_done (by kernel_rfl) ?_ _
  refine NoPanic.normal ?_
  have hd3 := (HG3.out.block d (Array.getElem?_eq_some_iff.1 HD1.out).1 (fun e => HNE.out.1 (Option.some.inj e))).trans HD1.out
  have c3 : w3.cell? ⟨d, 3, none⟩ = some sv := cell_blk hd3 3
  have z3 := frozen_blk hd3 3
  have HD3 := Lib.hid hd3
  clear hd3 hHeld
  go_wp2_with fail
  go_end0
  have hd3 := HD3.out
  have hgs := grown_set w3 d 3 (.slice none 0 0)
  have hd4 := heap_setCell_same w3 d 3 _ _ (.slice none 0 0) hd3
  have hsb3 := HSB3.out
  have hsn3 := HSN1.out.kept HG3.out (fun e => hne (Option.some.inj e).symm)
  have hmap1 : SecMap w1 mb D.n (fun _ => noughts) := ⟨0, .map [], Nat.zero_le _, HCL.out.1, fun k h => by simp [has_eq] at h, fun i _ => by simp [DataW.atKey]⟩
  have ha3 := HROW1.out.2.of_map hmap1 HG3.out
  refine ⟨rfl, ⟨h1, by simp, mb, mn, .slice none 0 0, pa, by simpa using hd4, hB, hmb, hmn, hne, hsb3.kept hgs ?_, hsn3.kept hgs ?_, ⟨by simp [rows], .inl ⟨rfl, rfl⟩⟩, by simp [Value.ownBlock], ha3.kept hd3 (by decide) hgs⟩, ?_⟩
  · exact fun x => hsb3.ne hd3 (Option.some.inj x)
  · exact fun x => hsn3.ne hd3 (Option.some.inj x)
  · have hb := HCL.out.2
    exact (hb.trans (grown_off HG3.out hmb)).trans (grown_off hgs hB)
end Go.Proofs.Ytgdedgfohjplmaa.Sec

/- A disk is cut: sectors.Cut. -/
namespace Go.Proofs.Ytgdedgfohjplmaa.Sec
open Go.RowKit Go.Maps

/-- What is behind writes. -/
def behind (f : Nat → List UInt8) (l : List (Nat × List UInt8)) : Nat → List UInt8 := l.foldl (fun f p => upd f p.1 p.2) f
set_option maxRecDepth 100000 in
theorem behind_nil (f : Nat → List UInt8) : behind f [] = f := rfl
set_option maxRecDepth 100000 in
theorem behind_snoc (f : Nat → List UInt8) (l : List (Nat × List UInt8)) (p : Nat × List UInt8) : behind f (l ++ [p]) = upd (behind f l) p.1 p.2 := by simp [behind]
/-- A disk that was cut. -/
def Dsk.cut (D : Dsk) (k : Int) : Dsk := ⟨D.n, behind D.base (D.wr.take (max 0 (min (D.wr.length : Int) k)).toNat), behind D.base (D.wr.take (max 0 (min (D.wr.length : Int) k)).toNat), [], none, false⟩

set_option maxRecDepth 100000 in
theorem rows_at : ∀ (wr : List (Nat × List UInt8)) (j : Nat) (p : Nat × List UInt8), (∀ p ∈ wr, p.2.length = 128) → wr[j]? = some p → ∀ (t : Nat) (v : Value), (wrA p.1 p.2).toList[t]? = some v → (rows wr)[j * 129 + t]? = some v
  | [], j, p, _, h => by simp at h
  | q :: wr, 0, p, hl, h => by
    intro t v hv
    simp at h
    subst h
    have := (List.getElem?_eq_some_iff.1 hv).1
    simp only [rows, List.flatMap_cons, Nat.zero_mul, Nat.zero_add]
    rw [List.getElem?_append_left this]
    exact hv
  | q :: wr, j + 1, p, hl, h => by
    intro t v hv
    have hq : (wrA q.1 q.2).toList.length = 129 := by rw [Array.length_toList, wrA_size, hl q (by simp)]
    simp only [rows, List.flatMap_cons]
    rw [List.getElem?_append_right (by rw [hq]; omega), hq, show (j + 1) * 129 + t - 129 = j * 129 + t by omega]
    exact rows_at wr j p (fun p hp => hl p (by simp [hp])) (by simpa using h) t v hv
set_option maxRecDepth 100000 in
theorem row_range {w : World} {B n : Nat} {A : Option Addr} {cap : Nat} {wr : List (Nat × List UInt8)} (h : w.ownsRow B 71 129 (.slice A n cap) wr.length (rows wr)) (h2 : ∀ p ∈ wr, p.2.length = 128) (j : Nat) (p : Nat × List UInt8) (hj : wr[j]? = some p) :
    ∃ g, A = some ⟨g, 0, none⟩ ∧ w.rangeAt g (j * 129) (wrA p.1 p.2).toList := by
  obtain ⟨_, ⟨e, h0⟩ | ⟨g, cap', cur, e, _, hb, _, _, _, ht⟩⟩ := h
  · have := (List.getElem?_eq_some_iff.1 hj).1
    omega
  · injection e with eA _ _
    refine ⟨g, eA, fun t v hv => ?_⟩
    have h1 := rows_at wr j p h2 hj t v hv
    rw [← ht, List.getElem?_take] at h1
    rw [cell_blk hb]
    split at h1
    · simpa using h1
    · cases h1
set_option maxRecDepth 100000 in
theorem row_slice {w : World} {B n : Nat} {sv : Value} {e : TypeId} {xs : List Value} (h : w.ownsRow B e 129 sv n xs) : ∃ A cap, sv = .slice A n cap ∧ n ≤ cap ∧ (A = none → n = 0 ∧ cap = 0) ∧ ∀ a, A = some a → ∃ g, a = ⟨g, 0, none⟩ ∧ B ≤ g := by
  obtain ⟨_, ⟨rfl, rfl⟩ | ⟨g, cap, cur, rfl, hB, _, hc, _⟩⟩ := h
  · exact ⟨none, 0, rfl, Nat.le_refl _, fun _ => ⟨rfl, rfl⟩, by simp⟩
  · exact ⟨_, cap, rfl, hc, by simp, fun a ha => ⟨g, (Option.some.inj ha).symm, hB⟩⟩

set_option maxRecDepth 100000 in
set_option maxHeartbeats 4000000 in
theorem cut_at (S : Nat → Prop) (d : Nat) (D : Dsk) (q : Int) (w : World) (h : DiskAt w S d D) (hn : D.wr.length < 1000000) :
    Calls Try.prog 19 #[.pointer (some ⟨d, 0, none⟩), .int .i64 q] w fun e w' => ∃ c, e = .returned (.pointer (some ⟨c, 0, none⟩)) ∧ DiskAt w' (fun b => w.heap.size ≤ b) c (D.cut q) ∧ Off (fun _ => False) w w' := by
  obtain ⟨h1, h2, mb, mn, sv, pa, hd, hB, hmb, hmn, hne, hsb, hsn, hrow, hos, ha⟩ := h
  obtain ⟨A, cap, rfl, hncap, hA0, hA⟩ := row_slice hrow
  unfold Dsk.cut
  obtain ⟨kk, hkk⟩ : ∃ kk : Nat, (kk : Int) = max 0 (min (D.wr.length : Int) q) := ⟨(max 0 (min (D.wr.length : Int) q)).toNat, by omega⟩
  obtain ⟨mi, hmi⟩ : ∃ mi : Int, mi = min (D.wr.length : Int) q := ⟨_, rfl⟩
  have hmn' : ∀ (w : World) (ts : Array TypeId) (t : TypeId), (Builtin.min_ ts t #[.int .i64 (D.wr.length : Int), .int .i64 q]).run Try.prog w = .ok (.int .i64 mi) w := fun w ts t => by
    rw [run_min_int2]
    congr 2
    split <;> omega
  have hmx : ∀ (w : World) (ts : Array TypeId) (t : TypeId), (Builtin.max_ ts t #[.int .i64 0, .int .i64 mi]).run Try.prog w = .ok (.int .i64 (kk : Int)) w := fun w ts t => by
    rw [run_max_int2]
    congr 2
    split <;> omega
  have hkn : kk ≤ D.wr.length := by omega
  rw [← hkk, Int.toNat_natCast]
  have hdlt := (Array.getElem?_eq_some_iff.1 hd).1
  have HC0 : Hid (w.drew.cell? ⟨d, 0, none⟩ = some (.int .i64 (D.n : Int))) := cell_blk (w := w.drew) hd 0
  have HC1 : Hid (w.drew.cell? ⟨d, 1, none⟩ = some (.map (some mb))) := cell_blk (w := w.drew) hd 1
  have HCA : Hid (∀ (w2 : World) (o : Obj), w.grownBy w2 none → ∀ j, (w2.alloc o).cell? ⟨d, j, none⟩ = #[Value.int .i64 (D.n : Int), .map (some mb), .map (some mn), .slice A D.wr.length cap, .pointer pa, .bool D.off][j]?) := fun w2 o hg j =>
    cell_blk (((hg.andThen (World.grownBy_alloc w2 o none) (fun _ hj => .inr hj)).block d hdlt (by simp)).trans hd) j
  have HSB := Lib.hid hsb
  have HD := Lib.hid hd
  have HDL := Lib.hid hdlt
  have HROW := Lib.hid hrow
  have H2 := Lib.hid h2
  have HCB : Hid (∀ w2 : World, w.grownBy w2 none → SecMap w2 w.heap.size D.n D.base → w.grownBy (w2.alloc (.cells #[.int .i64 (D.n : Int), .map (some w.heap.size), .map none, .slice none 0 0, .pointer none, .bool false] 52)) none ∧ SecMap (w2.alloc (.cells #[.int .i64 (D.n : Int), .map (some w.heap.size), .map none, .slice none 0 0, .pointer none, .bool false] 52)) w.heap.size D.n D.base ∧
      (w2.alloc (.cells #[.int .i64 (D.n : Int), .map (some w.heap.size), .map none, .slice none 0 0, .pointer none, .bool false] 52)).heap[w2.heap.size]? = some (.cells #[.int .i64 (D.n : Int), .map (some w.heap.size), .map none, .slice none 0 0, .pointer none, .bool false] 52) ∧ w.heap.size < w2.heap.size ∧ (w2.alloc (.cells #[.int .i64 (D.n : Int), .map (some w.heap.size), .map none, .slice none 0 0, .pointer none, .bool false] 52)).heap.size = w2.heap.size + 1) := fun w2 hg hs =>
    ⟨hg.andThen (World.grownBy_alloc w2 _ none) (fun _ hj => .inr hj), hs.kept (World.grownBy_alloc w2 _ none) (by simp), (MapKept.heap_alloc w2 _).1, hs.lt, World.size_alloc ..⟩
  clear hd hsb hsn hrow ha hos h2 hkk hmi hdlt
  go_enter Try.func19, Try.ntmps19
  go_wp2_with fail
  refine wp_region_noPanic ?_
  refine wp_region_held_drew (S := fun w' => w'.cell? ⟨d, 0, none⟩ = some (.int .i64 (D.n : Int)) ∧ w'.cell? ⟨d, 1, none⟩ = some (.map (some mb))) (by kernel_rfl) ?hSa (fun hHeld => ?_)
  case hSa => exact ⟨HC0.out, HC1.out⟩
  refine wpAnyH_take (i := 0) (oi := ⟨_, _, _, _, _, _⟩) (v := ?va0) rfl (by kernel_rfl) (by kernel_rfl) (by kernel_rfl) (fun _ _ _ h => h) (Or.inl ⟨by rfl, ?hya0⟩) hHeld ?_
  case hya0 => (intro wS hSw; (try dsimp only at hSw); go_simp; (first | done | with_reducible rfl))
  try simp only [Act.put, List.setIfInBounds_toArray, List.set_cons_zero, List.set_cons_succ]
  refine wpAnyH_take (i := 1) (oi := ⟨_, _, _, _, _, _⟩) (v := ?va1) rfl (by kernel_rfl) (by kernel_rfl) (by kernel_rfl) (fun _ _ _ h => h) (Or.inl ⟨by rfl, ?hya1⟩) hHeld ?_
  case hya1 => (intro wS hSw; (try dsimp only at hSw); go_simp; (first | done | with_reducible rfl))
  try simp only [Act.put, List.setIfInBounds_toArray, List.set_cons_zero, List.set_cons_succ]
  refine wpAnyH_take (i := 2) (oi := ⟨_, _, _, _, _, _⟩) (v := ?va2) rfl (by kernel_rfl) (by kernel_rfl) (by kernel_rfl) (fun _ _ _ h => h) (Or.inl ⟨by rfl, ?hya2⟩) hHeld ?_
  case hya2 => (intro wS hSw; (try dsimp only at hSw); go_simp; (first | done | with_reducible rfl))
  try simp only [Act.put, List.setIfInBounds_toArray, List.set_cons_zero, List.set_cons_succ]
  refine wpAnyH_take (i := 3) (oi := ⟨_, _, _, _, _, _⟩) (v := ?va3) rfl (by kernel_rfl) (by kernel_rfl) (by kernel_rfl) (fun _ _ _ h => h) (Or.inl ⟨by rfl, ?hya3⟩) hHeld ?_
  case hya3 => (intro wS hSw; (try dsimp only at hSw); go_simp; (first | done | with_reducible rfl))
  try simp only [Act.put, List.setIfInBounds_toArray, List.set_cons_zero, List.set_cons_succ]
  refine wpAnyH_take (i := 4) (oi := ⟨_, _, _, _, _, _⟩) (v := ?va4) rfl (by kernel_rfl) (by kernel_rfl) (by kernel_rfl) (fun _ _ _ h => h) (Or.inl ⟨by rfl, ?hya4⟩) hHeld ?_
  case hya4 => (intro wS hSw; (try dsimp only at hSw); go_simp; (first | done | with_reducible rfl))
  try simp only [Act.put, List.setIfInBounds_toArray, List.set_cons_zero, List.set_cons_succ]
  refine wpAnyH_take (i := 5) (oi := ⟨_, _, _, _, _, _⟩) (v := ?va5) rfl (by kernel_rfl) (by kernel_rfl) (by kernel_rfl) (fun _ _ _ h => h) (Or.inl ⟨by rfl, ?hya5⟩) hHeld ?_
  case hya5 => (intro wS hSw; (try dsimp only at hSw); go_simp; (first | done | with_reducible rfl))
  try simp only [Act.put, List.setIfInBounds_toArray, List.set_cons_zero, List.set_cons_succ]
  refine wpAnyH_take (i := 6) (oi := ⟨_, _, _, _, _, _⟩) (v := ?va6) rfl (by kernel_rfl) (by kernel_rfl) (by kernel_rfl) (fun _ _ _ h => h) (Or.inl ⟨by rfl, ?hya6⟩) hHeld ?_
  case hya6 => (intro wS hSw; (try dsimp only at hSw); go_simp; (first | done | with_reducible rfl))
  try simp only [Act.put, List.setIfInBounds_toArray, List.set_cons_zero, List.set_cons_succ]
  refine wpAnyH_take (i := 7) (oi := ⟨_, _, _, _, _, _⟩) (v := ?va7) rfl (by kernel_rfl) (by kernel_rfl) (by kernel_rfl) (fun _ _ _ h => h) (Or.inl ⟨by rfl, ?hya7⟩) hHeld ?_
  case hya7 => (intro wS hSw; (try dsimp only at hSw); go_simp; (first | done | with_reducible rfl))
  try simp only [Act.put, List.setIfInBounds_toArray, List.set_cons_zero, List.set_cons_succ]
  refine wpAnyH_ready (rs := [8]) (by kernel_rfl) (by simp) ?_
  refine AllReadyH.cons (o := ⟨_, _, _, _, _, _⟩) rfl (fun K hK => ?_) AllReadyH.nil
  go_simp
  refine (clone_at mb D.n D.base _ (by exact HSB.out.kept (drew_grown w none) (by simp))).mono ?_
  rintro e w2 ⟨rfl, hsm2, hg2⟩
  have hm0 : w.drew.heap.size = w.heap.size := rfl
  rw [hm0] at hsm2 ⊢
  have HSM2 := Lib.hid hsm2
  have HG2 := Lib.hid ((drew_grown w none).andThen hg2 (fun _ hj => .inr hj))
  clear hsm2 hg2 hm0
  go_wp2_with fail
  refine hK.out _ _ ?ka8 (fun hNew => ?_)
  case ka8 => (try dsimp only); exact ⟨cell_blk ((HG2.out.block d HDL.out (by simp)).trans HD.out) 0, cell_blk ((HG2.out.block d HDL.out (by simp)).trans HD.out) 1⟩
  clear hK K hHeld
  have hHeld := hNew
  clear hNew
  try simp only [Act.put, List.setIfInBounds_toArray, List.set_cons_zero, List.set_cons_succ]
  refine wpAnyH_take (i := 9) (oi := ⟨_, _, _, _, _, _⟩) (v := ?va9) rfl (by kernel_rfl) (by kernel_rfl) (by kernel_rfl) (fun _ _ _ h => h) (Or.inl ⟨by rfl, ?hya9⟩) hHeld ?_
  case hya9 => (intro wS hSw; (try dsimp only at hSw); go_simp; (first | done | with_reducible rfl))
  try simp only [Act.put, List.setIfInBounds_toArray, List.set_cons_zero, List.set_cons_succ]
  refine wpAnyH_ready (rs := [10]) (by kernel_rfl) (by simp) ?_
  refine AllReadyH.cons (o := ⟨_, _, _, _, _, _⟩) rfl (fun K hK => ?_) AllReadyH.nil
  go_simp
  refine hK.out _ _ ?ka10 (fun hNew => ?_)
  case ka10 => (try dsimp only); exact ⟨HCA.out w2 _ HG2.out 0, HCA.out w2 _ HG2.out 1⟩
  clear hK K hHeld
  have hHeld := hNew
  clear hNew
  try simp only [Act.put, List.setIfInBounds_toArray, List.set_cons_zero, List.set_cons_succ]
  refine wpAnyH_take (i := 11) (oi := ⟨_, _, _, _, _, _⟩) (v := ?va11) rfl (by kernel_rfl) (by kernel_rfl) (by kernel_rfl) (fun _ _ _ h => h) (Or.inl ⟨by rfl, ?hya11⟩) hHeld ?_
  case hya11 => (intro wS hSw; (try dsimp only at hSw); go_simp; (first | done | with_reducible rfl))
  try simp only [Act.put, List.setIfInBounds_toArray, List.set_cons_zero, List.set_cons_succ]
  refine wpAnyH_done (by kernel_rfl) ?_ _
  refine NoPanic.normal ?_
  have hf := HCB.out w2 HG2.out HSM2.out
  generalize w2.alloc (.cells #[.int .i64 (D.n : Int), .map (some w.heap.size), .map none, .slice none 0 0, .pointer none, .bool false] 52) = w3 at hf ⊢
  clear HCB HCA HSM2 HG2 hHeld
  generalize w2.heap.size = c at hf ⊢
  obtain ⟨hg3, hsm3, hc3, hcm, hs3⟩ := hf
  have hd3 := (hg3.block d HDL.out (by simp)).trans HD.out
  have hrow3 := row_grown HROW.out hg3
  have HC3 : Hid (w3.drew.cell? ⟨d, 3, none⟩ = some (.slice A D.wr.length cap)) := cell_blk (w := w3.drew) hd3 3
  have HG3 := Lib.hid hg3
  have HSM3 := Lib.hid hsm3
  have HCC3 := Lib.hid hc3
  have HCM : Hid (c ≠ w.heap.size) := by show c ≠ _; omega
  have HCS := Lib.hid (And.intro hcm hs3)
  have HROW3 := Lib.hid hrow3
  have k0 : (0 : Int) ≤ (kk : Int) := by omega
  have k1 : (kk : Int) ≤ (cap : Int) := by omega
  clear hg3 hsm3 hc3 hcm hs3 hd3 hrow3 HC0 HC1
  go_wp2_with fail
  refine wp_region_noPanic ?_
  refine wp_region_held_drew (S := fun w' => w'.cell? ⟨d, 3, none⟩ = some (.slice A D.wr.length cap)) (by kernel_rfl) ?hSb (fun hHeld => ?_)
  case hSb => exact HC3.out
  refine wpAnyH_take (i := 0) (oi := ⟨_, _, _, _, _, _⟩) (v := ?vb0) rfl (by kernel_rfl) (by kernel_rfl) (by kernel_rfl) (fun _ _ _ h => h) (Or.inl ⟨by rfl, ?hyb0⟩) hHeld ?_
  case hyb0 => (intro wS hSw; (try dsimp only at hSw); go_simp; (first | done | with_reducible rfl))
  try simp only [Act.put, List.setIfInBounds_toArray, List.set_cons_zero, List.set_cons_succ]
  refine wpAnyH_take (i := 1) (oi := ⟨_, _, _, _, _, _⟩) (v := ?vb1) rfl (by kernel_rfl) (by kernel_rfl) (by kernel_rfl) (fun _ _ _ h => h) (Or.inl ⟨by rfl, ?hyb1⟩) hHeld ?_
  case hyb1 => (intro wS hSw; (try dsimp only at hSw); go_simp; (first | done | with_reducible rfl))
  try simp only [Act.put, List.setIfInBounds_toArray, List.set_cons_zero, List.set_cons_succ]
  refine wpAnyH_take (i := 2) (oi := ⟨_, _, _, _, _, _⟩) (v := ?vb2) rfl (by kernel_rfl) (by kernel_rfl) (by kernel_rfl) (fun _ _ _ h => h) (Or.inl ⟨by rfl, ?hyb2⟩) hHeld ?_
  case hyb2 => (intro wS hSw; (try dsimp only at hSw); go_simp; (first | done | with_reducible rfl))
  try simp only [Act.put, List.setIfInBounds_toArray, List.set_cons_zero, List.set_cons_succ]
  refine wpAnyH_take (i := 3) (oi := ⟨_, _, _, _, _, _⟩) (v := ?vb3) rfl (by kernel_rfl) (by kernel_rfl) (by kernel_rfl) (fun _ _ _ h => h) (Or.inl ⟨by rfl, ?hyb3⟩) hHeld ?_
  case hyb3 => (intro wS hSw; (try dsimp only at hSw); go_simp; (first | done | with_reducible rfl))
  try simp only [Act.put, List.setIfInBounds_toArray, List.set_cons_zero, List.set_cons_succ]
  refine wpAnyH_take (i := 4) (oi := ⟨_, _, _, _, _, _⟩) (v := ?vb4) rfl (by kernel_rfl) (by kernel_rfl) (by kernel_rfl) (fun _ _ _ h => h) (Or.inl ⟨by rfl, ?hyb4⟩) hHeld ?_
  case hyb4 => (intro wS hSw; (try dsimp only at hSw); go_simp; (first | done | with_reducible rfl))
  try simp only [Act.put, List.setIfInBounds_toArray, List.set_cons_zero, List.set_cons_succ]
  refine wpAnyH_take (i := 5) (oi := ⟨_, _, _, _, _, _⟩) (v := ?vb5) rfl (by kernel_rfl) (by kernel_rfl) (by kernel_rfl) (fun _ _ _ h => h) (Or.inl ⟨by rfl, ?hyb5⟩) hHeld ?_
  case hyb5 => (intro wS hSw; (try dsimp only at hSw); go_simp; (first | done | with_reducible rfl))
  try simp only [Act.put, List.setIfInBounds_toArray, List.set_cons_zero, List.set_cons_succ]
  refine wpAnyH_take (i := 6) (oi := ⟨_, _, _, _, _, _⟩) (v := ?vb6) rfl (by kernel_rfl) (by kernel_rfl) (by kernel_rfl) (fun _ _ _ h => h) (Or.inl ⟨by rfl, ?hyb6⟩) hHeld ?_
  case hyb6 => (intro wS hSw; (try dsimp only at hSw); go_simp; (first | done | with_reducible rfl))
  try simp only [Act.put, List.setIfInBounds_toArray, List.set_cons_zero, List.set_cons_succ]
  refine wpAnyH_take (i := 7) (oi := ⟨_, _, _, _, _, _⟩) (v := ?vb7) rfl (by kernel_rfl) (by kernel_rfl) (by kernel_rfl) (fun _ _ _ h => h) (Or.inl ⟨by rfl, ?hyb7⟩) hHeld ?_
  case hyb7 => (intro wS hSw; (try dsimp only at hSw); go_simp; (first | done | with_reducible rfl))
  try simp only [Act.put, List.setIfInBounds_toArray, List.set_cons_zero, List.set_cons_succ]
  refine wpAnyH_take (i := 8) (oi := ⟨_, _, _, _, _, _⟩) (v := ?vb8) rfl (by kernel_rfl) (by kernel_rfl) (by kernel_rfl) (fun _ _ _ h => h) (Or.inl ⟨by rfl, ?hyb8⟩) hHeld ?_
  case hyb8 => (intro wS hSw; (try dsimp only at hSw); go_simp; (first | done | with_reducible rfl))
  try simp only [Act.put, List.setIfInBounds_toArray, List.set_cons_zero, List.set_cons_succ]
  refine wpAnyH_take (i := 9) (oi := ⟨_, _, _, _, _, _⟩) (v := ?vb9) rfl (by kernel_rfl) (by kernel_rfl) (by kernel_rfl) (fun _ _ _ h => h) (Or.inl ⟨by rfl, ?hyb9⟩) hHeld ?_
  case hyb9 => (intro wS hSw; (try dsimp only at hSw); go_simp; (first | done | with_reducible rfl))
  try simp only [Act.put, List.setIfInBounds_toArray, List.set_cons_zero, List.set_cons_succ]
  refine wpAnyH_take (i := 10) (oi := ⟨_, _, _, _, _, _⟩) (v := ?vb10) rfl (by kernel_rfl) (by kernel_rfl) (by kernel_rfl) (fun _ _ _ h => h) (Or.inl ⟨by rfl, ?hyb10⟩) hHeld ?_
  case hyb10 => (intro wS hSw; (try dsimp only at hSw); go_simp; (first | done | with_reducible rfl))
  try simp only [Act.put, List.setIfInBounds_toArray, List.set_cons_zero, List.set_cons_succ]
  refine wpAnyH_take (i := 11) (oi := ⟨_, _, _, _, _, _⟩) (v := ?vb11) rfl (by kernel_rfl) (by kernel_rfl) (by kernel_rfl) (fun _ _ _ h => h) (Or.inl ⟨by rfl, ?hyb11⟩) hHeld ?_
  case hyb11 => (intro wS hSw; (try dsimp only at hSw); go_simp; (first | done | with_reducible rfl))
  try simp only [Act.put, List.setIfInBounds_toArray, List.set_cons_zero, List.set_cons_succ]
  refine wpAnyH_take (i := 12) (oi := ⟨_, _, _, _, _, _⟩) (v := ?vb12) rfl (by kernel_rfl) (by kernel_rfl) (by kernel_rfl) (fun _ _ _ h => h) (Or.inl ⟨by rfl, ?hyb12⟩) hHeld ?_
  case hyb12 => (intro wS hSw; (try dsimp only at hSw); go_simp; (first | done | with_reducible rfl))
  try simp only [Act.put, List.setIfInBounds_toArray, List.set_cons_zero, List.set_cons_succ]
  refine wpAnyH_take (i := 13) (oi := ⟨_, _, _, _, _, _⟩) (v := ?vb13) rfl (by kernel_rfl) (by kernel_rfl) (by kernel_rfl) (fun _ _ _ h => h) (Or.inl ⟨by rfl, ?hyb13⟩) hHeld ?_
  case hyb13 => (intro wS hSw; (try dsimp only at hSw); go_simp; (first | done | with_reducible rfl))
  try simp only [Act.put, List.setIfInBounds_toArray, List.set_cons_zero, List.set_cons_succ]
  refine wpAnyH_take (i := 14) (oi := ⟨_, _, _, _, _, _⟩) (v := ?vb14) rfl (by kernel_rfl) (by kernel_rfl) (by kernel_rfl) (fun _ _ _ h => h) (Or.inl ⟨by rfl, ?hyb14⟩) hHeld ?_
  case hyb14 => (intro wS hSw; (try dsimp only at hSw); go_simp; (first | done | with_reducible rfl))
  try simp only [Act.put, List.setIfInBounds_toArray, List.set_cons_zero, List.set_cons_succ]
  refine wpAnyH_done (by kernel_rfl) ?_ _
  refine NoPanic.normal ?_
  go_wp2_with fail
  go_loopw [35] (fun j wr => ∃ k : Nat, k ≤ kk ∧ j = .int .i64 (k : Int) ∧ SecMap wr w.heap.size D.n (behind D.base (D.wr.take k)) ∧ w3.grownBy wr (some w.heap.size)) (fun j _ => kk - (intOf j).toNat)
  case atStart => exact ⟨0, Nat.zero_le _, rfl, HSM3.out.kept (drew_grown w3 none) (by simp), drew_grown w3 _⟩
  case round =>
    obtain ⟨k, hk, rfl, hsmr, hgr⟩ := hrel
    have hszr := hgr.size
    have hclt := (Array.getElem?_eq_some_iff.1 HCC3.out).1
    have hcr := (hgr.block c hclt (fun e => HCM.out (Option.some.inj e))).trans HCC3.out
    have HCR := Lib.hid hcr
    have HGR := Lib.hid hgr
    have HSMR := Lib.hid hsmr
    have HSS : Hid (w.heap.size < wr.heap.size ∧ c < wr.heap.size) := by have := HCS.out; show _ ∧ _; omega
    clear hcr hgr hsmr hszr hclt HC3
    by_cases hlt : k < kk
    · have hkd : decide ((k : Int) < (kk : Int)) = true := by simp; omega
      obtain ⟨⟨i, l⟩, hp⟩ : ∃ p, D.wr[k]? = some p := ⟨D.wr[k]'(by omega), List.getElem?_eq_getElem _⟩
      have hpm := H2.out (i, l) (List.mem_of_getElem? hp)
      obtain ⟨g, rfl, hrg⟩ := row_range (row_of_map HROW3.out HSM3.out HGR.out) (fun p hp => (H2.out p hp).2) k (i, l) hp
      have HP := Lib.hid hpm
      have HRG := Lib.hid hrg
      have HPK := Lib.hid hp
      have ht := there_new wr (wrA 0 noughts) 71 129 (by rw [wrA_size, noughts_length]; omega)
      have hgx := grown_new wr (.cells (wrA 0 noughts) 71) (wrA i l).toList 0
      have hrx : ((wr.alloc (.cells (wrA 0 noughts) 71)).setCells wr.heap.size 0 (wrA i l).toList).rangeAt wr.heap.size 0 (wrA i l).toList := World.rangeAt_setCells_same _ _ _ _ (by
        have hl := hpm.2
        simpa [wrA_size, hl] using ht)
      have HT := Lib.hid ht
      have HX0 := Lib.hid (And.intro hrx (And.intro ((hgx.block c HSS.out.2 (by simp)).trans HCR.out) (And.intro (HSMR.out.kept hgx (by simp)) (And.intro hgx HSS.out.1))))
      have hzw := zero_wr
      have k2 : (0 : Int) ≤ (k : Int) := by omega
      have k3 : (k : Int) < (kk : Int) := by omega
      clear hpm hrg hp ht hgx hrx
      go_wp2_with (first
        | (with_reducible show Go.wpList _ _ _ ((⟨_, .store _ _ _, _, _, _, _⟩ : Oper) :: _) _ _; refine wpList_store_wr rfl _ _ rfl wr.heap.size i l HP.out.2 rfl rfl HT.out ?_; go_frame)
        | (with_reducible show Go.wpList _ _ _ ((⟨_, .load _ _, _, _, _, _⟩ : Oper) :: _) _ _; refine wpList_load_wr rfl _ rfl g (k * 129) i l HP.out.2 rfl HRG.out ?_; go_frame)
        | go_in)
      have hx0 := HX0.out
      generalize (wr.alloc (.cells (wrA 0 noughts) 71)).setCells wr.heap.size 0 (wrA i l).toList = wx at hx0 ⊢
      have HX := Lib.hid (And.intro hx0.1 (And.intro (cell_blk hx0.2.1 1) (And.intro hx0.2.2.1 (And.intro hx0.2.2.2.1 hx0.2.2.2.2))))
      clear hx0 HX0 HT hzw
      go_wp2_with fail
      refine wp_region_noPanic ?_
      refine wp_region_held_drew (S := fun w' => w'.rangeAt wr.heap.size 0 (wrA i l).toList ∧ w'.cell? ⟨c, 1, none⟩ = some (.map (some w.heap.size))) (by kernel_rfl) ?hSc (fun hHeld => ?_)
      case hSc => exact ⟨(World.rangeAt_drew _ _ _ _).2 HX.out.1, HX.out.2.1⟩
      refine wpAnyH_take (i := 0) (oi := ⟨_, _, _, _, _, _⟩) (v := ?vc0) rfl (by kernel_rfl) (by kernel_rfl) (by kernel_rfl) (fun _ _ _ h => h) (Or.inl ⟨by rfl, ?hyc0⟩) hHeld ?_
      case hyc0 => (intro wS hSw; (try dsimp only at hSw); go_simp; (first | done | with_reducible rfl))
      try simp only [Act.put, List.setIfInBounds_toArray, List.set_cons_zero, List.set_cons_succ]
      refine wpAnyH_take (i := 1) (oi := ⟨_, _, _, _, _, _⟩) (v := ?vc1) rfl (by kernel_rfl) (by kernel_rfl) (by kernel_rfl) (fun _ _ _ h => h) (Or.inl ⟨by rfl, ?hyc1⟩) hHeld ?_
      case hyc1 => (intro wS hSw; (try dsimp only at hSw); go_simp; (first | done | with_reducible rfl))
      try simp only [Act.put, List.setIfInBounds_toArray, List.set_cons_zero, List.set_cons_succ]
      refine wpAnyH_take (i := 2) (oi := ⟨_, _, _, _, _, _⟩) (v := ?vc2) rfl (by kernel_rfl) (by kernel_rfl) (by kernel_rfl) (fun _ _ _ h => h) (Or.inl ⟨by rfl, ?hyc2⟩) hHeld ?_
      case hyc2 => (intro wS hSw; (try dsimp only at hSw); go_simp; (first | done | with_reducible rfl))
      try simp only [Act.put, List.setIfInBounds_toArray, List.set_cons_zero, List.set_cons_succ]
      refine wpAnyH_take (i := 3) (oi := ⟨_, _, _, _, _, _⟩) (v := ?vc3) rfl (by kernel_rfl) (by kernel_rfl) (by kernel_rfl) (fun _ _ _ h => h) (Or.inl ⟨by rfl, ?hyc3⟩) hHeld ?_
      case hyc3 => (intro wS hSw; (try dsimp only at hSw); go_simp; (first | done | with_reducible rfl))
      try simp only [Act.put, List.setIfInBounds_toArray, List.set_cons_zero, List.set_cons_succ]
      refine wpAnyH_take (i := 4) (oi := ⟨_, _, _, _, _, _⟩) (v := .agg (wrA i l)) rfl (by kernel_rfl) (by kernel_rfl) (by kernel_rfl) (fun _ _ _ h => h) (yields_wr (by rfl) (.tmp 7) rfl wr.heap.size rfl i l HP.out.2 (fun w h => h.1)) hHeld ?_
      try simp only [Act.put, List.setIfInBounds_toArray, List.set_cons_zero, List.set_cons_succ]
      refine wpAnyH_ready (rs := [5]) (by kernel_rfl) (by simp) ?_
      refine AllReadyH.cons (o := ⟨_, _, _, _, _, _⟩) rfl (fun K hK => ?_) AllReadyH.nil
      go_simp
      refine (put_at w.heap.size D.n i (behind D.base (D.wr.take k)) l _ HP.out.1 h1 HP.out.2 (by exact HX.out.2.2.1.kept (drew_grown wx none) (by simp))).mono ?_
      rintro e w7 ⟨rfl, hsm7, hg7⟩
      have HSM7 := Lib.hid hsm7
      have HG7 := Lib.hid ((drew_grown wx (some w.heap.size)).andThen hg7 (fun _ hj => .inr hj))
      clear hsm7 hg7
      go_wp2_with fail
      refine hK.out _ _ ?kc5 (fun hNew => ?_)
      case kc5 => (try dsimp only); exact ⟨fun j v hv => HG7.out.cell (HX.out.1 j v hv) (fun e => by have := HX.out.2.2.2.2; injection e with e; dsimp only at e; omega), HG7.out.cell HX.out.2.1 (fun e => by have := HCM.out; injection e with e; exact this e)⟩
      clear hK K hHeld
      have hHeld := hNew
      clear hNew
      try simp only [Act.put, List.setIfInBounds_toArray, List.set_cons_zero, List.set_cons_succ]
      refine wpAnyH_done (by kernel_rfl) ?_ _
      refine NoPanic.normal ?_
      go_wp2_with fail
      go_roundw
      case rel =>
        refine ⟨k + 1, by omega, by go_num, ?_, (HGR.out.andThen (HX.out.2.2.2.1.but _) (fun _ hj => .inr hj)).andThen HG7.out (fun _ hj => .inr hj)⟩
        have hk1 := HPK.out
        obtain ⟨hkl, hke⟩ := List.getElem?_eq_some_iff.1 hk1
        rw [List.take_succ_eq_append_getElem hkl, behind_snoc, hke]
        exact HSM7.out
      case measure => simp [intOf]; omega
    · have hkd : decide ((k : Int) < (kk : Int)) = false := by simp; omega
      obtain rfl : k = kk := by omega
      have c1 := cell_blk HCR.out 1
      have c2 := cell_blk HCR.out 2
      go_wp2_with fail
      refine (clone_at w.heap.size D.n (behind D.base (D.wr.take k)) wr HSMR.out).mono ?_
      rintro e w8 ⟨rfl, hsm8, hg8⟩
      have hc8 := (hg8.block c HSS.out.2 (by simp)).trans HCR.out
      have z8 := frozen_blk hc8 2
      have e8 := cell_blk hc8 2
      have HC8 := Lib.hid hc8
      have HSM8 := Lib.hid (And.intro hsm8 hg8)
      clear hc8 hsm8 hg8
      go_wp2_with fail
      go_ret
      obtain ⟨hsm8, hg8⟩ := HSM8.out
      have hgs := grown_set w8 c 2 (.map (some wr.heap.size))
      have hc9 := heap_setCell_same w8 c 2 _ _ (.map (some wr.heap.size)) HC8.out
      have hsmb := HSMR.out.kept hg8 (by simp)
      have hss := HSS.out
      have hs8 := hg8.size
      have hcs := HCS.out
      refine ⟨c, rfl, ⟨h1, by simp, w.heap.size, wr.heap.size, .slice none 0 0, none, by simpa using hc9, by show _ ≤ _; omega, Nat.le_refl _, by show _ ≤ _; omega, by omega, hsmb.kept hgs ?_, hsm8.kept hgs ?_, ⟨by simp [rows], .inl ⟨rfl, rfl⟩⟩, by simp [Value.ownBlock], rfl⟩, ?_⟩
      · exact fun x => hsmb.ne HC8.out (Option.some.inj x)
      · exact fun x => hsm8.ne HC8.out (Option.some.inj x)
      · have b1 : Off (fun b => w.heap.size ≤ b) w w3 := Off.of_grown HG3.out (by simp)
        have b2 : Off (fun b => w.heap.size ≤ b) w3 wr := grown_off HGR.out (Nat.le_refl _)
        have b3 : Off (fun b => w.heap.size ≤ b) wr w8 := Off.of_grown hg8 (by simp)
        have b4 : Off (fun b => w.heap.size ≤ b) w8 (w8.setCell ⟨c, 2, none⟩ (.map (some wr.heap.size))) := grown_off hgs (by show _ ≤ _; omega)
        exact (((b1.trans b2).trans b3).trans b4).mono (fun k hk hs => by omega)
end Go.Proofs.Ytgdedgfohjplmaa.Sec

/- Rows of calls in memory; the law's helper large. Disks beside one another. -/
namespace Go.Proofs.Ytgdedgfohjplmaa.Sec
open Go.RowKit Go.Maps

set_option maxRecDepth 100000 in
theorem DiskAt.mono {w : World} {S T : Nat → Prop} {d : Nat} {D : Dsk} (h : DiskAt w S d D) (hs : ∀ k, k < w.heap.size → S k → T k) : DiskAt w T d D := by
  obtain ⟨h1, h2, mb, mn, sv, pa, hd, hB, hmb, hmn, hne, hsb, hsn, hrow, hos, ha⟩ := h
  refine ⟨h1, h2, mb, mn, sv, pa, hd, hs d (Array.getElem?_eq_some_iff.1 hd).1 hB, hs mb hsb.lt hmb, hs mn hsn.lt hmn, hne, hsb, hsn, hrow, fun g hg => hs g (hrow.lt g hg).2 (hos g hg), ?_⟩
  cases hk : D.armed with
  | none => rw [hk] at ha; exact ha
  | some k =>
    rw [hk] at ha
    obtain ⟨b, e, hB, hb, hk⟩ := ha
    exact ⟨b, e, hs b (Array.getElem?_eq_some_iff.1 hb).1 hB, hb, hk⟩
set_option maxRecDepth 100000 in
/-- A disk stands while other blocks turn. -/
theorem DiskAt.off {w w' : World} {S T : Nat → Prop} {d : Nat} {D : Dsk} (h : DiskAt w S d D) (ho : Off T w w') (hST : ∀ k, k < w.heap.size → S k → ¬ T k) : DiskAt w' S d D := by
  obtain ⟨h1, h2, mb, mn, sv, pa, hd, hB, hmb, hmn, hne, hsb, hsn, hrow, hos, ha⟩ := h
  have kp : ∀ k, k < w.heap.size → S k → w'.heap[k]? = w.heap[k]? := fun k hk hs => ho.block k hk (hST k hk hs)
  have hmap : ∀ m f, SecMap w m D.n f → S m → SecMap w' m D.n f := fun m f hm hs => by
    obtain ⟨n, E, hn, ⟨es, clock, hb, F⟩, hk⟩ := id hm
    exact ⟨n, E, hn, ⟨es, clock, (kp m hm.lt hs).trans hb, F⟩, hk⟩
  refine ⟨h1, h2, mb, mn, sv, pa, (kp d (Array.getElem?_eq_some_iff.1 hd).1 hB).trans hd, hB, hmb, hmn, hne, hmap _ _ hsb hmb, hmap _ _ hsn hmn, ?_, hos, ?_⟩
  · refine ⟨hrow.1, ?_⟩
    rcases hrow.2 with h2 | ⟨g, cap, cur, e, h3, hb, h4⟩
    · exact .inl h2
    · exact .inr ⟨g, cap, cur, e, h3, (kp g (Array.getElem?_eq_some_iff.1 hb).1 (hos g (by rw [e]; rfl))).trans hb, h4⟩
  · cases hk : D.armed with
    | none => rw [hk] at ha; exact ha
    | some k =>
      rw [hk] at ha
      obtain ⟨b, e, hB, hb, hk⟩ := ha
      exact ⟨b, e, hB, (kp b (Array.getElem?_eq_some_iff.1 hb).1 hB).trans hb, hk⟩

/-- A call, as data. -/
structure CallV where
  k : UInt8
  i : Int
  b : List UInt8
/-- A call lies from place o of block g on; what it leads to, and it, in no block of S. -/
def CallAt (w : World) (S : Nat → Prop) (g o : Nat) (c : CallV) : Prop :=
  w.cell? ⟨g, o, none⟩ = some (.int .u8 (c.k.toNat : Int)) ∧ w.cell? ⟨g, o + 1, none⟩ = some (.int .i64 c.i) ∧ ∃ A cap, w.cell? ⟨g, o + 2, none⟩ = some (.slice A c.b.length cap) ∧ RowB w S A c.b ∧ c.b.length ≤ cap ∧ cap ≤ maxLen
def CallsAt (w : World) (S : Nat → Prop) (A : Option Addr) (l : List CallV) : Prop :=
  (∀ c ∈ l, (Lit.int .i64 c.i).wf = true ∧ c.b.length ≤ maxLen) ∧ (l = [] ∨ ∃ g off, A = some ⟨g, off, none⟩ ∧ ¬ S g ∧ ∀ j c, l[j]? = some c → CallAt w S g (off + j * 3) c)
set_option maxRecDepth 100000 in
theorem cell_off {w w' : World} {S : Nat → Prop} (ho : Off S w w') {g o : Nat} {v : Value} (hg : ¬ S g) (h : w.cell? ⟨g, o, none⟩ = some v) : w'.cell? ⟨g, o, none⟩ = some v :=
  (World.cell?_of_block (a := ⟨g, o, none⟩) (ho.block g (World.block_lt_of_cell? w _ h) hg)).trans h
set_option maxRecDepth 100000 in
theorem CallsAt.off {w w' : World} {S : Nat → Prop} {A : Option Addr} {l : List CallV} (h : CallsAt w S A l) (ho : Off S w w') : CallsAt w' S A l := by
  refine ⟨h.1, ?_⟩
  rcases h.2 with e | ⟨g, off, e, hg, hc⟩
  · exact .inl e
  · refine .inr ⟨g, off, e, hg, fun j c hj => ?_⟩
    obtain ⟨c1, c2, B, cap, c3, hr, h1⟩ := hc j c hj
    exact ⟨cell_off ho hg c1, cell_off ho hg c2, B, cap, cell_off ho hg c3, hr.off ho, h1⟩
set_option maxRecDepth 100000 in
theorem RowB.mono {w : World} {S T : Nat → Prop} {A : Option Addr} {l : List UInt8} (h : RowB w S A l) (hs : ∀ k, k < w.heap.size → T k → S k) : RowB w T A l := by
  rcases h with e | ⟨b, off, e, hS, hr⟩
  · exact .inl e
  · by_cases h0 : l = []
    · exact .inl h0
    · refine .inr ⟨b, off, e, fun x => hS (hs b ?_ x), hr⟩
      cases l with
      | nil => exact absurd rfl h0
      | cons c r => exact World.block_lt_of_cell? w _ (hr 0 _ rfl)
set_option maxRecDepth 100000 in
theorem CallsAt.mono {w : World} {S T : Nat → Prop} {A : Option Addr} {l : List CallV} (h : CallsAt w S A l) (hs : ∀ k, k < w.heap.size → T k → S k) : CallsAt w T A l := by
  refine ⟨h.1, ?_⟩
  rcases h.2 with e | ⟨g, off, e, hg, hc⟩
  · exact .inl e
  · by_cases h0 : l = []
    · exact .inl h0
    · refine .inr ⟨g, off, e, fun x => hg (hs g ?_ x), fun j c hj => ?_⟩
      · cases l with
        | nil => exact absurd rfl h0
        | cons c r => exact World.block_lt_of_cell? w _ (hc 0 c rfl).1
      · obtain ⟨c1, c2, B, cap, c3, hr, h1⟩ := hc j c hj
        exact ⟨c1, c2, B, cap, c3, hr.mono hs, h1⟩
set_option maxRecDepth 100000 in
theorem CallsAt.at_ {w : World} {S : Nat → Prop} {A : Option Addr} {l : List CallV} {j : Nat} (h : CallsAt w S A l) (hj : j < l.length) : ∃ g off c, A = some ⟨g, off, none⟩ ∧ l[j]? = some c ∧ CallAt w S g (off + j * 3) c := by
  rcases h.2 with rfl | ⟨g, off, e, hg, hc⟩
  · simp at hj
  · exact ⟨g, off, l[j], e, List.getElem?_eq_getElem hj, hc j _ (List.getElem?_eq_getElem hj)⟩

/-- How many bytes. -/
def totalB (l : List CallV) : Nat := (l.map fun c => c.b.length).sum
set_option maxRecDepth 100000 in
theorem totalB_succ (l : List CallV) (k : Nat) (c : CallV) (h : l[k]? = some c) : totalB (l.take (k + 1)) = totalB (l.take k) + c.b.length := by
  obtain ⟨hk, e⟩ := List.getElem?_eq_some_iff.1 h
  rw [List.take_succ_eq_append_getElem hk, e]
  simp [totalB]
set_option maxRecDepth 100000 in
theorem totalB_le (l : List CallV) (k : Nat) : totalB (l.take k) ≤ totalB l := by
  have h : totalB (l.take k ++ l.drop k) = totalB (l.take k) + totalB (l.drop k) := by unfold totalB; rw [List.map_append, List.sum_append]
  rw [List.take_append_drop] at h
  omega
def big (l : List CallV) : Bool := decide (60 < l.length ∨ 5000 < totalB l)

end Go.Proofs.Ytgdedgfohjplmaa.Sec

/- Disks and rows beside one another. -/
namespace Go.Proofs.Ytgdedgfohjplmaa.Sec
open Go.RowKit Go.Maps

/-- The blocks of S below n, and all from m on. -/
def Beside (S : Nat → Prop) (n m : Nat) : Nat → Prop := fun b => (S b ∧ b < n) ∨ m ≤ b
set_option maxRecDepth 100000 in
theorem DiskAt.beside {w w2 : World} {S : Nat → Prop} {d : Nat} {D : Dsk} (h : DiskAt w S d D) (hg : w.grownBy w2 none) : DiskAt w2 (Beside S w.heap.size w2.heap.size) d D :=
  (h.mono (T := Beside S w.heap.size w2.heap.size) (fun _ hk hs => .inl ⟨hs, hk⟩)).grown hg
set_option maxRecDepth 100000 in
theorem beside_not {S : Nat → Prop} {n m b : Nat} (h1 : n ≤ b) (h2 : b < m) : ¬ Beside S n m b := by
  rintro (⟨_, h⟩ | h) <;> omega
set_option maxRecDepth 100000 in
theorem beside_new {S : Nat → Prop} {n m : Nat} : ∀ b, m ≤ b → Beside S n m b := fun _ h => .inr h
set_option maxRecDepth 100000 in
/-- Nothing below n turns. -/
theorem Off.from {S : Nat → Prop} {w w' : World} {n : Nat} (h : Off S w w') (hS : ∀ b, S b → n ≤ b) : Off (fun b => n ≤ b) w w' := h.mono (fun b _ hs => hS b hs)
set_option maxRecDepth 100000 in
theorem range_blk {w : World} {l : List UInt8} {g : Nat} {C : Array Value} {t : TypeId} {fr : Nat × Nat} (h : w.heap[g]? = some (.cells C t fr)) (hC : C.toList = u8s l) : w.rangeAt g 0 (u8s l) := fun j v hv => by
  simp only [World.cell?, h, Nat.zero_add]
  rw [← hC] at hv
  simpa using hv
set_option maxRecDepth 100000 in
theorem range_head {w : World} {g o : Nat} {l : List UInt8} (h : w.rangeAt g o (u8s l)) (k : Nat) : w.rangeAt g o (u8s (l.take k)) := fun j v hv => h j v (by
  simp only [u8s, List.map_take] at hv ⊢
  rw [List.getElem?_take] at hv
  split at hv
  · exact hv
  · cases hv)

set_option maxRecDepth 100000 in
theorem DiskAt.next {w w2 : World} {S T : Nat → Prop} {d : Nat} {D : Dsk} (h : DiskAt w S d D) (ho : Off T w w2) (hST : ∀ k, k < w.heap.size → S k → ¬ T k) : DiskAt w2 (Beside S w.heap.size w2.heap.size) d D :=
  ((h.mono (T := fun b => S b ∧ b < w.heap.size) (fun _ hk hs => ⟨hs, hk⟩)).off ho (fun k hk hs => hST k hk hs.1)).mono (fun _ _ hs => .inl hs)
/-- A number's three lowest bits. -/
def low3 (x : Int) : Nat := (bits .and .i64 x 7).toNat
set_option maxRecDepth 100000 in
theorem low3_both (x : Int) : bits .and .i64 x 7 = (low3 x : Int) ∧ low3 x < 8 := by
  have h : (BitVec.ofInt 64 x &&& BitVec.ofInt 64 7).toNat < 8 := by
    rw [BitVec.toNat_and]
    exact Nat.lt_of_le_of_lt Nat.and_le_right (by decide)
  have e : bits .and .i64 x 7 = ((BitVec.ofInt 64 x &&& BitVec.ofInt 64 7).toNat : Int) := by
    show IntKind.i64.wrap _ = _
    rw [IntKind.wrap_i64]
    show ((((BitVec.ofInt 64 x &&& BitVec.ofInt 64 7).toNat : Nat) : Int) + _) % _ - _ = _
    omega
  unfold low3
  rw [e]
  exact ⟨by simp, by simpa using h⟩

set_option maxRecDepth 100000 in
/-- A row keeps what it has while other blocks turn. -/
theorem row_off {w w' : World} {S : Nat → Prop} {B n sz : Nat} {e : TypeId} {v : Value} {xs : List Value} (h : w.ownsRow B e sz v n xs) (ho : Off S w w') (hv : ∀ g, v.ownBlock = some g → ¬ S g) : w'.ownsRow B e sz v n xs := by
  refine ⟨h.1, ?_⟩
  rcases h.2 with h2 | ⟨g, cap, cur, rfl, h3, hb, h4⟩
  · exact .inl h2
  · exact .inr ⟨g, cap, cur, rfl, h3, (ho.block g (Array.getElem?_eq_some_iff.1 hb).1 (hv g rfl)).trans hb, h4⟩
end Go.Proofs.Ytgdedgfohjplmaa.Sec

/- Bytes as strings; rows of strings. -/
namespace Go.Proofs.Ytgdedgfohjplmaa.Sec
open Go.RowKit Go.Maps

/-- Bytes as a Go string. (A plain name: the walk does not look into it.) -/
def bs (l : List UInt8) : ByteArray := ⟨l.toArray⟩
set_option maxRecDepth 100000 in
theorem bs_inj {a b : List UInt8} (h : bs a = bs b) : a = b := by
  unfold bs at h
  injection h with h
  simpa using h
abbrev strV (l : List UInt8) : Value := .string (bs l)
set_option maxRecDepth 100000 in
theorem run_string (w : World) (g off : Nat) (l : List UInt8) (cap : Nat) (h : w.rangeAt g off (u8s l)) : (convert 23 9 (.slice (some ⟨g, off, none⟩) l.length cap)).run Try.prog w = .ok (strV l) w := by
  have := run_convert_bytes_arg (P := Try.prog) w 23 5 Try.underlying23 Try.underlying5 g off l.length cap (l.map fun c => (c.toNat : Int)) (by simp) (fun i hi => by
    refine h i _ ?_
    simp [u8s, hi]) 9 Try.underlying9
  rw [this]
  congr 2
  unfold strOfNums bs
  congr 2
  rw [List.map_map]
  conv => rhs; rw [← List.map_id l]
  refine List.map_congr_left fun c _ => ?_
  simp
set_option maxRecDepth 100000 in
theorem info_str : (Try.prog.info? 9).map (fun i => (i.zero, i.size, i.bytes)) = some (some (.string ByteArray.empty), 1, 16) := by kernel_rfl

/-- A row of strings of one's own. -/
def StrRow (w : World) (B : Nat) (v : Value) (xs : List Value) : Prop := w.ownsRow B 9 1 v xs.length xs
set_option maxRecDepth 100000 in
theorem wpList_append_str {ops : Array Oper} {rest : List Oper} {o : Oper} {a : Act} {w : World} {Q : Exit → Act → World → Prop} (hgd : o.guard = none) (s x : Operand) (ho : o.op = .call { callee := .builtin .append, args := #[s, x], argTypes := #[35, 35] })
    (B : Nat) (v : Value) (xs : List Value) (y : Value) (hy : y.oneCell' = true) (hs : a.eval s = v) (hown : StrRow w B v xs) (g : Nat) (hx : a.eval x = .slice (some ⟨g, 0, none⟩) 1 1) (hc : w.cell? ⟨g, 0, none⟩ = some y) (hb : xs.length < 100000) (hbase : B ≤ w.heap.size)
    (h : ∀ v' w', StrRow w' B v' (xs ++ [y]) → w.grownBy w' v.ownBlock → wpList Try.prog ops Q rest (a.put o.dst v') w') : wpList Try.prog ops Q (o :: rest) a w := by
  obtain ⟨i0, hi0, he⟩ := Option.map_eq_some_iff.1 info_str
  simp only [Prod.mk.injEq] at he
  refine wpList_append_own _ hgd s x 35 ho B 9 i0 _ 1 16 Try.underlying35 hi0 he.1 he.2.1 he.2.2 rfl (by decide) v xs.length _ hs hown ⟨g, 0, none⟩ 1 1 [y] hx rfl ?_ ?_ (by unfold maxLen; omega) (by omega) hbase ?_
  · intro j z hj
    match j, hj with
    | 0, hj =>
      simp at hj
      subst hj
      simpa [Addr.add] using hc
  · intro z hz
    simp at hz
    subst hz
    exact hy
  · intro v' w' h1 h2 _
    refine h v' w' ?_ h2
    unfold StrRow
    rw [List.length_append]
    exact h1
end Go.Proofs.Ytgdedgfohjplmaa.Sec
