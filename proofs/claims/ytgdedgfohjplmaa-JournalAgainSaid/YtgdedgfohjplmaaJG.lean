/- A plain write: the disk's maps stay where they are. -/
import Derived.Test.YtgdedgfohjplmaaJC
import Derived.RangeFuncNested
import Derived.RangeFuncBound
import Derived.Test.YtgdedgfohjplmaaJF
import Derived.ScopeJumps
import Derived.WalkMore
import Derived.Test.YtgdedgfohjplmaaProg
namespace Go.Proofs.Ytgdedgfohjplmaa.Sec
open Go.RowKit Go.Maps

set_option maxRecDepth 100000 in
set_option maxHeartbeats 4000000 in
theorem write_kept (S : Nat → Prop) (d i : Nat) (D : Dsk) (l : List UInt8) (A : Option Addr) (cap : Nat) (w : World) (h : DiskAt w S d D) (hr : RowB w S A l) (hS : ∀ b, w.heap.size ≤ b → S b) (hi : i < D.n) (ho : D.off = false) (hl : l.length ≤ 128) (harm : D.armed = none) (hn : D.wr.length < 1000000) :
    Calls Try.prog 46 #[.pointer (some ⟨d, 0, none⟩), .int .i64 (i : Int), .slice A l.length cap] w fun e w' => e = .returned (.int .i64 0) ∧ DiskAt w' S d (D.push i (pad l)) ∧ Off S w w' ∧ w'.cell? ⟨d, 1, none⟩ = w.cell? ⟨d, 1, none⟩ ∧ w'.cell? ⟨d, 2, none⟩ = w.cell? ⟨d, 2, none⟩ := by
  have hask := asked_at S d D (i : Int) w h
  rw [show askedN D (i : Int) = 0 by unfold askedN; rw [if_neg (by simp [ho]), if_neg (by omega)]] at hask
  obtain ⟨h1, h2, mb, mn, sv, pa, hd, hB, hmb, hmn, hne, hsb, hsn, hrow, hos, ha⟩ := h
  have c4 : w.cell? ⟨d, 4, none⟩ = some (.pointer pa) := cell_blk hd 4
  have HD12 : Hid (w.cell? ⟨d, 1, none⟩ = some (.map (some mb)) ∧ w.cell? ⟨d, 2, none⟩ = some (.map (some mn))) := ⟨cell_blk hd 1, cell_blk hd 2⟩
  have ha' := ha
  rw [harm] at ha'
  have hpa : pa = none := ha'
  subst hpa
  have d128 : decide ((128 : Int) < (l.length : Int)) = false := by simp; omega
  have hbw := build_wr
  have hzw := zero_wr
  have HRW := Lib.hid (hr.grown (wr0_grown w i))
  have HA := Lib.hid hask
  have HL := Lib.hid hl
  have HPL := Lib.hid (pad_length l hl)
  have HTH := Lib.hid (wr0_there w i)
  have HB0 := Lib.hid (Off.refl S w)
  have HW0 := Lib.hid (And.intro hd (And.intro hsb (And.intro hsn (And.intro hrow ha))))
  have H2 := Lib.hid h2
  clear hd hask hr ha ha' hsb hsn hrow h2 hl
  go_enter Try.func46, Try.ntmps46
  go_wp2_with fail
  refine HA.out.mono ?_
  rintro e w' ⟨rfl, rfl⟩
  go_wp2_with (first
    | (with_reducible show Go.wpList _ _ _ ((⟨_, .store _ _ _, _, _, _, _⟩ : Oper) :: _) _ _; refine wpList_store_wr0 rfl _ _ rfl i (w) w.heap.size rfl rfl rfl rfl ?_; generalize (wrA 0 noughts).setIfInBounds 0 _ = junk; go_frame)
    | go_in)
  rw [run_copy_sec _ _ w.heap.size S A l cap HL.out HRW.out HTH.out]
  simp only [Result.andThen]
  rw [Oper.upon_value]
  have hsz := laid_size (w) i l
  have hgr := laid_grown (w) i l
  have hld := laid (w) i l HL.out
  skip
  have hs0 : (w).heap.size = w.heap.size := rfl
  obtain ⟨g, hgq⟩ : ∃ g, g = w.heap.size := ⟨_, rfl⟩
  rw [← hgq] at hsz hgr hld hS ⊢
  generalize (wr0 (w) i).setCells g 1 (u8s l) = w1 at hsz hgr hld ⊢
  obtain ⟨hd, hsb, hsn, hrow, ha⟩ := HW0.out
  have hdlt := (Array.getElem?_eq_some_iff.1 hd).1
  have hown := hrow.lt
  have hmnlt := hsn.lt
  have HMN : Hid (mn < g ∧ d < g) := by show _ ∧ _; omega
  clear hmnlt
  have hd1 := (hgr.block d hdlt (by simp)).trans hd
  have hsb1 := hsb.kept hgr (by simp)
  have hsn1 := hsn.kept hgr (by simp)
  have hrow1 := row_grown hrow hgr
  have ha1 := ha.grown hgr
  have c3x : w1.drew.cell? ⟨d, 3, none⟩ = some sv := cell_blk (w := w1.drew) hd1 3
  have hgA := drew_alloc_grown w1 (.cells (wrA i (pad l)) 71) none
  have hdA := (hgA.block d (by omega) (by simp)).trans hd1
  have c3y : (w1.drew.alloc (.cells (wrA i (pad l)) 71)).cell? ⟨d, 3, none⟩ = some sv := cell_blk hdA 3
  have c3z : (w1.alloc (.cells (wrA i (pad l)) 71)).cell? ⟨d, 3, none⟩ = some sv := c3y
  have HLAID := Lib.hid hld
  have HG : Hid (g < w1.heap.size) := by show g < _; omega
  have hgd : g ≠ d := by omega
  have HROW := Lib.hid (row_grown hrow1 hgA)
  obtain ⟨i0, hi0, he0⟩ := Option.map_eq_some_iff.1 info_wr
  simp only [Prod.mk.injEq] at he0
  have HI0 := Lib.hid (And.intro hi0 he0)
  have HZW : Hid ((Value.agg (wrA 0 noughts)).cells.size = 129) := by show (wrA 0 noughts).size = 129; rw [wrA_size, noughts_length]
  have HLL : Hid ((wrA i (pad l)).toList.length = 1 * 129) := by show _ = _; rw [Array.length_toList, wrA_size, HPL.out]
  have HNEWS : Hid (∀ j u, (wrA i (pad l)).toList[j]? = some u → (w1.drew.alloc (.cells (wrA i (pad l)) 71)).cell? ((⟨w1.heap.size, 0, none⟩ : Addr).add j) = some u) := by
    intro j u hu
    have hadd : (⟨w1.heap.size, 0, none⟩ : Addr).add j = ⟨w1.heap.size, j, none⟩ := by unfold Addr.add; split <;> simp_all
    rw [hadd]
    have := cell_new w1.drew (wrA i (pad l)) 71 j
    exact this.trans (by simpa using hu)
  have HM1 : Hid (D.wr.length + 1 ≤ maxLen) := by show _ ≤ _; unfold maxLen; omega
  have HM2 : Hid ((D.wr.length + 1) * 136 ≤ 140737488355328) := by show _ ≤ _; omega
  have HBB : Hid (0 ≤ (w1.drew.alloc (.cells (wrA i (pad l)) 71)).heap.size) := Nat.zero_le _
  have HPUSH : Hid (∀ sv2 w5, w5.ownsRow 0 71 129 sv2 (D.wr.length + 1) (rows D.wr ++ (wrA i (pad l)).toList) → (w1.drew.alloc (.cells (wrA i (pad l)) 71)).grownBy w5 sv.ownBlock → (sv2.ownBlock = sv.ownBlock ∨ sv2.ownBlock = some (w1.drew.alloc (.cells (wrA i (pad l)) 71)).heap.size) → _) := fun sv2 w5 ho5 hg5 hob => DiskAt.push (w := w1) (D := D) (sv2 := sv2) hd1 hB hsb1 hsn1 hrow1 hos ha1 (fun b hb => hS b (by omega)) hgA ho5 hg5 hob
  have HKEEP : Hid (∀ (sv2 : Value) (w5 : World), w5.ownsRow 0 71 129 sv2 (D.wr.length + 1) (rows D.wr ++ (wrA i (pad l)).toList) → (w1.drew.alloc (.cells (wrA i (pad l)) 71)).grownBy w5 sv.ownBlock → w5.rangeAt g 0 (wrA i (pad l)).toList ∧ g < w5.heap.size) := by
    intro sv2 w5 _ hg5
    have hgs := hg5.size
    have hgA' := hgA.size
    refine ⟨fun j v hv => ?_, by omega⟩
    have hne5 : some g ≠ sv.ownBlock := fun e => by have := (hown g e.symm).2; omega
    exact hg5.cell (hgA.cell (hld j v hv) (by simp)) hne5
  have HKEEP2 : Hid (∀ (sv2 : Value) (w5 : World), w5.ownsRow 0 71 129 sv2 (D.wr.length + 1) (rows D.wr ++ (wrA i (pad l)).toList) → (w1.drew.alloc (.cells (wrA i (pad l)) 71)).grownBy w5 sv.ownBlock → (w5.setCell ⟨d, 3, none⟩ sv2).rangeAt g 0 (wrA i (pad l)).toList ∧ g < (w5.setCell ⟨d, 3, none⟩ sv2).heap.size) := by
    intro sv2 w5 ho5 hg5
    obtain ⟨hr5, hs5⟩ := HKEEP.out sv2 w5 ho5 hg5
    refine ⟨fun j v hv => ?_, by simpa using hs5⟩
    rw [World.cell?_setCell_other _ _ _ _ (by simp)]
    exact hr5 j v hv
  have hb1 : Off S (w) w1 := Off.of_grown hgr (by simp)
  have HB1 := Lib.hid hb1
  have HSZ := Lib.hid hsz
  have HGQ := Lib.hid hgq
  clear hs0 HRW HTH c4 HW0 hd hsb hsn hrow ha hdlt hown hd1 hsb1 hsn1 hrow1 ha1 hgA hdA hld hi0 he0 hb1 hgr hsz hgq
  clear hbw hzw
  go_wp2_with fail
  refine wp_region_noPanic ?_
  refine wp_region_held_drew (S := fun w' => w'.rangeAt g 0 (wrA i (pad l)).toList ∧ g < w'.heap.size) (by kernel_rfl) ?hSa (fun hHeld => ?_)
  case hSa => exact ⟨(World.rangeAt_drew _ _ _ _).2 HLAID.out, by simpa using HG.out⟩
  refine wpAnyH_take (i := 0) (oi := ⟨_, _, _, _, _, _⟩) (v := ?va0) rfl (by kernel_rfl) (by kernel_rfl) (by kernel_rfl) (fun _ _ _ h => h) (Or.inl ⟨by rfl, ?hya0⟩) hHeld ?_
  case hya0 => (intro wS hSw; (try dsimp only at hSw); go_simp; (first | done | with_reducible rfl))
  try simp only [Act.put, List.setIfInBounds_toArray, List.set_cons_zero, List.set_cons_succ]
  refine wpAnyH_take (i := 1) (oi := ⟨_, _, _, _, _, _⟩) (v := ?va1) rfl (by kernel_rfl) (by kernel_rfl) (by kernel_rfl) (fun _ _ _ h => h) (Or.inl ⟨by rfl, ?hya1⟩) hHeld ?_
  case hya1 => (intro wS hSw; (try dsimp only at hSw); go_simp; (first | done | with_reducible rfl))
  try simp only [Act.put, List.setIfInBounds_toArray, List.set_cons_zero, List.set_cons_succ]
  refine wpAnyH_take (i := 2) (oi := ⟨_, _, _, _, _, _⟩) (v := ?va2) rfl (by kernel_rfl) (by kernel_rfl) (by kernel_rfl) (fun _ _ _ h => h) (Or.inl ⟨by rfl, ?hya2⟩) hHeld ?_
  case hya2 => (intro wS hSw; (try dsimp only at hSw); go_simp; (first | done | with_reducible rfl))
  try simp only [Act.put, List.setIfInBounds_toArray, List.set_cons_zero, List.set_cons_succ]
  refine wpAnyH_take (i := 3) (oi := ⟨_, _, _, _, _, _⟩) (v := ?va3) rfl (by kernel_rfl) (by kernel_rfl) (by kernel_rfl) (fun _ _ _ h => h) (Or.inl ⟨by rfl, ?hya3⟩) hHeld ?_
  case hya3 => (intro wS hSw; (try dsimp only at hSw); go_simp; (first | done | with_reducible rfl))
  try simp only [Act.put, List.setIfInBounds_toArray, List.set_cons_zero, List.set_cons_succ]
  refine wpAnyH_take (i := 5) (oi := ⟨_, _, _, _, _, _⟩) (v := .agg (wrA i (pad l))) rfl (by kernel_rfl) (by kernel_rfl) (by kernel_rfl) (fun _ _ _ h => h) (yields_wr (by rfl) (.tmp 8) rfl g rfl i (pad l) HPL.out (fun w h => h.1)) hHeld ?_
  try simp only [Act.put, List.setIfInBounds_toArray, List.set_cons_zero, List.set_cons_succ]
  refine wpAnyH_ready (rs := [4, 6]) (by kernel_rfl) (by simp) ?_
  refine AllReadyH.cons (o := ⟨_, _, _, _, _, _⟩) rfl (fun K hK => ?_) (AllReadyH.cons (o := ⟨_, _, _, _, _, _⟩) rfl (fun K hK => ?_) AllReadyH.nil)
  · go_simp
    refine hK.out _ _ ?kax4 (fun hNew => ?_)
    case kax4 => (try dsimp only); exact hHeld
    clear hK K hHeld
    have hHeld := hNew
    clear hNew
    try simp only [Act.put, List.setIfInBounds_toArray, List.set_cons_zero, List.set_cons_succ]
    refine wpAnyH_ready (rs := [6]) (by kernel_rfl) (by simp) ?_
    refine AllReadyH.cons (o := ⟨_, _, _, _, _, _⟩) rfl (fun K hK => ?_) AllReadyH.nil
    refine step_wp rfl ?_
    refine wp_one_wr (.tmp 51) rfl i (pad l) HPL.out rfl ?_
    refine hK.out _ _ ?kax6 (fun hNew => ?_)
    case kax6 => (try dsimp only); exact ⟨World.rangeAt_alloc hHeld.1 _, by rw [World.size_alloc]; exact Nat.lt_succ_of_lt hHeld.2⟩
    clear hK K hHeld
    have hHeld := hNew
    clear hNew
    try simp only [Act.put, List.setIfInBounds_toArray, List.set_cons_zero, List.set_cons_succ]
    refine wpAnyH_ready (rs := [7]) (by kernel_rfl) (by simp) ?_
    refine AllReadyH.cons (o := ⟨_, _, _, _, _, _⟩) rfl (fun K hK => ?_) AllReadyH.nil
    refine step_append_own rfl (.tmp 50) (.tmp 52) 49 71 rfl i0 _ 129 136 Try.underlying49 HI0.out.1 HI0.out.2.1 HI0.out.2.2.1 HI0.out.2.2.2 HZW.out (by decide) 0 sv D.wr.length (rows D.wr) HROW.out rfl ⟨w1.heap.size, 0, none⟩ 1 1 (wrA i (pad l)).toList rfl HLL.out HNEWS.out (wrA_one i (pad l)) HM1.out HM2.out HBB.out ?_
    intro sv2 w5 hown5 hgr5 hob5
    obtain ⟨g2, cap2, rfl⟩ := row_shape hown5
    have HOWN5 := Lib.hid hown5
    have HGR5 := Lib.hid hgr5
    clear hown5 hgr5
    have hp := HPUSH.out _ w5 HOWN5.out HGR5.out hob5
    have d3 := cell_blk hp.1 3
    have z3 := frozen_blk hp.1 3
    have HP := Lib.hid hp
    clear hp
    refine hK.out _ _ ?kax7 (fun hNew => ?_)
    case kax7 => (try dsimp only); exact HKEEP.out _ _ HOWN5.out HGR5.out
    clear hK K hHeld
    have hHeld := hNew
    clear hNew
    try simp only [Act.put, List.setIfInBounds_toArray, List.set_cons_zero, List.set_cons_succ]
    refine wpAnyH_take (i := 8) (oi := ⟨_, _, _, _, _, _⟩) (v := ?vax8) rfl (by kernel_rfl) (by kernel_rfl) (by kernel_rfl) (fun _ _ _ h => h) (Or.inl ⟨by rfl, ?hyax8⟩) hHeld ?_
    case hyax8 => (intro wS hSw; (try dsimp only at hSw); go_simp; (first | done | with_reducible rfl))
    try simp only [Act.put, List.setIfInBounds_toArray, List.set_cons_zero, List.set_cons_succ]
    refine wpAnyH_take (i := 9) (oi := ⟨_, _, _, _, _, _⟩) (v := ?vax9) rfl (by kernel_rfl) (by kernel_rfl) (by kernel_rfl) (fun _ _ _ h => h) (Or.inl ⟨by rfl, ?hyax9⟩) hHeld ?_
    case hyax9 => (intro wS hSw; (try dsimp only at hSw); go_simp; (first | done | with_reducible rfl))
    try simp only [Act.put, List.setIfInBounds_toArray, List.set_cons_zero, List.set_cons_succ]
    refine wpAnyH_ready (rs := [10]) (by kernel_rfl) (by simp) ?_
    refine AllReadyH.cons (o := ⟨_, _, _, _, _, _⟩) rfl (fun K hK => ?_) AllReadyH.nil
    go_simp
    refine hK.out _ _ ?kax10 (fun hNew => ?_)
    case kax10 => (try dsimp only); exact HKEEP2.out _ _ HOWN5.out HGR5.out
    clear hK K hHeld
    have hHeld := hNew
    clear hNew
    try simp only [Act.put, List.setIfInBounds_toArray, List.set_cons_zero, List.set_cons_succ]
    refine wpAnyH_done (by kernel_rfl) ?_ _
    refine NoPanic.normal ?_
    obtain ⟨_, hd6, hsb6, hsn6, hrow6, hos6, ha6, hbw6⟩ := HP.out
    have hr6 := hHeld.1
    clear hHeld HP d3 z3 HOWN5 HGR5
    generalize w5.setCell ⟨d, 3, none⟩ (.slice (some ⟨g2, 0, none⟩) (D.wr.length + 1) cap2) = w6 at hd6 hsb6 hsn6 hrow6 ha6 hbw6 hr6 ⊢
    have HD6 := Lib.hid hd6
    have HSN6 := Lib.hid hsn6
    have HALL := Lib.hid (And.intro hsb6 (And.intro hrow6 (And.intro hos6 (And.intro ha6 hbw6))))
    have hc2 : w6.drew.cell? ⟨d, 2, none⟩ = some (.map (some mn)) := cell_blk (w := w6.drew) hd6 2
    have HC2 := Lib.hid hc2
    have HR6 := Lib.hid hr6
    clear hd6 hsb6 hsn6 hrow6 hos6 ha6 hbw6 hr6 hc2 c3x c3y c3z
    go_wp2_with fail
    refine wp_region_noPanic ?_
    refine wp_region_held_drew (S := fun w' => w'.rangeAt g 0 (wrA i (pad l)).toList ∧ w'.cell? ⟨d, 2, none⟩ = some (.map (some mn))) (by kernel_rfl) ?hSaxz (fun hHeld => ?_)
    case hSaxz => exact ⟨(World.rangeAt_drew _ _ _ _).2 HR6.out, HC2.out⟩
    refine wpAnyH_take (i := 0) (oi := ⟨_, _, _, _, _, _⟩) (v := ?vaxz0) rfl (by kernel_rfl) (by kernel_rfl) (by kernel_rfl) (fun _ _ _ h => h) (Or.inl ⟨by rfl, ?hyaxz0⟩) hHeld ?_
    case hyaxz0 => (intro wS hSw; (try dsimp only at hSw); go_simp; (first | done | with_reducible rfl))
    try simp only [Act.put, List.setIfInBounds_toArray, List.set_cons_zero, List.set_cons_succ]
    refine wpAnyH_take (i := 1) (oi := ⟨_, _, _, _, _, _⟩) (v := ?vaxz1) rfl (by kernel_rfl) (by kernel_rfl) (by kernel_rfl) (fun _ _ _ h => h) (Or.inl ⟨by rfl, ?hyaxz1⟩) hHeld ?_
    case hyaxz1 => (intro wS hSw; (try dsimp only at hSw); go_simp; (first | done | with_reducible rfl))
    try simp only [Act.put, List.setIfInBounds_toArray, List.set_cons_zero, List.set_cons_succ]
    refine wpAnyH_take (i := 2) (oi := ⟨_, _, _, _, _, _⟩) (v := ?vaxz2) rfl (by kernel_rfl) (by kernel_rfl) (by kernel_rfl) (fun _ _ _ h => h) (Or.inl ⟨by rfl, ?hyaxz2⟩) hHeld ?_
    case hyaxz2 => (intro wS hSw; (try dsimp only at hSw); go_simp; (first | done | with_reducible rfl))
    try simp only [Act.put, List.setIfInBounds_toArray, List.set_cons_zero, List.set_cons_succ]
    refine wpAnyH_take (i := 3) (oi := ⟨_, _, _, _, _, _⟩) (v := ?vaxz3) rfl (by kernel_rfl) (by kernel_rfl) (by kernel_rfl) (fun _ _ _ h => h) (Or.inl ⟨by rfl, ?hyaxz3⟩) hHeld ?_
    case hyaxz3 => (intro wS hSw; (try dsimp only at hSw); go_simp; (first | done | with_reducible rfl))
    try simp only [Act.put, List.setIfInBounds_toArray, List.set_cons_zero, List.set_cons_succ]
    refine wpAnyH_take (i := 4) (oi := ⟨_, _, _, _, _, _⟩) (v := .agg (wrA i (pad l))) rfl (by kernel_rfl) (by kernel_rfl) (by kernel_rfl) (fun _ _ _ h => h) (yields_wr (by rfl) (.tmp 8) rfl g rfl i (pad l) HPL.out (fun w h => h.1)) hHeld ?_
    try simp only [Act.put, List.setIfInBounds_toArray, List.set_cons_zero, List.set_cons_succ]
    refine wpAnyH_ready (rs := [5]) (by kernel_rfl) (by simp) ?_
    refine AllReadyH.cons (o := ⟨_, _, _, _, _, _⟩) rfl (fun K hK => ?_) AllReadyH.nil
    go_simp
    refine (put_at mn D.n i D.now (pad l) _ hi h1 HPL.out (by exact HSN6.out.kept (drew_grown w6 none) (by simp))).mono ?_
    rintro e w7 ⟨rfl, hsn7, hg7⟩
    have HSN7 := Lib.hid hsn7
    have HG7 := Lib.hid ((drew_grown w6 (some mn)).andThen hg7 (fun _ hj => .inr hj))
    clear hsn7 hg7
    go_wp2_with fail
    refine hK.out _ _ ?kaxz5 (fun hNew => ?_)
    case kaxz5 => (try dsimp only); exact ⟨fun j v hv => HG7.out.cell (HR6.out j v hv) (fun e => by have := HMN.out; injection e with e; dsimp only at e; omega), (cell_blk ((HG7.out.block d (Array.getElem?_eq_some_iff.1 HD6.out).1 (fun e => by have := HSN6.out.ne HD6.out; injection e with e; exact this e.symm)).trans HD6.out) 2)⟩
    clear hK K hHeld
    have hHeld := hNew
    clear hNew
    try simp only [Act.put, List.setIfInBounds_toArray, List.set_cons_zero, List.set_cons_succ]
    refine wpAnyH_done (by kernel_rfl) ?_ _
    refine NoPanic.normal ?_
    go_wp2_with fail
    go_ret
    obtain ⟨hsb6, hrow6, hos6, ha6, hbw6⟩ := HALL.out
    have fin := disk_now (D := { (D : Dsk) with wr := D.wr ++ [(i, pad l)] }) h1 (fun p hp => by rcases List.mem_append.1 hp with hp | hp; exact H2.out p hp; rw [List.mem_singleton.1 hp]; exact ⟨hi, HPL.out⟩) HD6.out hB hmb hmn hne hsb6 HSN6.out hrow6 hos6 ha6 HG7.out HSN7.out
    have hd7 := (HG7.out.block d (Array.getElem?_eq_some_iff.1 HD6.out).1 (fun e => by have := HSN6.out.ne HD6.out; injection e with e; exact this e.symm)).trans HD6.out
    exact ⟨rfl, fin.1, ((HB0.out.trans HB1.out).trans hbw6).trans fin.2, (cell_blk hd7 1).trans HD12.out.1.symm, (cell_blk hd7 2).trans HD12.out.2.symm⟩
  · refine step_wp rfl ?_
    refine wp_one_wr (.tmp 51) rfl i (pad l) HPL.out rfl ?_
    refine hK.out _ _ ?kay6 (fun hNew => ?_)
    case kay6 => (try dsimp only); exact ⟨World.rangeAt_alloc hHeld.1 _, by rw [World.size_alloc]; exact Nat.lt_succ_of_lt hHeld.2⟩
    clear hK K hHeld
    have hHeld := hNew
    clear hNew
    try simp only [Act.put, List.setIfInBounds_toArray, List.set_cons_zero, List.set_cons_succ]
    refine wpAnyH_ready (rs := [4]) (by kernel_rfl) (by simp) ?_
    refine AllReadyH.cons (o := ⟨_, _, _, _, _, _⟩) rfl (fun K hK => ?_) AllReadyH.nil
    go_simp
    refine hK.out _ _ ?kay4 (fun hNew => ?_)
    case kay4 => (try dsimp only); exact hHeld
    clear hK K hHeld
    have hHeld := hNew
    clear hNew
    try simp only [Act.put, List.setIfInBounds_toArray, List.set_cons_zero, List.set_cons_succ]
    refine wpAnyH_ready (rs := [7]) (by kernel_rfl) (by simp) ?_
    refine AllReadyH.cons (o := ⟨_, _, _, _, _, _⟩) rfl (fun K hK => ?_) AllReadyH.nil
    refine step_append_own rfl (.tmp 50) (.tmp 52) 49 71 rfl i0 _ 129 136 Try.underlying49 HI0.out.1 HI0.out.2.1 HI0.out.2.2.1 HI0.out.2.2.2 HZW.out (by decide) 0 sv D.wr.length (rows D.wr) HROW.out rfl ⟨w1.heap.size, 0, none⟩ 1 1 (wrA i (pad l)).toList rfl HLL.out HNEWS.out (wrA_one i (pad l)) HM1.out HM2.out HBB.out ?_
    intro sv2 w5 hown5 hgr5 hob5
    obtain ⟨g2, cap2, rfl⟩ := row_shape hown5
    have HOWN5 := Lib.hid hown5
    have HGR5 := Lib.hid hgr5
    clear hown5 hgr5
    have hp := HPUSH.out _ w5 HOWN5.out HGR5.out hob5
    have d3 := cell_blk hp.1 3
    have z3 := frozen_blk hp.1 3
    have HP := Lib.hid hp
    clear hp
    refine hK.out _ _ ?kay7 (fun hNew => ?_)
    case kay7 => (try dsimp only); exact HKEEP.out _ _ HOWN5.out HGR5.out
    clear hK K hHeld
    have hHeld := hNew
    clear hNew
    try simp only [Act.put, List.setIfInBounds_toArray, List.set_cons_zero, List.set_cons_succ]
    refine wpAnyH_take (i := 8) (oi := ⟨_, _, _, _, _, _⟩) (v := ?vay8) rfl (by kernel_rfl) (by kernel_rfl) (by kernel_rfl) (fun _ _ _ h => h) (Or.inl ⟨by rfl, ?hyay8⟩) hHeld ?_
    case hyay8 => (intro wS hSw; (try dsimp only at hSw); go_simp; (first | done | with_reducible rfl))
    try simp only [Act.put, List.setIfInBounds_toArray, List.set_cons_zero, List.set_cons_succ]
    refine wpAnyH_take (i := 9) (oi := ⟨_, _, _, _, _, _⟩) (v := ?vay9) rfl (by kernel_rfl) (by kernel_rfl) (by kernel_rfl) (fun _ _ _ h => h) (Or.inl ⟨by rfl, ?hyay9⟩) hHeld ?_
    case hyay9 => (intro wS hSw; (try dsimp only at hSw); go_simp; (first | done | with_reducible rfl))
    try simp only [Act.put, List.setIfInBounds_toArray, List.set_cons_zero, List.set_cons_succ]
    refine wpAnyH_ready (rs := [10]) (by kernel_rfl) (by simp) ?_
    refine AllReadyH.cons (o := ⟨_, _, _, _, _, _⟩) rfl (fun K hK => ?_) AllReadyH.nil
    go_simp
    refine hK.out _ _ ?kay10 (fun hNew => ?_)
    case kay10 => (try dsimp only); exact HKEEP2.out _ _ HOWN5.out HGR5.out
    clear hK K hHeld
    have hHeld := hNew
    clear hNew
    try simp only [Act.put, List.setIfInBounds_toArray, List.set_cons_zero, List.set_cons_succ]
    refine wpAnyH_done (by kernel_rfl) ?_ _
    refine NoPanic.normal ?_
    obtain ⟨_, hd6, hsb6, hsn6, hrow6, hos6, ha6, hbw6⟩ := HP.out
    have hr6 := hHeld.1
    clear hHeld HP d3 z3 HOWN5 HGR5
    generalize w5.setCell ⟨d, 3, none⟩ (.slice (some ⟨g2, 0, none⟩) (D.wr.length + 1) cap2) = w6 at hd6 hsb6 hsn6 hrow6 ha6 hbw6 hr6 ⊢
    have HD6 := Lib.hid hd6
    have HSN6 := Lib.hid hsn6
    have HALL := Lib.hid (And.intro hsb6 (And.intro hrow6 (And.intro hos6 (And.intro ha6 hbw6))))
    have hc2 : w6.drew.cell? ⟨d, 2, none⟩ = some (.map (some mn)) := cell_blk (w := w6.drew) hd6 2
    have HC2 := Lib.hid hc2
    have HR6 := Lib.hid hr6
    clear hd6 hsb6 hsn6 hrow6 hos6 ha6 hbw6 hr6 hc2 c3x c3y c3z
    go_wp2_with fail
    refine wp_region_noPanic ?_
    refine wp_region_held_drew (S := fun w' => w'.rangeAt g 0 (wrA i (pad l)).toList ∧ w'.cell? ⟨d, 2, none⟩ = some (.map (some mn))) (by kernel_rfl) ?hSayz (fun hHeld => ?_)
    case hSayz => exact ⟨(World.rangeAt_drew _ _ _ _).2 HR6.out, HC2.out⟩
    refine wpAnyH_take (i := 0) (oi := ⟨_, _, _, _, _, _⟩) (v := ?vayz0) rfl (by kernel_rfl) (by kernel_rfl) (by kernel_rfl) (fun _ _ _ h => h) (Or.inl ⟨by rfl, ?hyayz0⟩) hHeld ?_
    case hyayz0 => (intro wS hSw; (try dsimp only at hSw); go_simp; (first | done | with_reducible rfl))
    try simp only [Act.put, List.setIfInBounds_toArray, List.set_cons_zero, List.set_cons_succ]
    refine wpAnyH_take (i := 1) (oi := ⟨_, _, _, _, _, _⟩) (v := ?vayz1) rfl (by kernel_rfl) (by kernel_rfl) (by kernel_rfl) (fun _ _ _ h => h) (Or.inl ⟨by rfl, ?hyayz1⟩) hHeld ?_
    case hyayz1 => (intro wS hSw; (try dsimp only at hSw); go_simp; (first | done | with_reducible rfl))
    try simp only [Act.put, List.setIfInBounds_toArray, List.set_cons_zero, List.set_cons_succ]
    refine wpAnyH_take (i := 2) (oi := ⟨_, _, _, _, _, _⟩) (v := ?vayz2) rfl (by kernel_rfl) (by kernel_rfl) (by kernel_rfl) (fun _ _ _ h => h) (Or.inl ⟨by rfl, ?hyayz2⟩) hHeld ?_
    case hyayz2 => (intro wS hSw; (try dsimp only at hSw); go_simp; (first | done | with_reducible rfl))
    try simp only [Act.put, List.setIfInBounds_toArray, List.set_cons_zero, List.set_cons_succ]
    refine wpAnyH_take (i := 3) (oi := ⟨_, _, _, _, _, _⟩) (v := ?vayz3) rfl (by kernel_rfl) (by kernel_rfl) (by kernel_rfl) (fun _ _ _ h => h) (Or.inl ⟨by rfl, ?hyayz3⟩) hHeld ?_
    case hyayz3 => (intro wS hSw; (try dsimp only at hSw); go_simp; (first | done | with_reducible rfl))
    try simp only [Act.put, List.setIfInBounds_toArray, List.set_cons_zero, List.set_cons_succ]
    refine wpAnyH_take (i := 4) (oi := ⟨_, _, _, _, _, _⟩) (v := .agg (wrA i (pad l))) rfl (by kernel_rfl) (by kernel_rfl) (by kernel_rfl) (fun _ _ _ h => h) (yields_wr (by rfl) (.tmp 8) rfl g rfl i (pad l) HPL.out (fun w h => h.1)) hHeld ?_
    try simp only [Act.put, List.setIfInBounds_toArray, List.set_cons_zero, List.set_cons_succ]
    refine wpAnyH_ready (rs := [5]) (by kernel_rfl) (by simp) ?_
    refine AllReadyH.cons (o := ⟨_, _, _, _, _, _⟩) rfl (fun K hK => ?_) AllReadyH.nil
    go_simp
    refine (put_at mn D.n i D.now (pad l) _ hi h1 HPL.out (by exact HSN6.out.kept (drew_grown w6 none) (by simp))).mono ?_
    rintro e w7 ⟨rfl, hsn7, hg7⟩
    have HSN7 := Lib.hid hsn7
    have HG7 := Lib.hid ((drew_grown w6 (some mn)).andThen hg7 (fun _ hj => .inr hj))
    clear hsn7 hg7
    go_wp2_with fail
    refine hK.out _ _ ?kayz5 (fun hNew => ?_)
    case kayz5 => (try dsimp only); exact ⟨fun j v hv => HG7.out.cell (HR6.out j v hv) (fun e => by have := HMN.out; injection e with e; dsimp only at e; omega), (cell_blk ((HG7.out.block d (Array.getElem?_eq_some_iff.1 HD6.out).1 (fun e => by have := HSN6.out.ne HD6.out; injection e with e; exact this e.symm)).trans HD6.out) 2)⟩
    clear hK K hHeld
    have hHeld := hNew
    clear hNew
    try simp only [Act.put, List.setIfInBounds_toArray, List.set_cons_zero, List.set_cons_succ]
    refine wpAnyH_done (by kernel_rfl) ?_ _
    refine NoPanic.normal ?_
    go_wp2_with fail
    go_ret
    obtain ⟨hsb6, hrow6, hos6, ha6, hbw6⟩ := HALL.out
    have fin := disk_now (D := { (D : Dsk) with wr := D.wr ++ [(i, pad l)] }) h1 (fun p hp => by rcases List.mem_append.1 hp with hp | hp; exact H2.out p hp; rw [List.mem_singleton.1 hp]; exact ⟨hi, HPL.out⟩) HD6.out hB hmb hmn hne hsb6 HSN6.out hrow6 hos6 ha6 HG7.out HSN7.out
    have hd7 := (HG7.out.block d (Array.getElem?_eq_some_iff.1 HD6.out).1 (fun e => by have := HSN6.out.ne HD6.out; injection e with e; exact this e.symm)).trans HD6.out
    exact ⟨rfl, fin.1, ((HB0.out.trans HB1.out).trans hbw6).trans fin.2, (cell_blk hd7 1).trans HD12.out.1.symm, (cell_blk hd7 2).trans HD12.out.2.symm⟩
end Go.Proofs.Ytgdedgfohjplmaa.Sec

/- The blocks that an unarmed disk holds, just these. -/
namespace Go.Proofs.Ytgdedgfohjplmaa.Sec
open Go.RowKit Go.Maps

def Tight (w : World) (d b : Nat) : Prop := b = d ∨ w.cell? ⟨d, 1, none⟩ = some (.map (some b)) ∨ w.cell? ⟨d, 2, none⟩ = some (.map (some b)) ∨ ∃ sv, w.cell? ⟨d, 3, none⟩ = some sv ∧ sv.ownBlock = some b
section
variable {w w' : World} {S : Nat → Prop} {d b B mb mn : Nat} {D : Dsk}
theorem DiskAt.tight (h : DiskAt w S d D) (ha : D.armed = none) : DiskAt w (Tight w d) d D := by
  obtain ⟨h1, h2, mb, mn, sv, pa, hd, hB, hmb, hmn, hne, hsb, hsn, hrow, hos, harm⟩ := h
  rw [ha] at harm
  refine ⟨h1, h2, mb, mn, sv, pa, hd, .inl rfl, .inr (.inl (cell_blk hd 1)), .inr (.inr (.inl (cell_blk hd 2))), hne, hsb, hsn, hrow, fun g hg => .inr (.inr (.inr ⟨sv, cell_blk hd 3, hg⟩)), ?_⟩
  rw [ha]
  exact harm
theorem DiskAt.tight_sub (h : DiskAt w S d D) (hb : Tight w d b) : S b := by
  obtain ⟨h1, h2, mb, mn, sv, pa, hd, hB, hmb, hmn, hne, hsb, hsn, hrow, hos, harm⟩ := h
  have c1 : w.cell? ⟨d, 1, none⟩ = some (.map (some mb)) := cell_blk hd 1
  have c2 : w.cell? ⟨d, 2, none⟩ = some (.map (some mn)) := cell_blk hd 2
  have c3 : w.cell? ⟨d, 3, none⟩ = some sv := cell_blk hd 3
  rcases hb with e | e | e | ⟨sv', e, ho⟩
  · exact e ▸ hB
  · rw [c1] at e
    injection e with e; injection e with e; injection e with e
    exact e ▸ hmb
  · rw [c2] at e
    injection e with e; injection e with e; injection e with e
    exact e ▸ hmn
  · rw [c3] at e
    injection e with e
    exact hos b (e ▸ ho)
theorem DiskAt.tight_lt (h : DiskAt w S d D) (hb : Tight w d b) : b < w.heap.size :=
  ((h.mono (T := fun b => S b ∧ b < w.heap.size) (fun _ hk hs => ⟨hs, hk⟩)).tight_sub hb).2
/-- What a block of a disk is. -/
theorem DiskAt.tight_kind (h : DiskAt w S d D) (hb : Tight w d b) {C : Array Value} {t : TypeId} {fr : Nat × Nat} (hc : w.heap[b]? = some (.cells C t fr)) : t = 52 ∨ t = 71 := by
  obtain ⟨h1, h2, mb, mn, sv, pa, hd, hB, hmb, hmn, hne, hsb, hsn, hrow, hos, harm⟩ := h
  have c1 : w.cell? ⟨d, 1, none⟩ = some (.map (some mb)) := cell_blk hd 1
  have c2 : w.cell? ⟨d, 2, none⟩ = some (.map (some mn)) := cell_blk hd 2
  have c3 : w.cell? ⟨d, 3, none⟩ = some sv := cell_blk hd 3
  rcases hb with e | e | e | ⟨sv', e, ho⟩
  · rw [e, hd] at hc
    injection hc with hc; injection hc with _ hc
    exact .inl hc.symm
  · rw [c1] at e
    injection e with e; injection e with e; injection e with e
    obtain ⟨n, E, hn, ⟨es, clock, hbm, F⟩, hk⟩ := hsb
    rw [← e, hbm] at hc
    cases hc
  · rw [c2] at e
    injection e with e; injection e with e; injection e with e
    obtain ⟨n, E, hn, ⟨es, clock, hbm, F⟩, hk⟩ := hsn
    rw [← e, hbm] at hc
    cases hc
  · rw [c3] at e
    injection e with e
    obtain ⟨_, ⟨e2, _⟩ | ⟨g, cap, cur, e2, h3, hcur, _⟩⟩ := hrow
    · rw [← e, e2] at ho
      simp [Value.ownBlock] at ho
    · rw [← e, e2] at ho
      simp [Value.ownBlock] at ho
      rw [← ho, hcur] at hc
      injection hc with hc; injection hc with _ hc
      exact .inr hc.symm
/-- The book-keeping of loops leaves a disk as it is. -/
theorem DiskAt.own {row : Option Nat} (h : DiskAt w (Tight w d) d D) (ha : D.armed = none) (c1 : w.cell? ⟨d, 1, none⟩ = some (.map (some mb))) (c2 : w.cell? ⟨d, 2, none⟩ = some (.map (some mn))) (hmb : mb < B) (hmn : mn < B)
    (hg : w.grownBy w' row) (hr : ∀ r, row = some r → B ≤ r ∧ ∃ o : Obj, w.heap[r]? = some o ∧ o.isCells = false) : DiskAt w' (Tight w' d) d D ∧ (∀ j, w'.cell? ⟨d, j, none⟩ = w.cell? ⟨d, j, none⟩) ∧ ∀ b, Tight w' d b ↔ Tight w d b := by
  have h' := h
  obtain ⟨h1, h2, mb', mn', sv, pa, hd, hB, _, _, hne, hsb, hsn, hrow, hos, harm⟩ := h
  have k1 : w.cell? ⟨d, 1, none⟩ = some (.map (some mb')) := cell_blk hd 1
  have k2 : w.cell? ⟨d, 2, none⟩ = some (.map (some mn')) := cell_blk hd 2
  have e1 : mb' = mb := by
    rw [k1] at c1
    injection c1 with e; injection e with e; injection e with e
  have e2 : mn' = mn := by
    rw [k2] at c2
    injection c2 with e; injection e with e; injection e with e
  subst e1 e2
  have cellsNo : ∀ b C t, w.heap[b]? = some (.cells C t) → some b ≠ row := fun b C t hb e => by
    obtain ⟨_, o, ho, hc⟩ := hr b e.symm
    rw [hb] at ho
    cases ho
    cases hc
  have small : ∀ b, b < B → some b ≠ row := fun b hb e => by have := (hr b e.symm).1; omega
  have hdlt := (Array.getElem?_eq_some_iff.1 hd).1
  have hd' := (hg.block d hdlt (cellsNo d _ _ hd)).trans hd
  have hcell : ∀ j, w'.cell? ⟨d, j, none⟩ = w.cell? ⟨d, j, none⟩ := fun j => by rw [cell_blk hd', cell_blk hd]
  have hT : ∀ b, Tight w' d b ↔ Tight w d b := fun b => by unfold Tight; rw [hcell, hcell, hcell]
  refine ⟨?_, hcell, hT⟩
  rw [ha] at harm
  refine ⟨h1, h2, mb', mn', sv, pa, hd', .inl rfl, (hT _).2 (.inr (.inl k1)), (hT _).2 (.inr (.inr (.inl k2))), hne, hsb.kept hg (small _ hmb), hsn.kept hg (small _ hmn), ?_, fun g hg => (hT _).2 (hos g hg), by rw [ha]; exact harm⟩
  refine World.ownsRow.kept hrow hg ?_
  obtain ⟨_, ⟨e, _⟩ | ⟨g, cap, cur, e, h3, hcur, _⟩⟩ := id hrow
  · exact .inl (by rw [e]; rfl)
  · exact .inr (by rw [e]; exact cellsNo g _ _ hcur)
theorem DiskAt.tight_big {k : Nat} (h : DiskAt w S d D) (c1 : w.cell? ⟨d, 1, none⟩ = some (.map (some mb))) (c2 : w.cell? ⟨d, 2, none⟩ = some (.map (some mn))) (hmb : mb < B) (hmn : mn < B) (hk : B ≤ k) (hT : Tight w d k) : ∃ C t, w.heap[k]? = some (.cells C t) := by
  obtain ⟨h1, h2, mb', mn', sv, pa, hd, hB, hmb', hmn', hne, hsb, hsn, hrow, hos, harm⟩ := h
  have c3 : w.cell? ⟨d, 3, none⟩ = some sv := cell_blk hd 3
  rcases hT with e | e | e | ⟨sv', e, ho⟩
  · rw [e]
    exact ⟨_, _, hd⟩
  · rw [c1] at e
    injection e with e; injection e with e; injection e with e
    omega
  · rw [c2] at e
    injection e with e; injection e with e; injection e with e
    omega
  · rw [c3] at e
    injection e with e
    obtain ⟨_, ⟨e2, _⟩ | ⟨g, cap, cur, e2, h3, hcur, _⟩⟩ := hrow
    · rw [← e, e2] at ho
      simp [Value.ownBlock] at ho
    · rw [← e, e2] at ho
      simp [Value.ownBlock] at ho
      exact ⟨_, _, ho ▸ hcur⟩
end
end Go.Proofs.Ytgdedgfohjplmaa.Sec

/- The journal: parts are put. -/
namespace Go.Proofs.Ytgdedgfohjplmaa.Jnl
open Go.RowKit Go.Maps Go.Shelf Sec
attribute [local go_sem] Oper.semAt_some

/-- Sectors written one behind the other. -/
def pushes (D : Dsk) (base : Nat) (f : Nat → List UInt8) (is : List Nat) : Dsk := is.foldl (fun D i => D.push (base + i) (f i)) D
theorem pushes_snoc (D : Dsk) (base : Nat) (f : Nat → List UInt8) (is : List Nat) (i : Nat) : pushes D base f (is ++ [i]) = (pushes D base f is).push (base + i) (f i) := by simp [pushes]
theorem pushes_n (D : Dsk) (base : Nat) (f : Nat → List UInt8) (is : List Nat) : (pushes D base f is).n = D.n ∧ (pushes D base f is).off = D.off ∧ (pushes D base f is).armed = D.armed ∧ (pushes D base f is).wr.length = D.wr.length + is.length := by
  induction is generalizing D with
  | nil => exact ⟨rfl, rfl, rfl, rfl⟩
  | cons i is ih =>
    obtain ⟨h1, h2, h3, h4⟩ := ih (D.push (base + i) (f i))
    refine ⟨h1, h2, h3, ?_⟩
    show (pushes (D.push (base + i) (f i)) base f is).wr.length = _
    rw [h4]
    show (D.wr ++ [(base + i, f i)]).length + is.length = _
    simp
    omega
theorem seven (w : World) (o0 o1 o2 o3 o4 o5 o6 : Obj) : let y := ((((((w.alloc o0).alloc o1).alloc o2).alloc o3).alloc o4).alloc o5).alloc o6
    y.heap.size = w.heap.size + 7 ∧ w.grownBy y none ∧ y.heap[w.heap.size]? = some o0 ∧ y.heap[w.heap.size + 1]? = some o1 ∧ y.heap[w.heap.size + 1 + 1]? = some o2 ∧ y.heap[w.heap.size + 1 + 1 + 1]? = some o3 ∧ y.heap[w.heap.size + 1 + 1 + 1 + 1]? = some o4 ∧ y.heap[w.heap.size + 1 + 1 + 1 + 2]? = some o5 ∧ y.heap[w.heap.size + 1 + 1 + 1 + 3]? = some o6 := by
  intro y
  have e : y.heap = ((((((w.heap.push o0).push o1).push o2).push o3).push o4).push o5).push o6 := rfl
  have look : ∀ k, y.heap[k]? = if k = w.heap.size + 6 then some o6 else if k = w.heap.size + 5 then some o5 else if k = w.heap.size + 4 then some o4 else if k = w.heap.size + 3 then some o3 else if k = w.heap.size + 2 then some o2 else if k = w.heap.size + 1 then some o1 else if k = w.heap.size then some o0 else w.heap[k]? := fun k => by
    rw [e]
    simp only [Array.getElem?_push, Array.size_push]
  refine ⟨by rw [e]; simp, ⟨rfl, rfl, rfl, by rw [e]; simp; omega, fun k hk _ => ?_⟩, ?_, ?_, ?_, ?_, ?_, ?_, ?_⟩ <;>
  · rw [look]
    repeat (first | rw [if_pos (by omega)] | rw [if_neg (by omega)])
theorem disk_maps {w : World} {S : Nat → Prop} {d : Nat} {D : Dsk} (h : DiskAt w S d D) : ∃ mb mn, w.cell? ⟨d, 1, none⟩ = some (.map (some mb)) ∧ w.cell? ⟨d, 2, none⟩ = some (.map (some mn)) ∧ mb < w.heap.size ∧ mn < w.heap.size ∧ d < w.heap.size := by
  have hl := h.lt
  obtain ⟨h1, h2, mb, mn, sv, pa, hd, hB, hmb, hmn, hne, hsb, hsn, hrow, hos, harm⟩ := h
  exact ⟨mb, mn, cell_blk hd 1, cell_blk hd 2, hsb.lt, hsn.lt, hl⟩
theorem cell_kept0 {w w' : World} {d j : Nat} (hg : w.grownBy w' none) (hd : d < w.heap.size) : w'.cell? ⟨d, j, none⟩ = w.cell? ⟨d, j, none⟩ := World.cell?_of_block (w := w) (a := ⟨d, j, none⟩) (hg.block d hd (by simp))
/-- What stands in memory through all rounds. -/
structure PutIn (w y W : World) (Sd : Nat → Prop) (d mb mn : Nat) (DW : Dsk) : Prop where
  disk : DiskAt W (Tight W d) d DW
  c1 : W.cell? ⟨d, 1, none⟩ = some (.map (some mb))
  c2 : W.cell? ⟨d, 2, none⟩ = some (.map (some mn))
  sub : ∀ b, Tight W d b → Sd b ∨ y.heap.size ≤ b
  off : Off Sd y W
theorem PutIn.own {w y W W' : World} {Sd : Nat → Prop} {d mb mn : Nat} {DW : Dsk} {row : Option Nat} (hi : PutIn w y W Sd d mb mn DW) (harm : DW.armed = none) (hmby : mb < y.heap.size) (hmny : mn < y.heap.size) (hg : W.grownBy W' row) (hr : ∀ r, row = some r → y.heap.size ≤ r ∧ ∃ o : Obj, W.heap[r]? = some o ∧ o.isCells = false) : PutIn w y W' Sd d mb mn DW := by
  obtain ⟨h1, h2, h3⟩ := hi.disk.own harm hi.c1 hi.c2 hmby hmny hg hr
  refine ⟨h1, (h2 1).trans hi.c1, (h2 2).trans hi.c2, fun b hb => hi.sub b ((h3 b).1 hb), ⟨hg.os.trans hi.off.os, hg.tape.trans hi.off.tape, hg.output.trans hi.off.output, Nat.le_trans hi.off.size hg.size, fun q hq hs => (hg.block q (Nat.lt_of_lt_of_le hq hi.off.size) (fun e => ?_)).trans (hi.off.block q hq hs)⟩⟩
  have := (hr q e.symm).1
  omega
section
variable {w y W w2 w3 : World} {Sd : Nat → Prop} {d mb mn pb : Nat} {DW D3 : Dsk}
theorem put_step (hi : PutIn w y W Sd d mb mn DW) (hb2 : Below W.drew.heap.size W.drew w2) (hd3 : DiskAt w3 (Beside (Tight W d) W.drew.heap.size w2.heap.size) d D3) (ho3 : Off (Beside (Tight W d) W.drew.heap.size w2.heap.size) w2 w3)
    (hk1 : w3.cell? ⟨d, 1, none⟩ = w2.cell? ⟨d, 1, none⟩) (hk2 : w3.cell? ⟨d, 2, none⟩ = w2.cell? ⟨d, 2, none⟩) (harm : D3.armed = none) : PutIn w y w3 Sd d mb mn D3 := by
  have hdl : d < W.drew.heap.size := hi.disk.lt
  have kc : ∀ j, w2.cell? ⟨d, j, none⟩ = W.cell? ⟨d, j, none⟩ := fun j => World.cell?_of_block (w := W.drew) (a := ⟨d, j, none⟩) (hb2.block d hdl)
  have hyW : y.heap.size ≤ W.heap.size := hi.off.size
  have hW2 : W.heap.size ≤ w2.heap.size := hb2.size
  refine ⟨hd3.tight harm, hk1.trans ((kc 1).trans hi.c1), hk2.trans ((kc 2).trans hi.c2), fun b hb => ?_, ⟨ho3.os.trans (hb2.os.trans hi.off.os), ho3.tape.trans (hb2.tape.trans hi.off.tape), ho3.output.trans (hb2.output.trans hi.off.output), by have := ho3.size; omega, fun q hq hs => ?_⟩⟩
  · rcases hd3.tight_sub hb with ⟨h, _⟩ | h
    · exact hi.sub b h
    · exact .inr (by omega)
  · refine (ho3.block q (by omega) ?_).trans ((hb2.block q (by show q < W.heap.size; omega)).trans (hi.off.block q hq hs))
    rintro (⟨h, _⟩ | h)
    · rcases hi.sub q h with h | h
      · exact hs h
      · omega
    · omega
theorem part_kept {C : Array Value} (hi : PutIn w y W Sd d mb mn DW) (hpc : W.heap[pb]? = some (.cells C 84)) (hp2 : w2.heap[pb]? = some (.cells C 84)) (ho3 : Off (Beside (Tight W d) W.drew.heap.size w2.heap.size) w2 w3) : w3.heap[pb]? = some (.cells C 84) := by
  refine (ho3.block pb (Array.getElem?_eq_some_iff.1 hp2).1 ?_).trans hp2
  rintro (⟨h, _⟩ | h)
  · rcases hi.disk.tight_kind h hpc with e | e <;> exact absurd e (by decide)
  · have := (Array.getElem?_eq_some_iff.1 hp2).1
    omega
theorem put_keeps (hi : PutIn w y W Sd d mb mn DW) (hb2 : Below W.drew.heap.size W.drew w2) (ho3 : Off (Beside (Tight W d) W.drew.heap.size w2.heap.size) w2 w3) (hmby : mb < y.heap.size) (hmny : mn < y.heap.size) : KeepsFrom y.heap.size W w3 := by
  have hW2 : W.heap.size ≤ w2.heap.size := hb2.size
  refine ⟨by have := ho3.size; omega, fun q o hq ho hc => ?_⟩
  have hlt := (Array.getElem?_eq_some_iff.1 ho).1
  refine (ho3.block q (by omega) ?_).trans ((hb2.block q hlt).trans ho)
  rintro (⟨h, _⟩ | h)
  · obtain ⟨C, t, he⟩ := hi.disk.tight_big hi.c1 hi.c2 hmby hmny hq h
    rw [he] at ho
    cases ho
    cases hc
  · omega
end
theorem bytes_src {w v : World} {A : Option Addr} {l : List UInt8} {cap i : Nat} (hA : (l = [] ∧ cap = 0) ∨ ∃ g off, A = some ⟨g, off, none⟩ ∧ g < w.heap.size ∧ w.rangeAt g off (u8s l)) (hle : cap = 0 → l = []) (hv : ∀ g off, A = some ⟨g, off, none⟩ → v.rangeAt g off (u8s l)) :
    ∃ A' cap', pslice A cap l i = .slice A' (chunk l i).length cap' ∧ ((chunk l i = [] ∧ cap' = 0) ∨ ∃ g off, A' = some ⟨g, off, none⟩ ∧ g < w.heap.size ∧ v.rangeAt g off (u8s (chunk l i))) := by
  by_cases hc0 : cap = 0 ∧ l = []
  · obtain ⟨rfl, rfl⟩ := hc0
    cases A with
    | none => exact ⟨none, 0, by simp [pslice, chunk], .inl ⟨by simp [chunk], rfl⟩⟩
    | some x => exact ⟨some x, 0, by simp [pslice, chunk], .inl ⟨by simp [chunk], rfl⟩⟩
  · rcases hA with h | ⟨g, off, rfl, hg, hr⟩
    · exact absurd ⟨h.2, h.1⟩ hc0
    by_cases hcz : cap = 0
    · refine ⟨some ⟨g, off, none⟩, 0, ?_, .inl ⟨?_, rfl⟩⟩
      · exact absurd ⟨hcz, hle hcz⟩ hc0
      · exact absurd ⟨hcz, hle hcz⟩ hc0
    refine ⟨some ⟨g, off + i * 102, none⟩, cap - i * 102, if_neg hcz, .inr ⟨g, off + i * 102, rfl, hg, fun j x hj => ?_⟩⟩
    have := hv g off rfl (i * 102 + j) x (by
      simp only [chunk, u8s, List.map_take, List.map_drop] at hj ⊢
      rw [List.getElem?_take] at hj
      split at hj
      · rwa [List.getElem?_drop] at hj
      · cases hj)
    rwa [← Nat.add_assoc] at this
theorem chunk_le (l : List UInt8) (i : Nat) : (chunk l i).length ≤ 102 := by simp [chunk]; omega

set_option maxRecDepth 100000 in
set_option maxHeartbeats 8000000 in
theorem put_at (Sd : Nat → Prop) (d : Nat) (D : Dsk) (jb : Nat) (J : Jn) (sv rv : Value) (a at0 : Nat) (c : UInt8) (s k : Nat) (l : List UInt8) (A : Option Addr) (cap : Nat) (hs : s < 9223372036854775808) (hk : k < 9223372036854775808) (hl : l.length < 6000000) (hcap : l.length ≤ cap) (hcm : cap ≤ maxLen) (w : World)
    (h : DiskAt w Sd d D) (hlt : ∀ b, Sd b → b < w.heap.size) (hj : JBlk w jb d J sv rv) (hjs : ¬ Sd jb) (ha : a * (D.n / 2) + at0 + parts l.length ≤ D.n) (hoff : D.off = false) (harm : D.armed = none) (hwr : D.wr.length + 60000 < 1000000)
    (hA : (l = [] ∧ cap = 0) ∨ ∃ g off, A = some ⟨g, off, none⟩ ∧ g < w.heap.size ∧ ¬ Sd g ∧ w.rangeAt g off (u8s l)) :
    Calls Try.prog 29 #[.pointer (some ⟨jb, 0, none⟩), .int .i64 (a : Int), .int .i64 (at0 : Int), .int .u8 (c.toNat : Int), .int .i64 (s : Int), .int .i64 (k : Int), .slice A l.length cap] w fun e w' => e = .returned (.tuple #[]) ∧
      ∃ Sd', DiskAt w' Sd' d (pushes D (a * (D.n / 2) + at0) (fun i => partB c s k i (parts l.length) (chunk l i)) (upto (parts l.length))) ∧ (∀ b, Sd' b → (Sd b ∨ w.heap.size ≤ b) ∧ b < w'.heap.size) ∧ Off Sd w w' := by
  refine (callsIn_wide (n := 4)).1 ?_
  refine callsIn_of_wp_marks Try.func29 rfl trivial ?_ rfl
  simp only [Try.ntmps29, List.size_toArray, List.length_cons, List.length_nil, Nat.reduceAdd, Nat.reduceSub, Array.replicate_succ, Array.replicate_zero, List.push_toArray, List.append_toArray, List.nil_append, List.cons_append]
  gi_wp2_with (refine ⟨trivial, ?_⟩; gi_at_call 45; refine (parts_call (4 - 1) c s k A l.length cap _).mono ?_; rintro e w' ⟨rfl, rfl⟩)
  have HA := Lib.hid hA
  have HCP := Lib.hid hcap
  have HS := Lib.hid (And.intro hs hk)
  have HLN := Lib.hid hl
  have HCAP := Lib.hid (And.intro hcap hcm)
  have HJS := Lib.hid hjs
  have HLT := Lib.hid hlt
  have HLIVE := Lib.hid (And.intro hoff harm)
  have HWR := Lib.hid hwr
  have HAA := Lib.hid ha
  obtain ⟨hsy, hgy, y0, y1, y2, y3, y4, y5, y6⟩ := seven w (.cells #[.pointer (some ⟨jb, 0, none⟩)] 28) (.cells #[.int .i64 (a : Int)] 3) (.cells #[.int .i64 (at0 : Int)] 3) (.cells #[.int .u8 (c.toNat : Int)] 5) (.cells #[.int .i64 (s : Int)] 2) (.cells #[.int .i64 (k : Int)] 2) (.cells #[.slice A l.length cap] 23)
  obtain ⟨y, hy⟩ : ∃ y, y = ((((((w.alloc (.cells #[.pointer (some ⟨jb, 0, none⟩)] 28)).alloc (.cells #[.int .i64 (a : Int)] 3)).alloc (.cells #[.int .i64 (at0 : Int)] 3)).alloc (.cells #[.int .u8 (c.toNat : Int)] 5)).alloc (.cells #[.int .i64 (s : Int)] 2)).alloc (.cells #[.int .i64 (k : Int)] 2)).alloc (.cells #[.slice A l.length cap] 23) := ⟨_, rfl⟩
  rw [← hy] at hsy hgy y0 y1 y2 y3 y4 y5 y6 ⊢
  clear hy
  obtain ⟨mb, mn, c1, c2, hmb, hmn, hdd⟩ := disk_maps h
  have hb4 : Box4 y (w.heap.size + 1 + 1 + 1 + 3) (w.heap.size + 1 + 1 + 1) (w.heap.size + 1 + 1 + 1 + 1) (w.heap.size + 1 + 1 + 1 + 2) A l.length cap c s k := ⟨cell_blk y6 0, cell_blk y3 0, cell_blk y4 0, cell_blk y5 0⟩
  have hlt4 : w.heap.size + 1 + 1 + 1 + 3 < y.heap.size ∧ w.heap.size + 1 + 1 + 1 < y.heap.size ∧ w.heap.size + 1 + 1 + 1 + 1 < y.heap.size ∧ w.heap.size + 1 + 1 + 1 + 2 < y.heap.size := by omega
  have hjy := hj.grown hgy
  have hpi : PutIn w y y Sd d mb mn D := ⟨(h.grown hgy).tight harm, by rw [← c1]; exact (cell_kept0 hgy (by omega)), by rw [← c2]; exact (cell_kept0 hgy (by omega)), fun b hb => .inl ((h.grown hgy).tight_sub hb), Off.refl _ _⟩
  have HY := Lib.hid (And.intro hsy hgy)
  have HBX : Hid (∀ v, Off Sd y v → v.heap[w.heap.size]? = some (.cells #[.pointer (some ⟨jb, 0, none⟩)] 28) ∧ v.heap[w.heap.size + 1]? = some (.cells #[.int .i64 (a : Int)] 3) ∧ v.heap[w.heap.size + 1 + 1]? = some (.cells #[.int .i64 (at0 : Int)] 3) ∧ JBlk v jb d J sv rv) := fun v hv =>
    ⟨(hv.block _ (by omega) (fun x => by have := hlt _ x; omega)).trans y0, (hv.block _ (by omega) (fun x => by have := hlt _ x; omega)).trans y1, (hv.block _ (by omega) (fun x => by have := hlt _ x; omega)).trans y2, hjy.off hv hjs⟩
  have HB4 : Hid (∀ v v', Off Sd y v → Off Sd y v' → Keep4 (w.heap.size + 1 + 1 + 1 + 3) (w.heap.size + 1 + 1 + 1) (w.heap.size + 1 + 1 + 1 + 1) (w.heap.size + 1 + 1 + 1 + 2) v v') := fun v v' hv hv' => by
    have k : ∀ x, w.heap.size ≤ x → x < y.heap.size → v'.heap[x]? = v.heap[x]? := fun x h1 h2 => by
      rw [hv'.block x h2 (fun q => by have := hlt _ q; omega), hv.block x h2 (fun q => by have := hlt _ q; omega)]
    exact ⟨k _ (by omega) (by omega), k _ (by omega) (by omega), k _ (by omega) (by omega), k _ (by omega) (by omega)⟩
  have hmby : mb < y.heap.size := by omega
  have hmny : mn < y.heap.size := by omega
  have hAy : (l = [] ∧ cap = 0) ∨ ∃ g off, A = some ⟨g, off, none⟩ := hA.imp id (fun ⟨g, off, e, _⟩ => ⟨g, off, e⟩)
  clear hA hs hk hj hjs h hoff harm hwr ha hlt y0 y1 y2 y3 y4 y5 y6 c1 c2 hjy hsy hgy
  refine wpIn_rangeFunc_ownH (α := Ix l.length) rfl (by decide) (gf := 59) (lb := #[.pointer (some ⟨w.heap.size + 1 + 1 + 1 + 3, 0, none⟩), .pointer (some ⟨w.heap.size + 1 + 1 + 1, 0, none⟩), .pointer (some ⟨w.heap.size + 1 + 1 + 1 + 1, 0, none⟩), .pointer (some ⟨w.heap.size + 1 + 1 + 1 + 2, 0, none⟩)]) rfl trivial (enters_of Try.func59 (by kernel_rfl) rfl)
    (parts_stops (4 - 1) (by decide) _ _ _ _ A l cap c s k (by omega) hcap hcm hAy y hlt4 hb4) keep4_t (keep4_b hlt4) (Below.refl _ _) (fun _ => rfl)
    (fun pre W => PutIn w y W Sd d mb mn (pushes D (a * (D.n / 2) + at0) (fun i => partB c s k i (parts l.length) (chunk l i)) (pre.map (·.1))))
    (fun _ _ _ => False)
    ?own (fun _ _ _ _ _ hs _ _ => hs) hpi
    (fun x a' W => ∃ pb, y.heap.size ≤ pb ∧ W.heap[pb]? = some (.cells #[.int .u8 (c.toNat : Int), .int .i64 (s : Int), .int .i64 (k : Int), .int .i64 (x.1 : Int), .int .i64 ((parts l.length : Nat) : Int), pslice A cap l x.1] 84) ∧
      a' = { tmps := #[.pointer (some ⟨jb, 0, none⟩), .int .i64 (a : Int), .int .i64 (at0 : Int), .int .u8 (c.toNat : Int), .int .i64 (s : Int), .int .i64 (k : Int), .slice A l.length cap, .pointer (some ⟨w.heap.size, 0, none⟩), .pointer (some ⟨w.heap.size + 1, 0, none⟩), .pointer (some ⟨w.heap.size + 1 + 1, 0, none⟩), undef, undef, undef, undef, .pointer (some ⟨pb, 0, none⟩), .int .u8 (c.toNat : Int), .int .i64 (s : Int), .int .i64 (k : Int), .slice A l.length cap, .func (.func 59) #[] #[.pointer (some ⟨w.heap.size + 1 + 1 + 1 + 3, 0, none⟩), .pointer (some ⟨w.heap.size + 1 + 1 + 1, 0, none⟩), .pointer (some ⟨w.heap.size + 1 + 1 + 1 + 1, 0, none⟩), .pointer (some ⟨w.heap.size + 1 + 1 + 1 + 2, 0, none⟩)], .agg #[.int .u8 (c.toNat : Int), .int .i64 (s : Int), .int .i64 (k : Int), .int .i64 (x.1 : Int), .int .i64 ((parts l.length : Nat) : Int), pslice A cap l x.1], undef, undef, undef, undef, undef, undef, undef, undef, undef, undef, undef, undef, undef, undef, undef, undef, undef, undef, undef, undef, undef, undef, undef, undef], defers := [] })
    ?ax ?assign ?body ?done ?stop
  case own =>
    intro pre W W' row hi hg hr
    exact hi.own (by rw [(pushes_n _ _ _ _).2.2.1]; exact HLIVE.out.2) hmby hmny hg hr
  case ax =>
    rintro x a' _ W W' row ⟨pb, hpb, hc, e⟩ hg hr
    refine ⟨pb, hpb, (hg.block pb (Array.getElem?_eq_some_iff.1 hc).1 (fun e => ?_)).trans hc, e⟩
    obtain ⟨_, o, ho, hcc⟩ := hr pb e.symm
    rw [hc] at ho
    cases ho
    cases hcc
  case assign =>
    intro lp pre x W K hi hK
    obtain ⟨A', n', cap', hp⟩ : ∃ A' n' cap', pslice A cap l x.1 = .slice A' n' cap' := by
      unfold pslice
      split
      · exact ⟨_, _, _, rfl⟩
      · split
        · exact ⟨_, _, _, rfl⟩
        · exact ⟨_, _, _, rfl⟩
    have HK := Lib.hid hK
    have HP := Lib.hid hp
    clear hK
    simp only [pencs, hp]
    clear hp
    gi_wp2
    have hgW := World.grownBy_alloc W (.cells #[.int .u8 (c.toNat : Int), .int .i64 (s : Int), .int .i64 (k : Int), .int .i64 (x.1 : Int), .int .i64 ((parts l.length : Nat) : Int), .slice A' n' cap'] 84) none
    refine HK.out _ _ (KeepsFrom.of_grownBy hgW (by simp)) ?_ (hi.own (by rw [(pushes_n _ _ _ _).2.2.1]; exact HLIVE.out.2) hmby hmny hgW (by simp)) ⟨W.heap.size, hi.off.size, ?_, ?_⟩
    · exact HB4.out _ _ hi.off (hi.off.trans (Off.of_grown hgW (by simp)))
    · rw [HP.out]
      exact (MapKept.heap_alloc W _).1
    · rw [HP.out]
  case body =>
    rintro lp pre ⟨i, hix⟩ a' W hlp _ hi ⟨pb, hpb, hpc, rfl⟩ hlen
    obtain ⟨b0, b1, b2, hjW⟩ := HBX.out W hi.off
    have k0 : W.cell? ⟨w.heap.size, 0, none⟩ = some (.pointer (some ⟨jb, 0, none⟩)) := cell_blk b0 0
    have k9 : W.cell? ⟨jb, 9, none⟩ = some (.int .i64 0) := hjW.cell 9
    obtain ⟨q1, q2, q3, q4⟩ := pushes_n D (a * (D.n / 2) + at0) (fun i => partB c s k i (parts l.length) (chunk l i)) (pre.map (·.1))
    obtain ⟨DW, hDW⟩ : ∃ DW, DW = pushes D (a * (D.n / 2) + at0) (fun i => partB c s k i (parts l.length) (chunk l i)) (pre.map (·.1)) := ⟨_, rfl⟩
    rw [← hDW] at q1 q2 q3 q4 hi
    have HDW := Lib.hid hDW
    have HI := Lib.hid hi
    have HIX := Lib.hid hix
    have HPB := Lib.hid hpb
    have HPC := Lib.hid hpc
    have HQ := Lib.hid (And.intro q1 (And.intro (q2.trans HLIVE.out.1) (q3.trans HLIVE.out.2)))
    have HQW : Hid (DW.wr.length < 1000000) := by
      show _ < _
      have h1 := HWR.out
      have h2 := parts_le l.length
      have h3 : parts l.length ≤ 58825 := by have := HLN.out; unfold parts; omega
      rw [q4, List.length_map]
      omega
    have HSZ : Hid (y.heap.size ≤ W.heap.size) := hi.off.size
    have HC : Hid (∀ v : World, Off Sd y v → v.heap[pb]? = some (.cells #[.int .u8 (c.toNat : Int), .int .i64 (s : Int), .int .i64 (k : Int), .int .i64 (i : Int), .int .i64 ((parts l.length : Nat) : Int), pslice A cap l i] 84) → v.cell? ⟨w.heap.size, 0, none⟩ = some (Value.pointer (some ⟨jb, 0, none⟩)) ∧ v.cell? ⟨w.heap.size + 1, 0, none⟩ = some (Value.int .i64 (a : Int)) ∧ v.cell? ⟨w.heap.size + 2, 0, none⟩ = some (Value.int .i64 (at0 : Int)) ∧ v.cell? ⟨jb, 0, none⟩ = some (Value.pointer (some ⟨d, 0, none⟩)) ∧ v.cell? ⟨pb, 0, none⟩ = some (Value.int .u8 (c.toNat : Int)) ∧ v.cell? ⟨pb, 1, none⟩ = some (Value.int .i64 (s : Int)) ∧ v.cell? ⟨pb, 2, none⟩ = some (Value.int .i64 (k : Int)) ∧ v.cell? ⟨pb, 3, none⟩ = some (Value.int .i64 (i : Int)) ∧ v.cell? ⟨pb, 4, none⟩ = some (Value.int .i64 ((parts l.length : Nat) : Int)) ∧ v.cell? ⟨pb, 5, none⟩ = some (pslice A cap l i)) := fun v hv hp => by
      obtain ⟨b0, b1, b2, hjW⟩ := HBX.out v hv
      exact ⟨cell_blk b0 0, cell_blk b1 0, cell_blk b2 0, hjW.cell 0, cell_blk hp 0, cell_blk hp 1, cell_blk hp 2, cell_blk hp 3, cell_blk hp 4, cell_blk hp 5⟩
    have hdg : W.grownBy W.drew none := ⟨rfl, rfl, rfl, Nat.le_refl _, fun _ _ _ => rfl⟩
    have HWO : Hid (Off Sd y W.drew) := hi.off.trans (Off.of_grown hdg (by simp))
    have HD1 : Hid (DiskAt W.drew (Tight W d) d DW) := hi.disk.grown hdg
    have HJ1 : Hid (JBlk W.drew jb d J sv rv) := hjW
    have HN : Hid (DW.n ≤ 16384) := hi.disk.1
    have HLTW : Hid (a * (DW.n / 2) + at0 + i < DW.n) := by
      show _ < _
      have h1 := HAA.out
      have h2 := HIX.out
      rw [q1]
      omega
    have HEQ : Hid ((a : Int) * ((DW.n : Int) / 2) = ((a * (DW.n / 2) : Nat) : Int)) := by
      show _ = _
      rw [Int.natCast_mul, Int.natCast_ediv]
      rfl
    have HM1 : Hid (IntKind.i64.wrap ((a : Int) * ((DW.n : Int) / 2)) = (a : Int) * ((DW.n : Int) / 2)) := by
      show _ = _
      have h1 := HLTW.out
      have h2 := HN.out
      rw [HEQ.out, IntKind.wrap_i64]
      omega
    have HM2 : Hid (IntKind.i64.wrap ((a : Int) * ((DW.n : Int) / 2) + (at0 : Int)) = (a : Int) * ((DW.n : Int) / 2) + (at0 : Int)) := by
      show _ = _
      have h1 := HLTW.out
      have h2 := HN.out
      rw [HEQ.out, IntKind.wrap_i64]
      omega
    have HM3 : Hid (IntKind.i64.wrap ((a : Int) * ((DW.n : Int) / 2) + (at0 : Int) + (i : Int)) = (a : Int) * ((DW.n : Int) / 2) + (at0 : Int) + (i : Int)) := by
      show _ = _
      have h1 := HLTW.out
      have h2 := HN.out
      rw [HEQ.out, IntKind.wrap_i64]
      omega
    have HM4 : Hid ((a : Int) * ((DW.n : Int) / 2) + (at0 : Int) + (i : Int) = ((a * (DW.n / 2) + at0 + i : Nat) : Int)) := by
      show _ = _
      rw [HEQ.out]
      omega
    obtain ⟨A', cap', hps, hsrc⟩ := bytes_src (w := w) (v := W.drew) (cap := cap) (i := i) (HA.out.imp id (fun ⟨g, off, e, h1, _, h2⟩ => ⟨g, off, e, h1, h2⟩)) (fun h0 => List.eq_nil_of_length_eq_zero (by have h1 := HCP.out; omega)) (fun g off e => by
      rcases HA.out with ⟨e2, _⟩ | ⟨g2, off2, e2, hg2, hs2, hr2⟩
      · intro j x hj
        rw [e2] at hj
        simp [u8s] at hj
      · rw [e2] at e
        cases e
        intro j x hj
        have h1 := HY.out.2.cell (hr2 j x hj) (by simp)
        exact (World.cell?_of_block (w := y) (w' := W.drew) (a := ⟨g, off + j, none⟩) (HWO.out.block g (by have := HY.out.1; omega) hs2)).trans h1)
    have HPS := Lib.hid hps
    have HSRC : Hid ((chunk l i = [] ∧ cap' = 0) ∨ ∃ g off, A' = some ⟨g, off, none⟩ ∧ g < W.drew.heap.size ∧ W.drew.rangeAt g off (u8s (chunk l i))) := hsrc.imp id (fun ⟨g, off, e, h1, h2⟩ => ⟨g, off, e, by have h3 := HSZ.out; have h4 := HY.out.1; show g < W.heap.size; omega, h2⟩)
    clear hps hsrc hdg hDW hi hpb hpc q1 q2 q3 q4 b0 b1 b2 hjW hlen
    gi_wp2
    refine wpIn_region_round (S := fun w' => w'.cell? ⟨w.heap.size, 0, none⟩ = some (Value.pointer (some ⟨jb, 0, none⟩)) ∧ w'.cell? ⟨w.heap.size + 1, 0, none⟩ = some (Value.int .i64 (a : Int)) ∧ w'.cell? ⟨w.heap.size + 2, 0, none⟩ = some (Value.int .i64 (at0 : Int)) ∧ w'.cell? ⟨jb, 0, none⟩ = some (Value.pointer (some ⟨d, 0, none⟩)) ∧ w'.cell? ⟨pb, 0, none⟩ = some (Value.int .u8 (c.toNat : Int)) ∧ w'.cell? ⟨pb, 1, none⟩ = some (Value.int .i64 (s : Int)) ∧ w'.cell? ⟨pb, 2, none⟩ = some (Value.int .i64 (k : Int)) ∧ w'.cell? ⟨pb, 3, none⟩ = some (Value.int .i64 (i : Int)) ∧ w'.cell? ⟨pb, 4, none⟩ = some (Value.int .i64 ((parts l.length : Nat) : Int)) ∧ w'.cell? ⟨pb, 5, none⟩ = some (pslice A cap l i)) (fun ⟨_, _, h⟩ => h) (by kernel_rfl) (by kernel_rfl) ?hSa (fun hHeld => ?_)
    case hSa => exact HC.out _ HWO.out HPC.out
    refine wpAnyH_take (i := 0) (oi := ⟨_, _, _, _, _, _⟩) (v := ?va0) rfl (by kernel_rfl) (by kernel_rfl) (by kernel_rfl) (fun _ _ _ h => h) (Or.inl ⟨by rfl, ?hya0⟩) hHeld ?_
    case hya0 => (intro wS hSw; (try dsimp only at hSw); go_simp; (first | done | with_reducible rfl))
    try simp only [Act.put, List.setIfInBounds_toArray, List.set_cons_zero, List.set_cons_succ]
    refine wpAnyH_take (i := 1) (oi := ⟨_, _, _, _, _, _⟩) (v := ?va1) rfl (by kernel_rfl) (by kernel_rfl) (by kernel_rfl) (fun _ _ _ h => h) (Or.inl ⟨by rfl, ?hya1⟩) hHeld ?_
    case hya1 => (intro wS hSw; (try dsimp only at hSw); go_simp; (first | done | with_reducible rfl))
    try simp only [Act.put, List.setIfInBounds_toArray, List.set_cons_zero, List.set_cons_succ]
    refine wpAnyH_take (i := 2) (oi := ⟨_, _, _, _, _, _⟩) (v := ?va2) rfl (by kernel_rfl) (by kernel_rfl) (by kernel_rfl) (fun _ _ _ h => h) (Or.inl ⟨by rfl, ?hya2⟩) hHeld ?_
    case hya2 => (intro wS hSw; (try dsimp only at hSw); go_simp; (first | done | with_reducible rfl))
    try simp only [Act.put, List.setIfInBounds_toArray, List.set_cons_zero, List.set_cons_succ]
    refine wpAnyH_take (i := 3) (oi := ⟨_, _, _, _, _, _⟩) (v := ?va3) rfl (by kernel_rfl) (by kernel_rfl) (by kernel_rfl) (fun _ _ _ h => h) (Or.inl ⟨by rfl, ?hya3⟩) hHeld ?_
    case hya3 => (intro wS hSw; (try dsimp only at hSw); go_simp; (first | done | with_reducible rfl))
    try simp only [Act.put, List.setIfInBounds_toArray, List.set_cons_zero, List.set_cons_succ]
    refine wpAnyH_take (i := 4) (oi := ⟨_, _, _, _, _, _⟩) (v := ?va4) rfl (by kernel_rfl) (by kernel_rfl) (by kernel_rfl) (fun _ _ _ h => h) (Or.inl ⟨by rfl, ?hya4⟩) hHeld ?_
    case hya4 => (intro wS hSw; (try dsimp only at hSw); go_simp; (first | done | with_reducible rfl))
    try simp only [Act.put, List.setIfInBounds_toArray, List.set_cons_zero, List.set_cons_succ]
    refine wpAnyH_take (i := 5) (oi := ⟨_, _, _, _, _, _⟩) (v := ?va5) rfl (by kernel_rfl) (by kernel_rfl) (by kernel_rfl) (fun _ _ _ h => h) (Or.inl ⟨by rfl, ?hya5⟩) hHeld ?_
    case hya5 => (intro wS hSw; (try dsimp only at hSw); go_simp; (first | done | with_reducible rfl))
    try simp only [Act.put, List.setIfInBounds_toArray, List.set_cons_zero, List.set_cons_succ]
    refine wpAnyH_take (i := 6) (oi := ⟨_, _, _, _, _, _⟩) (v := ?va6) rfl (by kernel_rfl) (by kernel_rfl) (by kernel_rfl) (fun _ _ _ h => h) (Or.inl ⟨by rfl, ?hya6⟩) hHeld ?_
    case hya6 => (intro wS hSw; (try dsimp only at hSw); go_simp; (first | done | with_reducible rfl))
    try simp only [Act.put, List.setIfInBounds_toArray, List.set_cons_zero, List.set_cons_succ]
    refine wpAnyH_take (i := 9) (oi := ⟨_, _, _, _, _, _⟩) (v := ?va9) rfl (by kernel_rfl) (by kernel_rfl) (by kernel_rfl) (fun _ _ _ h => h) (Or.inl ⟨by rfl, ?hya9⟩) hHeld ?_
    case hya9 => (intro wS hSw; (try dsimp only at hSw); go_simp; (first | done | with_reducible rfl))
    try simp only [Act.put, List.setIfInBounds_toArray, List.set_cons_zero, List.set_cons_succ]
    refine wpAnyH_take (i := 11) (oi := ⟨_, _, _, _, _, _⟩) (v := ?va11) rfl (by kernel_rfl) (by kernel_rfl) (by kernel_rfl) (fun _ _ _ h => h) (Or.inl ⟨by rfl, ?hya11⟩) hHeld ?_
    case hya11 => (intro wS hSw; (try dsimp only at hSw); go_simp; (first | done | with_reducible rfl))
    try simp only [Act.put, List.setIfInBounds_toArray, List.set_cons_zero, List.set_cons_succ]
    refine wpAnyH_take (i := 12) (oi := ⟨_, _, _, _, _, _⟩) (v := ?va12) rfl (by kernel_rfl) (by kernel_rfl) (by kernel_rfl) (fun _ _ _ h => h) (Or.inl ⟨by rfl, ?hya12⟩) hHeld ?_
    case hya12 => (intro wS hSw; (try dsimp only at hSw); go_simp; (first | done | with_reducible rfl))
    try simp only [Act.put, List.setIfInBounds_toArray, List.set_cons_zero, List.set_cons_succ]
    refine wpAnyH_take (i := 14) (oi := ⟨_, _, _, _, _, _⟩) (v := ?va14) rfl (by kernel_rfl) (by kernel_rfl) (by kernel_rfl) (fun _ _ _ h => h) (Or.inl ⟨by rfl, ?hya14⟩) hHeld ?_
    case hya14 => (intro wS hSw; (try dsimp only at hSw); go_simp; (first | done | with_reducible rfl))
    try simp only [Act.put, List.setIfInBounds_toArray, List.set_cons_zero, List.set_cons_succ]
    refine wpAnyH_ready (rs := [7]) (by kernel_rfl) (by simp) ?_
    refine AllReadyH.cons (o := ⟨_, _, _, _, _, _⟩) rfl (fun K hK => ?_) AllReadyH.nil
    go_simp
    refine (half_at _ d DW jb J sv rv W.drew HD1.out HJ1.out).mono ?_
    rintro e wq ⟨rfl, hwq⟩
    have hwq := hwq.symm
    subst hwq
    go_wp2_with fail
    refine hK.out _ _ ?ka7 (fun hNew => ?_)
    case ka7 => (try dsimp only); exact HC.out _ HWO.out HPC.out
    clear hK K hHeld
    have hHeld := hNew
    clear hNew
    try simp only [Act.put, List.setIfInBounds_toArray, List.set_cons_zero, List.set_cons_succ]
    refine wpAnyH_take (i := 8) (oi := ⟨_, _, _, _, _, _⟩) (v := Value.int .i64 ((a : Int) * ((DW.n : Int) / 2))) rfl (by kernel_rfl) (by kernel_rfl) (by kernel_rfl) (fun _ _ _ h => h) (Or.inl ⟨by rfl, ?hya8⟩) hHeld ?_
    case hya8 => (intro wS hSw; (try dsimp only at hSw); go_simp; rw [HM1.out])
    try simp only [Act.put, List.setIfInBounds_toArray, List.set_cons_zero, List.set_cons_succ]
    refine wpAnyH_take (i := 10) (oi := ⟨_, _, _, _, _, _⟩) (v := Value.int .i64 ((a : Int) * ((DW.n : Int) / 2) + (at0 : Int))) rfl (by kernel_rfl) (by kernel_rfl) (by kernel_rfl) (fun _ _ _ h => h) (Or.inl ⟨by rfl, ?hya10⟩) hHeld ?_
    case hya10 => (intro wS hSw; (try dsimp only at hSw); go_simp; rw [HM2.out])
    try simp only [Act.put, List.setIfInBounds_toArray, List.set_cons_zero, List.set_cons_succ]
    refine wpAnyH_take (i := 13) (oi := ⟨_, _, _, _, _, _⟩) (v := Value.int .i64 ((a : Int) * ((DW.n : Int) / 2) + (at0 : Int) + (i : Int))) rfl (by kernel_rfl) (by kernel_rfl) (by kernel_rfl) (fun _ _ _ h => h) (Or.inl ⟨by rfl, ?hya13⟩) hHeld ?_
    case hya13 => (intro wS hSw; (try dsimp only at hSw); go_simp; rw [HM3.out])
    try simp only [Act.put, List.setIfInBounds_toArray, List.set_cons_zero, List.set_cons_succ]
    refine wpAnyH_ready (rs := [15]) (by kernel_rfl) (by simp) ?_
    refine AllReadyH.cons (o := ⟨_, _, _, _, _, _⟩) rfl (fun K hK => ?_) AllReadyH.nil
    go_simp
    rw [HPS.out]
    refine (part_bytes_at c s k i (parts l.length) (chunk l i) A' cap' HS.out.1 HS.out.2 (by have h1 := HIX.out; have h2 := parts_le l.length; have h3 := HLN.out; omega) (by have h2 := parts_le l.length; have h3 := HLN.out; omega) (chunk_le l i) W.drew HSRC.out).mono ?_
    rintro e w2 ⟨v2, rfl, hr2, hb2⟩
    obtain ⟨g2, cap2, rfl, hc2, hm2, hlo2, hhi2, hrg2⟩ := hr2.some (by have := partB_length c s k i (parts l.length) (chunk l i) (chunk_le l i); intro e; rw [e] at this; cases this)
    have HB2 := Lib.hid hb2
    have HD2 := Lib.hid (HD1.out.beside (Below.to_grown hb2))
    have HR2 : Hid (RowB w2 (Beside (Tight W d) W.drew.heap.size w2.heap.size) (some ⟨g2, 0, none⟩) (partB c s k i (parts l.length) (chunk l i))) := .inr ⟨g2, 0, rfl, beside_not hlo2 hhi2, hrg2⟩
    have HO2 : Hid (Off Sd y w2) := HWO.out.trans ⟨hb2.os, hb2.tape, hb2.output, hb2.size, fun q hq _ => hb2.block q hq⟩
    have HP2 : Hid (w2.heap[pb]? = _) := (hb2.block pb (Array.getElem?_eq_some_iff.1 HPC.out).1).trans HPC.out
    clear hr2 hb2 hc2 hm2 hlo2 hhi2 hrg2
    go_wp2_with fail
    refine hK.out _ _ ?ka15 (fun hNew => ?_)
    case ka15 => (try dsimp only); exact HC.out _ HO2.out HP2.out
    clear hK K hHeld
    have hHeld := hNew
    clear hNew
    try simp only [Act.put, List.setIfInBounds_toArray, List.set_cons_zero, List.set_cons_succ]
    refine wpAnyH_ready (rs := [16]) (by kernel_rfl) (by simp) ?_
    refine AllReadyH.cons (o := ⟨_, _, _, _, _, _⟩) rfl (fun K hK => ?_) AllReadyH.nil
    go_simp
    rw [HM4.out]
    refine (write_kept _ d (a * (DW.n / 2) + at0 + i) DW (partB c s k i (parts l.length) (chunk l i)) (some ⟨g2, 0, none⟩) cap2 w2 HD2.out HR2.out beside_new HLTW.out HQ.out.2.1 (by rw [partB_length _ _ _ _ _ _ (chunk_le l i)]; decide) HQ.out.2.2 HQW.out).mono ?_
    rw [pad_full (partB_length _ _ _ _ _ _ (chunk_le l i))]
    rintro e w3 ⟨rfl, hd3, ho3, hk1, hk2⟩
    have HPI3 := Lib.hid (put_step HI.out HB2.out hd3 ho3 hk1 hk2 HQ.out.2.2)
    have HP3 := Lib.hid (part_kept HI.out HPC.out HP2.out ho3)
    have HKF := Lib.hid (put_keeps HI.out HB2.out ho3 hmby hmny)
    clear hd3 ho3 hk1 hk2
    go_wp2_with fail
    refine hK.out _ _ ?ka16 (fun hNew => ?_)
    case ka16 => (try dsimp only); exact HC.out _ HPI3.out.off HP3.out
    clear hK K hHeld
    have hHeld := hNew
    clear hNew
    try simp only [Act.put, List.setIfInBounds_toArray, List.set_cons_zero, List.set_cons_succ]
    refine wpAnyH_take (i := 17) (oi := ⟨_, _, _, _, _, _⟩) (v := ?va17) rfl (by kernel_rfl) (by kernel_rfl) (by kernel_rfl) (fun _ _ _ h => h) (Or.inl ⟨by rfl, ?hya17⟩) hHeld ?_
    case hya17 => (intro wS hSw; (try dsimp only at hSw); go_simp; (first | done | with_reducible rfl))
    try simp only [Act.put, List.setIfInBounds_toArray, List.set_cons_zero, List.set_cons_succ]
    refine wpAnyH_take (i := 18) (oi := ⟨_, _, _, _, _, _⟩) (v := ?va18) rfl (by kernel_rfl) (by kernel_rfl) (by kernel_rfl) (fun _ _ _ h => h) (Or.inl ⟨by rfl, ?hya18⟩) hHeld ?_
    case hya18 => (intro wS hSw; (try dsimp only at hSw); go_simp; (first | done | with_reducible rfl))
    try simp only [Act.put, List.setIfInBounds_toArray, List.set_cons_zero, List.set_cons_succ]
    refine wpAnyH_ready (rs := [19]) (by kernel_rfl) (by simp) ?_
    refine AllReadyH.cons (o := ⟨_, _, _, _, _, _⟩) rfl (fun K hK => ?_) AllReadyH.nil
    have c9 : w3.cell? ⟨jb, 9, none⟩ = some (.int .i64 0) := ((HBX.out _ HPI3.out.off).2.2.2).cell 9
    have f9 : w3.frozen? ⟨jb, 9, none⟩ = false := ((HBX.out _ HPI3.out.off).2.2.2).free 9
    go_simp
    clear c9 f9
    have HSS := Lib.hid (same_set (HBX.out _ HPI3.out.off).2.2.2)
    have HPI4 := Lib.hid (HPI3.out.own HQ.out.2.2 hmby hmny HSS.out.2 (by simp))
    refine hK.out _ _ ?ka19 (fun hNew => ?_)
    case ka19 => (try dsimp only); exact HC.out _ HPI4.out.off ((HSS.out.2.block pb (Array.getElem?_eq_some_iff.1 HP3.out).1 (by simp)).trans HP3.out)
    clear hK K hHeld
    have hHeld := hNew
    clear hNew
    try simp only [Act.put, List.setIfInBounds_toArray, List.set_cons_zero, List.set_cons_succ]
    refine wpAnyH_done (by kernel_rfl) ?_ _
    refine NoPanic.normal ?_
    clear hHeld
    gi_wp2
    refine ⟨HKF.out.trans (KeepsFrom.of_grownBy HSS.out.2 (by simp)), HB4.out _ _ HI.out.off HPI4.out.off, ?_⟩
    have hp := HPI4.out
    rw [HQ.out.1, HDW.out, ← pushes_snoc] at hp
    show PutIn w y _ Sd d mb mn (pushes _ _ _ ((pre ++ [⟨i, hix⟩] : List (Ix l.length)).map (·.1)))
    rw [List.map_append]
    exact hp
  case done =>
    rintro Dd ys W hD hys hi hKd
    gi_wp2
    have hg := grownBy_putObj' W Dd (.deferred none)
    refine ⟨by simp, .inl ⟨_, _, rfl, run_takeDeferred hKd, ?_⟩⟩
    have hi2 := hi.own (by rw [(pushes_n _ _ _ _).2.2.1]; exact HLIVE.out.2) hmby hmny hg (fun r e => by cases e; exact ⟨hD, _, hKd, rfl⟩)
    rw [hys] at hi2
    exact ⟨_, results_none rfl _ _ _, rfl, _, hi2.disk, fun b hb => ⟨(hi2.sub b hb).imp id (fun h => by have := HY.out.1; omega), hi2.disk.tight_lt hb⟩, (Off.of_grown HY.out.2 (by simp)).trans hi2.off⟩
  case stop =>
    rintro _ _ _ _ _ _ h _
    exact h.elim
end Go.Proofs.Ytgdedgfohjplmaa.Jnl

/- Jumps to several labels of a scope. No program in sight. -/
namespace Go.Proofs.Ytgdedgfohjplmaa.Jnl
open Go

/-- By a jump to label l: J l. -/
def jumpM (J : Nat → Act → World → Prop) (Q : Exit → Act → World → Prop) : Exit → Act → World → Prop
  | .goto l, a, w => J l a w
  | e, a, w => Q e a w
theorem scope_jumps {P : Program} {a : Act} {w : World} {Q : Exit → Act → World → Prop} {c : Code} (rest : Nat → Code) (J : Nat → Act → World → Prop) (μ : Nat → Act → World → Nat) (hf : ∀ l a w, J l a w → findLabel c l = some (rest l))
    (first : c.wp P (jumpM J Q) a w) (pass : ∀ l a w, J l a w → (rest l).wp P (jumpM (fun l' a' w' => J l' a' w' ∧ μ l' a' w' < μ l a w) Q) a w) : (Code.scope c).wp P Q a w := by
  intro b k cs
  have key : ∀ n l a w, μ l a w = n → J l a w → ∃ e a' w', Q e a' w' ∧ Arrives P (lone (b.at a (.code (rest l) :: .inScope c :: k)) cs w) b k cs e a' w' := by
    intro n
    induction n using Nat.strongRecOn with
    | _ n ih =>
      intro l a w hn hJ
      obtain ⟨e, a1, w1, hq, harr⟩ := pass l a w hJ b (.inScope c :: k) cs
      cases e with
      | goto l2 =>
        obtain ⟨hJ2, hlt⟩ := hq
        obtain ⟨e2, a2, w2, hq2, harr2⟩ := ih _ (by omega) l2 a1 w1 rfl hJ2
        exact ⟨e2, a2, w2, hq2, .of_steps (harr _ (by simp [gotoIn, hf l2 a1 w1 hJ2])) harr2⟩
      | normal => exact ⟨.normal, a1, w1, hq, Steps.trans harr (.one step_inScope)⟩
      | exit id => exact ⟨.exit id, a1, w1, hq, fun k2 hk => harr k2 (by simp [exitTo, hk])⟩
      | ret => exact ⟨_, a1, w1, hq, harr⟩
      | panic ch => exact ⟨_, a1, w1, hq, harr⟩
      | outgrown => exact ⟨_, a1, w1, hq, harr⟩
  obtain ⟨e, a1, w1, hq, harr⟩ := first b (.inScope c :: k) cs
  cases e with
  | goto l2 =>
    obtain ⟨e2, a2, w2, hq2, harr2⟩ := key _ l2 a1 w1 rfl hq
    exact ⟨e2, a2, w2, hq2, .of_steps (.head step_scope (harr _ (by simp [gotoIn, hf l2 a1 w1 hq]))) harr2⟩
  | normal => exact ⟨.normal, a1, w1, hq, .head step_scope (Steps.trans harr (.one step_inScope))⟩
  | exit id => exact ⟨.exit id, a1, w1, hq, fun k2 hk => .head step_scope (harr k2 (by simp [exitTo, hk]))⟩
  | ret => exact ⟨_, a1, w1, hq, .of_steps (.one step_scope) harr⟩
  | panic ch => exact ⟨_, a1, w1, hq, .of_steps (.one step_scope) harr⟩
  | outgrown => exact ⟨_, a1, w1, hq, .of_steps (.one step_scope) harr⟩
theorem scope_jumps2 {P : Program} {a : Act} {w : World} {Q : Exit → Act → World → Prop} {c rest1 rest0 : Code} (J1 J0 : Act → World → Prop) (μ : Act → World → Nat) (h1 : findLabel c 1 = some (Code.skip.seq rest1)) (h0 : findLabel c 0 = some rest0)
    (first : (∀ a w, J1 a w → rest1.wp P (jumpM (fun l a' w' => (l = 1 ∧ J1 a' w') ∨ (l = 0 ∧ J0 a' w')) Q) a w) → c.wp P (jumpM (fun l a w => (l = 1 ∧ J1 a w) ∨ (l = 0 ∧ J0 a w)) Q) a w)
    (pass1 : ∀ a w, J1 a w → rest1.wp P (jumpM (fun l a' w' => (l = 1 ∧ J1 a' w' ∧ μ a' w' < μ a w) ∨ (l = 0 ∧ J0 a' w')) Q) a w)
    (pass0 : ∀ a w, J0 a w → rest0.wp P (jumpM (fun _ _ _ => False) Q) a w) : (Code.scope c).wp P Q a w := by
  refine scope_jumps (fun l => if l = 1 then Code.skip.seq rest1 else rest0) (fun l a w => (l = 1 ∧ J1 a w) ∨ (l = 0 ∧ J0 a w)) (fun l a w => if l = 1 then μ a w + 1 else 0) ?_ (first fun a w hj => wp_mono (pass1 a w hj) ?_) ?_
  · rintro l a w (⟨rfl, _⟩ | ⟨rfl, _⟩)
    · exact h1
    · exact h0
  · intro e a w h
    cases e <;> first | exact h | exact h.imp (fun h => ⟨h.1, h.2.1⟩) id
  · rintro l a w (⟨rfl, hj⟩ | ⟨rfl, hj⟩)
    · refine wp_mono (wp_seq (wp_skip (pass1 a w hj))) fun e a' w' h => ?_
      cases e with
      | goto l2 =>
        rcases h with ⟨rfl, h2, h3⟩ | ⟨rfl, h2⟩
        · exact ⟨.inl ⟨rfl, h2⟩, by simpa using h3⟩
        · exact ⟨.inr ⟨rfl, h2⟩, by simp⟩
      | _ => exact h
    · refine wp_mono (pass0 a w hj) fun e a' w' h => ?_
      cases e with
      | goto l2 => exact h.elim
      | _ => exact h
end Go.Proofs.Ytgdedgfohjplmaa.Jnl

/- The journal: whole. -/
namespace Go.Proofs.Ytgdedgfohjplmaa.Jnl
open Go.RowKit Go.Maps Sec

/-- A sector's bytes are a part's. -/
structure IsPart (b : List UInt8) (c : UInt8) (s k i n : Nat) (l : List UInt8) : Prop where
  eq : b = partB c s k i n l
  tag : c = 67 ∨ c = 82
  s63 : s < 9223372036854775808
  k63 : k < 9223372036854775808
  lt : i < n
  n16 : n < 65536
  len : l.length ≤ 102
  full : l.length = 102 ∨ i + 1 = n
/-- A sector's bytes are no part's. -/
def NoPart (b : List UInt8) : Prop := ∃ c : UInt8, b[0]? = some c ∧ c.toNat ≠ 67 ∧ c.toNat ≠ 82
/-- What partOf tells of a sector that is a part or none. -/
theorem partOf_part {gb : Nat} {c : UInt8} {s k i n : Nat} {l b : List UInt8} (hp : IsPart b c s k i n l) (w : World) (hr : w.rangeAt gb 0 (u8s b)) (hgl : gb < w.heap.size) :
    Calls Try.prog 58 #[.slice (some ⟨gb, 0, none⟩) 128 128] w fun e w' => e = .returned (.tuple #[.agg #[.int .u8 (c.toNat : Int), .int .i64 (s : Int), .int .i64 (k : Int), .int .i64 (i : Int), .int .i64 (n : Int), .slice (some ⟨gb, 22, none⟩) l.length 106], .bool true]) ∧ Below w.heap.size w w' := by
  obtain ⟨rfl, tag, h1, h2, h3, h4, h5, h6⟩ := hp
  rcases tag with rfl | rfl
  · exact partOf_C gb 128 s k i n l h1 h2 h3 h4 h5 h6 w hr hgl (by decide) (by decide)
  · exact partOf_R gb 128 s k i n l h1 h2 h3 h4 h5 h6 w hr hgl (by decide) (by decide)

/-- The parts f 0, .., f (q - 1) of a row of M stand from a place on. -/
def Run (now : Nat → List UInt8) (at0 : Nat) (c : UInt8) (s k M : Nat) (f : Nat → List UInt8) (q : Nat) : Prop := ∀ i, i < q → IsPart (now (at0 + i)) c s k i M (f i)
/-- No further part. -/
def Ends (b : List UInt8) (c : UInt8) (s k M q : Nat) : Prop := NoPart b ∨ ∃ c' s' k' i' n' l', IsPart b c' s' k' i' n' l' ∧ (c' ≠ c ∨ k' ≠ k ∨ i' ≠ q ∨ (0 < q ∧ (s' ≠ s ∨ n' ≠ M)))
def joined (f : Nat → List UInt8) (t : Nat) : List UInt8 := (List.range t).flatMap f
theorem joined_succ (f : Nat → List UInt8) (t : Nat) : joined f (t + 1) = joined f t ++ f t := by simp [joined, List.range_succ]

section
variable {ops : Array Oper} {o : Oper} {a : Act} {w : World} {K : Act → World → Prop} {Q : Exit → Act → World → Prop} {E : Prop}
set_option maxRecDepth 100000 in
theorem step_append_row (hg : o.guard = none) (s x : Operand) (hop : o.op = Op.call { callee := Callee.builtin Builtin.append, args := #[s, x], argTypes := #[23, 23] })
    (B : Nat) (v : Value) (l m : List UInt8) (A : Option Addr) (n cap : Nat) (hn : m.length = n) (hs : a.eval s = v) (hown : BRow w B v l) (hx : a.eval x = .slice A n cap)
    (hc : (m = [] ∧ cap = 0) ∨ ∃ g off, A = some ⟨g, off, none⟩ ∧ w.rangeAt g off (u8s m)) (hb : l.length + n < 100000000000) (hB : B ≤ w.heap.size)
    (hK : ∀ v' w', BRow w' B v' (l ++ m) → w.grownBy w' v.ownBlock → K (a.put o.dst v') w') :
    if Region.wanted o (yielded ops a.tmps) = true then Oper.wp Try.prog o a w K Q else E := by
  have hw : Region.wanted o (yielded ops a.tmps) = true := by simp [Region.wanted, hg]
  rw [if_pos hw]
  obtain ⟨i0, hi0, he⟩ := Option.map_eq_some_iff.1 info_byte
  simp only [Prod.mk.injEq] at he
  subst hn
  have hx0 : (A = none ∧ m = [] ∧ cap = 0) ∨ ∃ x, A = some x ∧ ∀ j u, (u8s m)[j]? = some u → w.cell? (x.add j) = some u := by
    rcases hc with ⟨h1, h2⟩ | ⟨g, off, h1, hr⟩
    · cases A with
      | none => exact .inl ⟨rfl, h1, h2⟩
      | some x => exact .inr ⟨x, rfl, fun j u hj => by rw [h1] at hj; simp [u8s] at hj⟩
    · exact .inr ⟨_, h1, fun j u hj => by have := hr j u hj; rw [Addr.add_lit]; exact this⟩
  rcases hx0 with ⟨rfl, rfl, rfl⟩ | ⟨x0, rfl, hr⟩
  · have hrun := run_append_owned_none (P := Try.prog) w B 23 o.type 5 i0 1 Try.underlying23 hi0 v l.length _ hown
    unfold Oper.wp
    simp [execOp, hop, resolve, invoke, builtin, hs, hx]
    simp only [hrun, Result.andThen]
    exact hK v w (by rw [List.append_nil]; exact hown) ⟨rfl, rfl, rfl, Nat.le_refl _, fun _ _ _ => rfl⟩
  · obtain ⟨v', w', hrun, hown', hgr, _⟩ := run_append_own (P := Try.prog) w B 23 o.type 5 i0 _ 1 1 Try.underlying23 hi0 he.1 he.2.1 he.2.2 rfl (by decide) v l.length _ hown x0 m.length cap (u8s m) (by rw [u8s_length, Nat.mul_one]) hr (u8s_one m) (by unfold maxLen; omega) (by omega) hB
    unfold Oper.wp
    simp [execOp, hop, resolve, invoke, builtin, hs, hx, hrun, Result.andThen]
    refine hK v' w' ?_ hgr
    unfold BRow
    rw [List.length_append, u8s_app]
    exact hown'
end
theorem ne_part {w : World} {B pb : Nat} {v : Value} {l : List UInt8} {C : Array Value} (h : BRow w B v l) (hp : w.heap[pb]? = some (.cells C 84)) : some pb ≠ v.ownBlock := by
  intro e
  obtain ⟨_, ⟨rfl, _⟩ | ⟨g, cap, cur, rfl, hB, hb, _⟩⟩ := h
  · simp [Value.ownBlock] at e
  · simp [Value.ownBlock] at e
    rw [e, hb] at hp
    injection hp with hp
    injection hp with _ hp
    exact absurd hp (by decide)
theorem joined_le (f : Nat → List UInt8) (t : Nat) (h : ∀ i, i < t → (f i).length ≤ 102) : (joined f t).length ≤ 102 * t := by
  induction t with
  | zero => simp [joined]
  | succ t ih =>
    rw [joined_succ, List.length_append]
    have h1 := ih (fun i hi => h i (by omega))
    have h2 := h t (by omega)
    omega
theorem BRow.later {w w' : World} {B : Nat} {v : Value} {l : List UInt8} (h : BRow w B v l) (hg : w.grownBy w' none) : BRow w' B v l := h.grown hg
theorem list_fn (l : List Value) (n : Nat) (h : l.length = n) : l = (List.range n).map (fun i => l.getD i undef) := by
  apply List.ext_getElem?
  intro i
  by_cases hi : i < n
  · have : i < l.length := by omega
    simp [hi, this]
  · rw [List.getElem?_eq_none (by omega), List.getElem?_eq_none (by simp; omega)]
theorem list81 (l : List Value) (h : l.length = 81) : ∃ g : Nat → Value, l = [g 0, g 1, g 2, g 3, g 4, g 5, g 6, g 7, g 8, g 9, g 10, g 11, g 12, g 13, g 14, g 15, g 16, g 17, g 18, g 19, g 20, g 21, g 22, g 23, g 24, g 25, g 26, g 27, g 28, g 29, g 30, g 31, g 32, g 33, g 34, g 35, g 36, g 37, g 38, g 39, g 40, g 41, g 42, g 43, g 44, g 45, g 46, g 47, g 48, g 49, g 50, g 51, g 52, g 53, g 54, g 55, g 56, g 57, g 58, g 59, g 60, g 61, g 62, g 63, g 64, g 65, g 66, g 67, g 68, g 69, g 70, g 71, g 72, g 73, g 74, g 75, g 76, g 77, g 78, g 79, g 80] := ⟨fun i => l.getD i undef, (list_fn l 81 h).trans rfl⟩
theorem list92 (l : List Value) (h : l.length = 92) : ∃ g : Nat → Value, l = [g 0, g 1, g 2, g 3, g 4, g 5, g 6, g 7, g 8, g 9, g 10, g 11, g 12, g 13, g 14, g 15, g 16, g 17, g 18, g 19, g 20, g 21, g 22, g 23, g 24, g 25, g 26, g 27, g 28, g 29, g 30, g 31, g 32, g 33, g 34, g 35, g 36, g 37, g 38, g 39, g 40, g 41, g 42, g 43, g 44, g 45, g 46, g 47, g 48, g 49, g 50, g 51, g 52, g 53, g 54, g 55, g 56, g 57, g 58, g 59, g 60, g 61, g 62, g 63, g 64, g 65, g 66, g 67, g 68, g 69, g 70, g 71, g 72, g 73, g 74, g 75, g 76, g 77, g 78, g 79, g 80, g 81, g 82, g 83, g 84, g 85, g 86, g 87, g 88, g 89, g 90, g 91] := ⟨fun i => l.getD i undef, (list_fn l 92 h).trans rfl⟩
set_option maxRecDepth 100000 in
set_option maxHeartbeats 8000000 in
theorem whole_at (Sd : Nat → Prop) (d : Nat) (D : Dsk) (jb : Nat) (J : Jn) (sv rv : Value) (c : UInt8) (s k M q : Nat) (f : Nat → List UInt8) (done : Bool) (w : World) (h : DiskAt w Sd d D) (hj : JBlk w jb d J sv rv) (ho : D.off = false) (ha : J.area ≤ 1) (hu : J.used ≤ D.n) (hrun : Run D.now (J.area * (D.n / 2) + 1 + J.used) c s k M f q) (hroom : J.used + q ≤ D.n / 2 - 1)
    (hyes : done = true → q = M ∧ 1 ≤ M) (hno : done = false → q < M ∧ (D.n / 2 - 1 ≤ J.used + q ∨ Ends (D.now (J.area * (D.n / 2) + 1 + J.used + q)) c s k M q)) :
    Calls Try.prog 44 #[.pointer (some ⟨jb, 0, none⟩), .int .u8 (c.toNat : Int), .int .i64 (k : Int)] w fun e w' => ∃ v, e = .returned (.tuple #[v, .int .i64 ((if done = true then s else 0 : Nat) : Int), .bool done]) ∧ (done = true → BRow w' w.heap.size v (joined f M)) ∧ JBlk w' jb d (if done = true then { J with used := J.used + M } else J) sv rv ∧ Off (fun b => b = jb) w w' := by
  have k8 : w.cell? ⟨jb, 8, none⟩ = some (.int .i64 (J.used : Int)) := hj.cell 8
  have HD := Lib.hid h
  have HJ := Lib.hid hj
  have HO := Lib.hid ho
  have HA := Lib.hid ha
  have HU := Lib.hid hu
  have HRUN := Lib.hid hrun
  have HROOM := Lib.hid hroom
  have HYES := Lib.hid hyes
  have HNO := Lib.hid hno
  clear h hj ho ha hu hrun hroom hyes hno
  go_enter Try.func44, Try.ntmps44
  go_wp2_with fail
  refine scope_jumps2 (fun a' w' => ∃ (t sT mT A : Nat) (u : Value) (r : List Value), r.length = 81 ∧ a' = { tmps := ([.pointer (some ⟨jb, 0, none⟩), .int .u8 (c.toNat : Int), .int .i64 (k : Int), undef, undef, undef, u, .int .i64 (sT : Int), .bool false, .int .i64 (A : Int), .int .i64 (mT : Int)] ++ r).toArray, defers := [] } ∧ t ≤ q ∧ (done = true → t < M) ∧ A = J.used + t ∧ (t = 0 → sT = 0 ∧ mT = 0) ∧ (0 < t → sT = s ∧ mT = M) ∧ BRow w' w.heap.size u (joined f t) ∧ Below w.heap.size w w') (fun a' w' => ∃ r : List Value, r.length = 92 ∧ a' = { tmps := r.toArray, defers := [] } ∧ done = false ∧ Below w.heap.size w w') (fun a' _ => (J.used + M + 1) - (intOf (a'.tmps.getD 9 undef)).toNat) rfl rfl ?first ?pass1 ?pass0
  case first =>
    intro HP
    go_wp2_with fail
    refine wp_label ?_
    rename_i Q2 K hKK
    show K _ _
    refine hKK _ _ (wp_mono (HP _ _ ?hJ) ?hm)
    case hm =>
      intro e a w h
      exact h
    case hJ =>
      refine ⟨0, 0, 0, J.used, .slice none 0 0, _, ?_, rfl, Nat.zero_le _, fun hd => (HYES.out hd).2, rfl, fun _ => ⟨rfl, rfl⟩, fun h => absurd h (by decide), ⟨rfl, .inl ⟨rfl, rfl⟩⟩, Below.refl _ _⟩
      rfl
  case pass1 =>
    rintro a' wr ⟨t, sT, mT, A, u, r, hr, rfl, htq, hdt, hA, h0, h1, hrow, hb⟩
    obtain ⟨g, rfl⟩ := list81 r hr
    clear hr
    simp only [List.cons_append, List.nil_append]
    have HG : Hid (w.grownBy wr none) := Below.to_grown hb
    have HTQ := Lib.hid htq
    have HDT := Lib.hid hdt
    have HAT := Lib.hid hA
    have HT0 := Lib.hid h0
    have HT1 := Lib.hid h1
    have HROW := Lib.hid hrow
    have HB := Lib.hid hb
    have HDR := Lib.hid (HD.out.grown HG.out)
    have HJR := Lib.hid (HJ.out.grown HG.out)
    clear htq hdt hA h0 h1 hrow hb
    go_wp2_with fail
    refine (half_at Sd d D jb J sv rv wr HDR.out HJR.out).mono ?_
    rintro e wq ⟨rfl, hwq⟩
    have hwq := hwq.symm
    subst hwq
    have HHALF : Hid (J.area * (D.n / 2) + D.n / 2 ≤ D.n) := by
      show _ ≤ _
      have h1 := HA.out
      obtain h2 | h2 : J.area = 0 ∨ J.area = 1 := by omega
      · rw [h2]; omega
      · rw [h2]; omega
    have HN16 : Hid (D.n ≤ 16384) := HD.out.1
    have hwz : wrap64 ((D.n : Int) / 2 - 1) = (D.n : Int) / 2 - 1 := by have := HN16.out; unfold wrap64; omega
    have HWZ := Lib.hid hwz
    clear hwz
    by_cases hB : D.n / 2 - 1 ≤ A
    · have hd1 : decide (wrap64 ((D.n : Int) / 2 - 1) ≤ (A : Int)) = true := by rw [HWZ.out]; simp; omega
      have hdf : done = false := by
        cases hd : done with
        | false => rfl
        | true => have h1 := HYES.out hd; have h2 := HDT.out hd; have h3 := HROOM.out; have h4 := HAT.out; omega
      go_wp2_with fail
      go_step3
      refine .inr ⟨rfl, _, ?_, rfl, hdf, HB.out⟩
      rfl
    · have hd1 : decide (wrap64 ((D.n : Int) / 2 - 1) ≤ (A : Int)) = false := by rw [HWZ.out]; simp; omega
      have HA1 : Hid (((1 : Int) + (A : Int)) = ((1 + A : Nat) : Int)) := by show _ = _; omega
      have a1 : (A : Int) ≤ 8192 := by have := HN16.out; omega
      have HLT : Hid (J.area * (D.n / 2) + (1 + A) < D.n) := by show _ < _; have := HHALF.out; omega
      go_wp2_with fail
      rw [HA1.out]
      refine (sector_at Sd d D jb J sv rv (1 + A) wr HDR.out HJR.out HLT.out HO.out).mono ?_
      rintro e w2 ⟨gb, rfl, hgb, hgb2, hrb, hg2⟩
      have HRB := Lib.hid hrb
      have HG2 := Lib.hid hg2
      clear hrb hg2
      go_wp2_with fail
      have hsec : J.area * (D.n / 2) + (1 + A) = J.area * (D.n / 2) + 1 + J.used + t := by have := HAT.out; omega
      rw [hsec] at HRB
      by_cases hlt : t < q
      · have hp := HRUN.out t hlt
        refine (partOf_part hp w2 HRB.out hgb2).mono ?_
        rintro e w3 ⟨rfl, hb3⟩
        have HB3 := Lib.hid hb3
        have HP := Lib.hid hp
        clear hb3 hp
        go_upto_region 4 with fail
        have hgA := World.grownBy_alloc w3 (.cells #[.int .u8 (c.toNat : Int), .int .i64 (s : Int), .int .i64 (k : Int), .int .i64 (t : Int), .int .i64 (M : Int), .slice (some ⟨gb, 22, none⟩) (f t).length 106] 84) none
        have hcA := (MapKept.heap_alloc w3 (.cells #[.int .u8 (c.toNat : Int), .int .i64 (s : Int), .int .i64 (k : Int), .int .i64 (t : Int), .int .i64 (M : Int), .slice (some ⟨gb, 22, none⟩) (f t).length 106] 84)).1
        obtain ⟨w4, hw4⟩ : ∃ w4, w4 = w3.alloc (.cells #[.int .u8 (c.toNat : Int), .int .i64 (s : Int), .int .i64 (k : Int), .int .i64 (t : Int), .int .i64 (M : Int), .slice (some ⟨gb, 22, none⟩) (f t).length 106] 84) := ⟨_, rfl⟩
        obtain ⟨pb, hpb⟩ : ∃ pb, pb = w3.heap.size := ⟨_, rfl⟩
        rw [← hw4, ← hpb] at hcA
        rw [← hw4] at hgA ⊢
        rw [← hpb]
        have HG4 : Hid (wr.grownBy w4 none) := HG2.out.andThen ((Below.to_grown HB3.out).andThen hgA (fun _ h => .inr h)) (fun _ h => .inr h)
        have HG3 : Hid (w2.grownBy w4 none) := (Below.to_grown HB3.out).andThen hgA (fun _ h => .inr h)
        have HCA := Lib.hid hcA
        have HJ4 := Lib.hid (HJR.out.grown HG4.out)
        clear hgA hcA hw4 hpb
        have p0 : w4.cell? ⟨pb, 0, none⟩ = some (.int .u8 (c.toNat : Int)) := cell_blk HCA.out 0
        have p1 : w4.cell? ⟨pb, 1, none⟩ = some (.int .i64 (s : Int)) := cell_blk HCA.out 1
        have p2 : w4.cell? ⟨pb, 2, none⟩ = some (.int .i64 (k : Int)) := cell_blk HCA.out 2
        have p3 : w4.cell? ⟨pb, 3, none⟩ = some (.int .i64 (t : Int)) := cell_blk HCA.out 3
        have p4 : w4.cell? ⟨pb, 4, none⟩ = some (.int .i64 (M : Int)) := cell_blk HCA.out 4
        have p5 : w4.cell? ⟨pb, 5, none⟩ = some (.slice (some ⟨gb, 22, none⟩) (f t).length 106) := cell_blk HCA.out 5
        have j8 : w4.cell? ⟨jb, 8, none⟩ = some (.int .i64 (J.used : Int)) := HJ4.out.cell 8
        have HSUB : Hid ((A : Int) - (J.used : Int) = (t : Int)) := by show _ = _; have := HAT.out; omega
        go_cut [70] from 30 (fun v wx => v = .bool true ∧ ∃ m, wx = w4.drewN m)
        case first =>
          by_cases ht0 : t = 0
          · have hsw : IntKind.i64.wrap ((A : Int) - (J.used : Int)) = (t : Int) := by rw [HSUB.out, IntKind.wrap_i64]; have := HAT.out; have := HN16.out; omega
            have ht1 : ((t : Int) == 0) = true := by simp; omega
            have ht2 : decide ((t : Int) = 0) = true := by simp; omega
            clear ht0
            go_quiet (fail)
            go_wp2_with fail
            go_meet
            case rel => exact ⟨rfl, _, rfl⟩
          · obtain ⟨e1, e2⟩ := HT1.out (by omega)
            subst e1 e2
            have hsw : IntKind.i64.wrap ((A : Int) - (J.used : Int)) = (t : Int) := by rw [HSUB.out, IntKind.wrap_i64]; have := HAT.out; have := HN16.out; omega
            have hsw2 : wrap64 ((A : Int) - (J.used : Int)) = (t : Int) := by rw [HSUB.out]; have := HAT.out; have := HN16.out; unfold wrap64; omega
            have ht1 : ((t : Int) == 0) = false := by simp; omega
            have ht2 : ¬ (t : Int) = 0 := by omega
            go_quiet (fail)
            go_wp2_with fail
            go_meet
            case rel => exact ⟨rfl, _, rfl⟩
        case rest =>
          obtain ⟨rfl, m, rfl⟩ := hcut
          clear p0 p1 p2 p3 p4 p5 j8
          have hg5 : wr.grownBy (w4.drewN m).drew none := HG4.out.andThen (⟨rfl, rfl, rfl, Nat.le_refl _, fun _ _ _ => rfl⟩ : w4.grownBy (w4.drewN m).drew none) (fun _ h => .inr h)
          have H5 : Hid ((w4.drewN m).drew.cell? ⟨pb, 1, none⟩ = some (Value.int .i64 (s : Int)) ∧ (w4.drewN m).drew.cell? ⟨pb, 4, none⟩ = some (Value.int .i64 (M : Int)) ∧ (w4.drewN m).drew.cell? ⟨pb, 5, none⟩ = some (Value.slice (some ⟨gb, 22, none⟩) (f t).length 106)) := ⟨cell_blk HCA.out 1, cell_blk HCA.out 4, cell_blk HCA.out 5⟩
          have HROW5 : Hid (BRow (w4.drewN m).drew w.heap.size u (joined f t)) := HROW.out.later hg5
          have HG5 := Lib.hid hg5
          have HBS : Hid (w.heap.size ≤ (w4.drewN m).drew.heap.size) := Nat.le_trans HB.out.size HG5.out.size
          have HFEW : Hid ((joined f t).length + (f t).length < 100000000000) := by
            show _ < _
            have h1 := joined_le f t (fun i hi => (HRUN.out i (by omega)).len)
            have h2 := HP.out.len
            have h3 := HAT.out
            have h4 := HN16.out
            omega
          have HRNG : Hid ((w4.drewN m).drew.rangeAt gb 22 (u8s (f t))) := by
            have h1 := range_head (range_drop HRB.out 22) (f t).length
            rw [HP.out.eq, part_body] at h1
            intro j x hj
            have h2 := HG3.out.cell (h1 j x hj) (by simp)
            exact h2
          have HNE : Hid (some pb ≠ u.ownBlock) := ne_part HROW5.out HCA.out
          clear hg5
          go_wp2_with fail
          refine wp_region_noPanic ?_
          refine wp_region_held_drew (S := fun w' => w'.cell? ⟨pb, 1, none⟩ = some (Value.int .i64 (s : Int)) ∧ w'.cell? ⟨pb, 4, none⟩ = some (Value.int .i64 (M : Int)) ∧ w'.cell? ⟨pb, 5, none⟩ = some (Value.slice (some ⟨gb, 22, none⟩) (f t).length 106)) (by kernel_rfl) ?hSz (fun hHeld => ?_)
          case hSz => exact H5.out
          refine wpAnyH_take (i := 0) (oi := ⟨_, _, _, _, _, _⟩) (v := ?vz0) rfl (by kernel_rfl) (by kernel_rfl) (by kernel_rfl) (fun _ _ _ h => h) (Or.inl ⟨by rfl, ?hyz0⟩) hHeld ?_
          case hyz0 => (intro wS hSw; (try dsimp only at hSw); go_simp; (first | done | with_reducible rfl))
          try simp only [Act.put, List.setIfInBounds_toArray, List.set_cons_zero, List.set_cons_succ]
          refine wpAnyH_take (i := 1) (oi := ⟨_, _, _, _, _, _⟩) (v := ?vz1) rfl (by kernel_rfl) (by kernel_rfl) (by kernel_rfl) (fun _ _ _ h => h) (Or.inl ⟨by rfl, ?hyz1⟩) hHeld ?_
          case hyz1 => (intro wS hSw; (try dsimp only at hSw); go_simp; (first | done | with_reducible rfl))
          try simp only [Act.put, List.setIfInBounds_toArray, List.set_cons_zero, List.set_cons_succ]
          refine wpAnyH_take (i := 2) (oi := ⟨_, _, _, _, _, _⟩) (v := ?vz2) rfl (by kernel_rfl) (by kernel_rfl) (by kernel_rfl) (fun _ _ _ h => h) (Or.inl ⟨by rfl, ?hyz2⟩) hHeld ?_
          case hyz2 => (intro wS hSw; (try dsimp only at hSw); go_simp; (first | done | with_reducible rfl))
          try simp only [Act.put, List.setIfInBounds_toArray, List.set_cons_zero, List.set_cons_succ]
          refine wpAnyH_take (i := 4) (oi := ⟨_, _, _, _, _, _⟩) (v := ?vz4) rfl (by kernel_rfl) (by kernel_rfl) (by kernel_rfl) (fun _ _ _ h => h) (Or.inl ⟨by rfl, ?hyz4⟩) hHeld ?_
          case hyz4 => (intro wS hSw; (try dsimp only at hSw); go_simp; (first | done | with_reducible rfl))
          try simp only [Act.put, List.setIfInBounds_toArray, List.set_cons_zero, List.set_cons_succ]
          refine wpAnyH_take (i := 5) (oi := ⟨_, _, _, _, _, _⟩) (v := ?vz5) rfl (by kernel_rfl) (by kernel_rfl) (by kernel_rfl) (fun _ _ _ h => h) (Or.inl ⟨by rfl, ?hyz5⟩) hHeld ?_
          case hyz5 => (intro wS hSw; (try dsimp only at hSw); go_simp; (first | done | with_reducible rfl))
          try simp only [Act.put, List.setIfInBounds_toArray, List.set_cons_zero, List.set_cons_succ]
          refine wpAnyH_take (i := 6) (oi := ⟨_, _, _, _, _, _⟩) (v := ?vz6) rfl (by kernel_rfl) (by kernel_rfl) (by kernel_rfl) (fun _ _ _ h => h) (Or.inl ⟨by rfl, ?hyz6⟩) hHeld ?_
          case hyz6 => (intro wS hSw; (try dsimp only at hSw); go_simp; (first | done | with_reducible rfl))
          try simp only [Act.put, List.setIfInBounds_toArray, List.set_cons_zero, List.set_cons_succ]
          refine wpAnyH_take (i := 7) (oi := ⟨_, _, _, _, _, _⟩) (v := ?vz7) rfl (by kernel_rfl) (by kernel_rfl) (by kernel_rfl) (fun _ _ _ h => h) (Or.inl ⟨by rfl, ?hyz7⟩) hHeld ?_
          case hyz7 => (intro wS hSw; (try dsimp only at hSw); go_simp; (first | done | with_reducible rfl))
          try simp only [Act.put, List.setIfInBounds_toArray, List.set_cons_zero, List.set_cons_succ]
          refine wpAnyH_ready (rs := [3]) (by kernel_rfl) (by simp) ?_
          refine AllReadyH.cons (o := ⟨_, _, _, _, _, _⟩) rfl (fun K hK => ?_) AllReadyH.nil
          refine step_append_row rfl (.tmp 71) (.tmp 73) rfl w.heap.size _ (joined f t) (f t) (some ⟨gb, 22, none⟩) (f t).length 106 rfl rfl (by exact HROW5.out) rfl (.inr ⟨gb, 22, rfl, by exact HRNG.out⟩) HFEW.out (by exact HBS.out) ?_
          intro v6 w6 hr6 hg6
          have HR6 := Lib.hid hr6
          have HG6 := Lib.hid hg6
          have HB6 := Lib.hid (HROW5.out.below hg6 HBS.out)
          clear hr6 hg6
          refine hK.out _ _ ?kz3 (fun hNew => ?_)
          case kz3 => (try dsimp only); exact ⟨HG6.out.cell H5.out.1 HNE.out, HG6.out.cell H5.out.2.1 HNE.out, HG6.out.cell H5.out.2.2 HNE.out⟩
          clear hK K hHeld
          have hHeld := hNew
          clear hNew
          try simp only [Act.put, List.setIfInBounds_toArray, List.set_cons_zero, List.set_cons_succ]
          refine wpAnyH_take (i := 8) (oi := ⟨_, _, _, _, _, _⟩) (v := ?vz8) rfl (by kernel_rfl) (by kernel_rfl) (by kernel_rfl) (fun _ _ _ h => h) (Or.inl ⟨by rfl, ?hyz8⟩) hHeld ?_
          case hyz8 => (intro wS hSw; (try dsimp only at hSw); go_simp; (first | done | with_reducible rfl))
          try simp only [Act.put, List.setIfInBounds_toArray, List.set_cons_zero, List.set_cons_succ]
          refine wpAnyH_take (i := 9) (oi := ⟨_, _, _, _, _, _⟩) (v := ?vz9) rfl (by kernel_rfl) (by kernel_rfl) (by kernel_rfl) (fun _ _ _ h => h) (Or.inl ⟨by rfl, ?hyz9⟩) hHeld ?_
          case hyz9 => (intro wS hSw; (try dsimp only at hSw); go_simp; (first | done | with_reducible rfl))
          try simp only [Act.put, List.setIfInBounds_toArray, List.set_cons_zero, List.set_cons_succ]
          refine wpAnyH_take (i := 10) (oi := ⟨_, _, _, _, _, _⟩) (v := ?vz10) rfl (by kernel_rfl) (by kernel_rfl) (by kernel_rfl) (fun _ _ _ h => h) (Or.inl ⟨by rfl, ?hyz10⟩) hHeld ?_
          case hyz10 => (intro wS hSw; (try dsimp only at hSw); go_simp; (first | done | with_reducible rfl))
          try simp only [Act.put, List.setIfInBounds_toArray, List.set_cons_zero, List.set_cons_succ]
          refine wpAnyH_done (by kernel_rfl) ?_ _
          refine NoPanic.normal ?_
          clear hHeld
          have q3 : w6.cell? ⟨pb, 3, none⟩ = some (.int .i64 (t : Int)) := HG6.out.cell (show (w4.drewN m).drew.cell? ⟨pb, 3, none⟩ = some (.int .i64 (t : Int)) from cell_blk HCA.out 3) HNE.out
          have HWM : Hid (wrap64 ((M : Int) - 1) = (M : Int) - 1) := by show _ = _; have := HP.out.lt; have := HP.out.n16; unfold wrap64; omega
          have HBW : Hid (Below w.heap.size w w6) := (HB.out.trans (grown_below0 HG5.out HB.out.size)).trans HB6.out
          by_cases hM1 : t + 1 < M
          · have hd2 : decide ((t : Int) < wrap64 ((M : Int) - 1)) = true := by rw [HWM.out]; simp; omega
            have hd3 : decide ((t : Int) < (M : Int) - 1) = true := by simp; omega
            go_wp2_with fail
            go_step3
            refine .inl ⟨rfl, ⟨t + 1, s, M, A + 1, v6, _, ?_, by rfl, hlt, fun _ => hM1, by have := HAT.out; omega, fun h => absurd h (by omega), fun _ => ⟨rfl, rfl⟩, by rw [joined_succ]; exact HR6.out, HBW.out⟩, ?_⟩
            · rfl
            · show J.used + M + 1 - ((A : Int) + 1).toNat < J.used + M + 1 - (A : Int).toNat
              have := HAT.out
              omega
          · have hd2 : decide ((t : Int) < wrap64 ((M : Int) - 1)) = false := by rw [HWM.out]; simp; omega
            have hd3 : decide ((t : Int) < (M : Int) - 1) = false := by simp; omega
            have hjb : w6.heap[jb]? = some (.cells (JC d J sv rv) 57) := (HBW.out.block jb HJ.out.lt).trans HJ.out
            have j8 : w6.cell? ⟨jb, 8, none⟩ = some (.int .i64 (J.used : Int)) := cell_blk hjb 8
            have jf : w6.frozen? ⟨jb, 8, none⟩ = false := frozen_blk hjb 8
            have HJB := Lib.hid hjb
            clear hjb
            go_wp2_with fail
            simp only [jumpM]
            go_ret3
            have hM2 : t + 1 = M := by have := HP.out.lt; omega
            have hdone : done = true := by
              cases hd : done with
              | true => rfl
              | false => have := (HNO.out hd).1; omega
            rw [hdone, if_pos rfl, if_pos rfl]
            have eA : (A : Int) + 1 = ((J.used + M : Nat) : Int) := by have := HAT.out; omega
            refine ⟨v6, rfl, fun _ => ?_, ?_, ?_⟩
            · have hr := HR6.out
              rw [← joined_succ, hM2] at hr
              exact Sec.row_off hr (S := fun b => b = jb) ⟨rfl, rfl, rfl, by simp, fun q hq hs => heap_setCell_other w6 ⟨jb, 8, none⟩ q _ hs⟩ (fun g hg e => by
                have h1 := (hr.own g hg)
                have h2 := HJ.out.lt
                omega)
            · have h1 := heap_setCell_same w6 jb 8 _ _ (.int .i64 ((A : Int) + 1)) HJB.out
              rw [eA] at h1 ⊢
              exact h1
            · refine ⟨HBW.out.os, HBW.out.tape, HBW.out.output, by have := HBW.out.size; simpa using this, fun q hq hs => ?_⟩
              rw [heap_setCell_other w6 ⟨jb, 8, none⟩ q _ hs]
              exact HBW.out.block q hq
      · have htq2 : t = q := by have := HTQ.out; omega
        have hdf : done = false := by
          cases hd : done with
          | false => rfl
          | true => have h1 := HYES.out hd; have h2 := HDT.out hd; omega
        have hends : Ends (D.now (J.area * (D.n / 2) + 1 + J.used + t)) c s k M t := by
          rcases (HNO.out hdf).2 with h | h
          · have := HAT.out; omega
          · rw [htq2]; exact h
        have HEND := Lib.hid hends
        have HDF := Lib.hid hdf
        clear hends hdf htq2
        rcases HEND.out with ⟨c0, hc0, hn1, hn2⟩ | ⟨c', s', k', i', n', l', hp, hmis⟩
        · have hcell : w2.cell? ⟨gb, 0, none⟩ = some (.int .u8 (c0.toNat : Int)) := HRB.out 0 _ (by simp [u8s, hc0])
          refine (partOf_none gb 128 c0.toNat w2 hcell hn1 hn2 (by decide) (by decide)).mono ?_
          rintro e w3 ⟨rfl, hb3⟩
          have HB3 := Lib.hid hb3
          clear hb3 hcell
          go_upto_region 4 with fail
          have hgA := World.grownBy_alloc w3 (.cells #[.int .u8 (c0.toNat : Int), .int .i64 0, .int .i64 0, .int .i64 0, .int .i64 0, .slice none 0 0] 84) none
          obtain ⟨w4, hw4⟩ : ∃ w4, w4 = w3.alloc (.cells #[.int .u8 (c0.toNat : Int), .int .i64 0, .int .i64 0, .int .i64 0, .int .i64 0, .slice none 0 0] 84) := ⟨_, rfl⟩
          rw [← hw4] at hgA ⊢
          have HG4 : Hid (wr.grownBy w4 none) := HG2.out.andThen ((Below.to_grown HB3.out).andThen hgA (fun _ h => .inr h)) (fun _ h => .inr h)
          clear hgA hw4
          go_quiet (fail)
          go_wp2_with fail
          have HG4 : Hid (wr.grownBy (w4.drewN nq) none) := HG4.out.andThen (⟨rfl, rfl, rfl, Nat.le_refl _, fun _ _ _ => rfl⟩ : w4.grownBy (w4.drewN nq) none) (fun _ h => .inr h)
          refine wp_label ?_
          go_wp2_with fail
          simp only [jumpM]
          go_ret3
          rw [HDF.out]
          refine ⟨_, rfl, fun h => (Bool.noConfusion h), (HJR.out.grown HG4.out), ⟨HG4.out.os.trans HB.out.os, HG4.out.tape.trans HB.out.tape, HG4.out.output.trans HB.out.output, Nat.le_trans HB.out.size HG4.out.size, fun x hx _ => ?_⟩⟩
          exact (HG4.out.block x (Nat.lt_of_lt_of_le hx HB.out.size) (by simp)).trans (HB.out.block x hx)
        · refine (partOf_part hp w2 HRB.out hgb2).mono ?_
          rintro e w3 ⟨rfl, hb3⟩
          have HB3 := Lib.hid hb3
          have HMIS := Lib.hid hmis
          have HP := Lib.hid hp
          clear hb3 hp hmis
          go_upto_region 4 with fail
          have hgA := World.grownBy_alloc w3 (.cells #[.int .u8 (c'.toNat : Int), .int .i64 (s' : Int), .int .i64 (k' : Int), .int .i64 (i' : Int), .int .i64 (n' : Int), .slice (some ⟨gb, 22, none⟩) l'.length 106] 84) none
          have hcA := (MapKept.heap_alloc w3 (.cells #[.int .u8 (c'.toNat : Int), .int .i64 (s' : Int), .int .i64 (k' : Int), .int .i64 (i' : Int), .int .i64 (n' : Int), .slice (some ⟨gb, 22, none⟩) l'.length 106] 84)).1
          obtain ⟨w4, hw4⟩ : ∃ w4, w4 = w3.alloc (.cells #[.int .u8 (c'.toNat : Int), .int .i64 (s' : Int), .int .i64 (k' : Int), .int .i64 (i' : Int), .int .i64 (n' : Int), .slice (some ⟨gb, 22, none⟩) l'.length 106] 84) := ⟨_, rfl⟩
          obtain ⟨pb, hpb⟩ : ∃ pb, pb = w3.heap.size := ⟨_, rfl⟩
          rw [← hw4, ← hpb] at hcA
          rw [← hw4] at hgA ⊢
          rw [← hpb]
          have HG4 : Hid (wr.grownBy w4 none) := HG2.out.andThen ((Below.to_grown HB3.out).andThen hgA (fun _ h => .inr h)) (fun _ h => .inr h)
          have HCA := Lib.hid hcA
          have HJ4 := Lib.hid (HJR.out.grown HG4.out)
          clear hgA hcA hw4 hpb
          have p0 : w4.cell? ⟨pb, 0, none⟩ = some (.int .u8 (c'.toNat : Int)) := cell_blk HCA.out 0
          have p1 : w4.cell? ⟨pb, 1, none⟩ = some (.int .i64 (s' : Int)) := cell_blk HCA.out 1
          have p2 : w4.cell? ⟨pb, 2, none⟩ = some (.int .i64 (k' : Int)) := cell_blk HCA.out 2
          have p3 : w4.cell? ⟨pb, 3, none⟩ = some (.int .i64 (i' : Int)) := cell_blk HCA.out 3
          have p4 : w4.cell? ⟨pb, 4, none⟩ = some (.int .i64 (n' : Int)) := cell_blk HCA.out 4
          have j8 : w4.cell? ⟨jb, 8, none⟩ = some (.int .i64 (J.used : Int)) := HJ4.out.cell 8
          have hsub : (A : Int) - (J.used : Int) = (t : Int) := by have := HAT.out; omega
          have hsw : IntKind.i64.wrap ((A : Int) - (J.used : Int)) = (t : Int) := by rw [hsub, IntKind.wrap_i64]; have := HAT.out; have := HN16.out; omega
          clear hsub
          go_cut [70] from 30 (fun v wx => v = .bool false ∧ ∃ m, wx = w4.drewN m)
          case first =>
            have hn : ∀ a b : Nat, a ≠ b → (((a : Int) == (b : Int)) = false) := fun a b h => by simp; omega
            have hy : ∀ a b : Nat, a = b → (((a : Int) == (b : Int)) = true) := fun a b h => by simp; omega
            by_cases e1 : c' = c
            · have x1 := hy c'.toNat c.toNat (by rw [e1])
              by_cases e2 : k' = k
              · have x2 := hy k' k e2
                by_cases e3 : i' = t
                · have x3 := hy i' t e3
                  obtain ⟨h0, hm⟩ : 0 < t ∧ (s' ≠ s ∨ n' ≠ M) := by
                    rcases HMIS.out with h | h | h | h
                    · exact absurd e1 h
                    · exact absurd e2 h
                    · exact absurd e3 h
                    · exact h
                  obtain ⟨y1, y2⟩ := HT1.out h0
                  have x4 : ((i' : Int) == 0) = false := by simp; omega
                  have x7 : ¬ (i' : Int) = 0 := by omega
                  by_cases e4 : s' = s
                  · have x5 := hy s' sT (by omega)
                    have x6 := hn n' mT (by rcases hm with h | h; exact absurd e4 h; omega)
                    clear e1 e2 e3 e4 hm h0 y1 y2 hn hy
                    go_quiet (fail)
                    go_wp2_with fail
                    go_meet
                    case rel => exact ⟨rfl, _, rfl⟩
                  · have x5 := hn s' sT (by omega)
                    clear e1 e2 e3 e4 hm h0 y1 y2 hn hy
                    go_quiet (fail)
                    go_wp2_with fail
                    go_meet
                    case rel => exact ⟨rfl, _, rfl⟩
                · have x3 := hn i' t e3
                  clear e1 e2 e3 hn hy
                  go_quiet (fail)
                  go_wp2_with fail
                  go_meet
                  case rel => exact ⟨rfl, _, rfl⟩
              · have x2 := hn k' k e2
                clear e1 e2 hn hy
                go_quiet (fail)
                go_wp2_with fail
                go_meet
                case rel => exact ⟨rfl, _, rfl⟩
            · have x1 := hn c'.toNat c.toNat (fun h => e1 (UInt8.toNat_inj.1 h))
              clear e1 hn hy
              go_quiet (fail)
              go_wp2_with fail
              go_meet
              case rel => exact ⟨rfl, _, rfl⟩
          case rest =>
            obtain ⟨rfl, m, rfl⟩ := hcut
            clear p0 p1 p2 p3 p4 j8 hsw
            have HG4 : Hid (wr.grownBy (w4.drewN m) none) := HG4.out.andThen (⟨rfl, rfl, rfl, Nat.le_refl _, fun _ _ _ => rfl⟩ : w4.grownBy (w4.drewN m) none) (fun _ h => .inr h)
            go_wp2_with fail
            refine wp_label ?_
            go_wp2_with fail
            simp only [jumpM]
            go_ret3
            rw [HDF.out]
            refine ⟨_, rfl, fun h => (Bool.noConfusion h), (HJR.out.grown HG4.out), ⟨HG4.out.os.trans HB.out.os, HG4.out.tape.trans HB.out.tape, HG4.out.output.trans HB.out.output, Nat.le_trans HB.out.size HG4.out.size, fun x hx _ => ?_⟩⟩
            exact (HG4.out.block x (Nat.lt_of_lt_of_le hx HB.out.size) (by simp)).trans (HB.out.block x hx)
  case pass0 =>
    rintro a' wr ⟨r, hr, rfl, hdn, hb⟩
    obtain ⟨g, rfl⟩ := list92 r hr
    clear hr
    go_wp2_with fail
    simp only [jumpM]
    go_ret3
    rw [hdn]
    refine ⟨_, rfl, fun h => (Bool.noConfusion h), ?_, ⟨hb.os, hb.tape, hb.output, hb.size, fun k hk _ => hb.block k hk⟩⟩
    exact (hb.block jb HJ.out.lt).trans HJ.out
end Go.Proofs.Ytgdedgfohjplmaa.Jnl
