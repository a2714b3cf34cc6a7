/- A sector is written: sectors.Write. -/
import Derived.Test.YtplnkpbfnpajjaaSecWLay
namespace Go.Proofs.Ytplnkpbfnpajjaa.Sec
open Go.RowKit Go.Maps

/-- The disk behind a write that is done. -/
def Dsk.push (D : Dsk) (i : Nat) (l : List UInt8) : Dsk := { D with wr := D.wr ++ [(i, l)], now := upd D.now i l }
theorem wpList_store_wr0 {ops : Array Oper} {rest : List Oper} {op : Oper} {a : Act} {w' : World} {Q : Exit → Act → World → Prop} (hgd : op.guard = none) (x y : Operand) (ho : op.op = .store 55 x y)
    (i : Nat) (w : World) (gg : Nat) (hgg : w.heap.size = gg) (hw : w' = w.alloc (.cells (wrA 0 noughts) 55)) (hx : a.eval x = .pointer (some ⟨gg, 0, none⟩)) (hy : a.eval y = .agg (wrA i noughts))
    (h : wpList Try.prog ops Q rest (a.put op.dst undef) (wr0 w i)) : wpList Try.prog ops Q (op :: rest) a w' := by
  subst hw
  subst hgg
  exact wpList_store_wr hgd x y ho w.heap.size i noughts noughts_length hx hy (there_new w _ _ _ (by rw [wrA_size, noughts_length]; omega)) h

set_option maxRecDepth 100000 in
set_option maxHeartbeats 4000000 in
theorem write_plain (S : Nat → Prop) (d i : Nat) (D : Dsk) (l : List UInt8) (A : Option Addr) (cap : Nat) (w : World) (h : DiskAt w S d D) (hr : RowB w S A l) (hS : ∀ b, w.heap.size ≤ b → S b) (hi : i < D.n) (ho : D.off = false) (hl : l.length ≤ 128) (harm : D.armed = none) (hn : D.wr.length < 1000000) :
    Calls Try.prog 9 #[.pointer (some ⟨d, 0, none⟩), .int .i64 (i : Int), .slice A l.length cap] w fun e w' => e = .returned (.int .i64 0) ∧ DiskAt w' S d (D.push i (pad l)) ∧ Off S w w' := by
  have hask := asked_at S d D (i : Int) w h
  rw [show askedN D (i : Int) = 0 by unfold askedN; rw [if_neg (by simp [ho]), if_neg (by omega)]] at hask
  obtain ⟨h1, h2, mb, mn, sv, pa, hd, hB, hmb, hmn, hne, hsb, hsn, hrow, hos, ha⟩ := h
  have c4 : w.cell? ⟨d, 4, none⟩ = some (.pointer pa) := cell_blk hd 4
  have ha' := ha
  rw [harm] at ha'
  have hpa : pa = none := ha'
  subst hpa
  have d128 : decide ((128 : Int) < (l.length : Int)) = false := by simp; omega
  have hbw := build_wr
  have hzw := zero_wr
  have HRW := Lib.hid (hr.grown (wr0_grown w i))
  have HA := Lib.hid hask
  have HL := Lib.hid hl
  have HPL := Lib.hid (pad_length l hl)
  have HTH := Lib.hid (wr0_there w i)
  have HB0 := Lib.hid (Off.refl S w)
  have HW0 := Lib.hid (And.intro hd (And.intro hsb (And.intro hsn (And.intro hrow ha))))
  have H2 := Lib.hid h2
  clear hd hask hr ha ha' hsb hsn hrow h2 hl
  go_enter Try.func9, Try.ntmps9
  go_wp2_with fail
  refine HA.out.mono ?_
  rintro e w' ⟨rfl, rfl⟩
  go_wp2_with (first
    | (with_reducible show Go.wpList _ _ _ ((⟨_, .store _ _ _, _, _, _, _⟩ : Oper) :: _) _ _; refine wpList_store_wr0 rfl _ _ rfl i (w) w.heap.size rfl rfl rfl rfl ?_; generalize (wrA 0 noughts).setIfInBounds 0 _ = junk; go_frame)
    | go_in)
  rw [run_copy_sec _ _ w.heap.size S A l cap HL.out HRW.out HTH.out]
  simp only [Result.andThen]
  rw [Oper.upon_value]
  have hsz := laid_size (w) i l
  have hgr := laid_grown (w) i l
  have hld := laid (w) i l HL.out
  skip
  have hs0 : (w).heap.size = w.heap.size := rfl
  obtain ⟨g, hgq⟩ : ∃ g, g = w.heap.size := ⟨_, rfl⟩
  rw [← hgq] at hsz hgr hld hS ⊢
  generalize (wr0 (w) i).setCells g 1 (u8s l) = w1 at hsz hgr hld ⊢
  obtain ⟨hd, hsb, hsn, hrow, ha⟩ := HW0.out
  have hdlt := (Array.getElem?_eq_some_iff.1 hd).1
  have hown := hrow.lt
  have hmnlt := hsn.lt
  have HMN : Hid (mn < g ∧ d < g) := by show _ ∧ _; omega
  clear hmnlt
  have hd1 := (hgr.block d hdlt (by simp)).trans hd
  have hsb1 := hsb.kept hgr (by simp)
  have hsn1 := hsn.kept hgr (by simp)
  have hrow1 := row_grown hrow hgr
  have ha1 := ha.grown hgr
  have c3x : w1.drew.cell? ⟨d, 3, none⟩ = some sv := cell_blk (w := w1.drew) hd1 3
  have hgA := drew_alloc_grown w1 (.cells (wrA i (pad l)) 55) none
  have hdA := (hgA.block d (by omega) (by simp)).trans hd1
  have c3y : (w1.drew.alloc (.cells (wrA i (pad l)) 55)).cell? ⟨d, 3, none⟩ = some sv := cell_blk hdA 3
  have c3z : (w1.alloc (.cells (wrA i (pad l)) 55)).cell? ⟨d, 3, none⟩ = some sv := c3y
  have HLAID := Lib.hid hld
  have HG : Hid (g < w1.heap.size) := by show g < _; omega
  have hgd : g ≠ d := by omega
  have HROW := Lib.hid (row_grown hrow1 hgA)
  obtain ⟨i0, hi0, he0⟩ := Option.map_eq_some_iff.1 info_wr
  simp only [Prod.mk.injEq] at he0
  have HI0 := Lib.hid (And.intro hi0 he0)
  have HZW : Hid ((Value.agg (wrA 0 noughts)).cells.size = 129) := by show (wrA 0 noughts).size = 129; rw [wrA_size, noughts_length]
  have HLL : Hid ((wrA i (pad l)).toList.length = 1 * 129) := by show _ = _; rw [Array.length_toList, wrA_size, HPL.out]
  have HNEWS : Hid (∀ j u, (wrA i (pad l)).toList[j]? = some u → (w1.drew.alloc (.cells (wrA i (pad l)) 55)).cell? ((⟨w1.heap.size, 0, none⟩ : Addr).add j) = some u) := by
    intro j u hu
    have hadd : (⟨w1.heap.size, 0, none⟩ : Addr).add j = ⟨w1.heap.size, j, none⟩ := by unfold Addr.add; split <;> simp_all
    rw [hadd]
    have := cell_new w1.drew (wrA i (pad l)) 55 j
    exact this.trans (by simpa using hu)
  have HM1 : Hid (D.wr.length + 1 ≤ maxLen) := by show _ ≤ _; unfold maxLen; omega
  have HM2 : Hid ((D.wr.length + 1) * 136 ≤ 140737488355328) := by show _ ≤ _; omega
  have HBB : Hid (0 ≤ (w1.drew.alloc (.cells (wrA i (pad l)) 55)).heap.size) := Nat.zero_le _
  have HPUSH : Hid (∀ sv2 w5, w5.ownsRow 0 55 129 sv2 (D.wr.length + 1) (rows D.wr ++ (wrA i (pad l)).toList) → (w1.drew.alloc (.cells (wrA i (pad l)) 55)).grownBy w5 sv.ownBlock → (sv2.ownBlock = sv.ownBlock ∨ sv2.ownBlock = some (w1.drew.alloc (.cells (wrA i (pad l)) 55)).heap.size) → _) := fun sv2 w5 ho5 hg5 hob => DiskAt.push (w := w1) (D := D) (sv2 := sv2) hd1 hB hsb1 hsn1 hrow1 hos ha1 (fun b hb => hS b (by omega)) hgA ho5 hg5 hob
  have HKEEP : Hid (∀ (sv2 : Value) (w5 : World), w5.ownsRow 0 55 129 sv2 (D.wr.length + 1) (rows D.wr ++ (wrA i (pad l)).toList) → (w1.drew.alloc (.cells (wrA i (pad l)) 55)).grownBy w5 sv.ownBlock → w5.rangeAt g 0 (wrA i (pad l)).toList ∧ g < w5.heap.size) := by
    intro sv2 w5 _ hg5
    have hgs := hg5.size
    have hgA' := hgA.size
    refine ⟨fun j v hv => ?_, by omega⟩
    have hne5 : some g ≠ sv.ownBlock := fun e => by have := (hown g e.symm).2; omega
    exact hg5.cell (hgA.cell (hld j v hv) (by simp)) hne5
  have HKEEP2 : Hid (∀ (sv2 : Value) (w5 : World), w5.ownsRow 0 55 129 sv2 (D.wr.length + 1) (rows D.wr ++ (wrA i (pad l)).toList) → (w1.drew.alloc (.cells (wrA i (pad l)) 55)).grownBy w5 sv.ownBlock → (w5.setCell ⟨d, 3, none⟩ sv2).rangeAt g 0 (wrA i (pad l)).toList ∧ g < (w5.setCell ⟨d, 3, none⟩ sv2).heap.size) := by
    intro sv2 w5 ho5 hg5
    obtain ⟨hr5, hs5⟩ := HKEEP.out sv2 w5 ho5 hg5
    refine ⟨fun j v hv => ?_, by simpa using hs5⟩
    rw [World.cell?_setCell_other _ _ _ _ (by simp [Ne.symm hgd, hgd])]
    exact hr5 j v hv
  have hb1 : Off S (w) w1 := Off.of_grown hgr (by simp)
  have HB1 := Lib.hid hb1
  have HSZ := Lib.hid hsz
  have HGQ := Lib.hid hgq
  clear hs0 HRW HTH c4 HW0 hd hsb hsn hrow ha hdlt hown hd1 hsb1 hsn1 hrow1 ha1 hgA hdA hld hi0 he0 hb1 hgr hsz hgq
  clear hbw hzw
  go_wp2_with fail
  refine wp_region_noPanic ?_
  refine wp_region_held_drew (S := fun w' => w'.rangeAt g 0 (wrA i (pad l)).toList ∧ g < w'.heap.size) (by kernel_rfl) ?hSa (fun hHeld => ?_)
  case hSa => exact ⟨(World.rangeAt_drew _ _ _ _).2 HLAID.out, by simpa using HG.out⟩
  refine wpAnyH_take (i := 0) (oi := ⟨_, _, _, _, _, _⟩) (v := ?va0) rfl (by kernel_rfl) (by kernel_rfl) (by kernel_rfl) (fun _ _ _ h => h) (Or.inl ⟨by rfl, ?hya0⟩) hHeld ?_
  case hya0 => (intro wS hSw; (try dsimp only at hSw); go_simp; (first | done | with_reducible rfl))
  try simp only [Act.put, List.setIfInBounds_toArray, List.set_cons_zero, List.set_cons_succ]
  refine wpAnyH_take (i := 1) (oi := ⟨_, _, _, _, _, _⟩) (v := ?va1) rfl (by kernel_rfl) (by kernel_rfl) (by kernel_rfl) (fun _ _ _ h => h) (Or.inl ⟨by rfl, ?hya1⟩) hHeld ?_
  case hya1 => (intro wS hSw; (try dsimp only at hSw); go_simp; (first | done | with_reducible rfl))
  try simp only [Act.put, List.setIfInBounds_toArray, List.set_cons_zero, List.set_cons_succ]
  refine wpAnyH_take (i := 2) (oi := ⟨_, _, _, _, _, _⟩) (v := ?va2) rfl (by kernel_rfl) (by kernel_rfl) (by kernel_rfl) (fun _ _ _ h => h) (Or.inl ⟨by rfl, ?hya2⟩) hHeld ?_
  case hya2 => (intro wS hSw; (try dsimp only at hSw); go_simp; (first | done | with_reducible rfl))
  try simp only [Act.put, List.setIfInBounds_toArray, List.set_cons_zero, List.set_cons_succ]
  refine wpAnyH_take (i := 3) (oi := ⟨_, _, _, _, _, _⟩) (v := ?va3) rfl (by kernel_rfl) (by kernel_rfl) (by kernel_rfl) (fun _ _ _ h => h) (Or.inl ⟨by rfl, ?hya3⟩) hHeld ?_
  case hya3 => (intro wS hSw; (try dsimp only at hSw); go_simp; (first | done | with_reducible rfl))
  try simp only [Act.put, List.setIfInBounds_toArray, List.set_cons_zero, List.set_cons_succ]
  refine wpAnyH_take (i := 5) (oi := ⟨_, _, _, _, _, _⟩) (v := .agg (wrA i (pad l))) rfl (by kernel_rfl) (by kernel_rfl) (by kernel_rfl) (fun _ _ _ h => h) (yields_wr (by rfl) (.tmp 8) rfl g rfl i (pad l) HPL.out (fun w h => h.1)) hHeld ?_
  try simp only [Act.put, List.setIfInBounds_toArray, List.set_cons_zero, List.set_cons_succ]
  refine wpAnyH_ready (rs := [4, 6]) (by kernel_rfl) (by simp) ?_
  refine AllReadyH.cons (o := ⟨_, _, _, _, _, _⟩) rfl (fun K hK => ?_) (AllReadyH.cons (o := ⟨_, _, _, _, _, _⟩) rfl (fun K hK => ?_) AllReadyH.nil)
  · go_simp
    refine hK.out _ _ ?kax4 (fun hNew => ?_)
    case kax4 => (try dsimp only); exact hHeld
    clear hK K hHeld
    have hHeld := hNew
    clear hNew
    try simp only [Act.put, List.setIfInBounds_toArray, List.set_cons_zero, List.set_cons_succ]
    refine wpAnyH_ready (rs := [6]) (by kernel_rfl) (by simp) ?_
    refine AllReadyH.cons (o := ⟨_, _, _, _, _, _⟩) rfl (fun K hK => ?_) AllReadyH.nil
    refine step_wp rfl ?_
    refine wp_one_wr (.tmp 51) rfl i (pad l) HPL.out rfl ?_
    refine hK.out _ _ ?kax6 (fun hNew => ?_)
    case kax6 => (try dsimp only); exact ⟨World.rangeAt_alloc hHeld.1 _, by rw [World.size_alloc]; exact Nat.lt_succ_of_lt hHeld.2⟩
    clear hK K hHeld
    have hHeld := hNew
    clear hNew
    try simp only [Act.put, List.setIfInBounds_toArray, List.set_cons_zero, List.set_cons_succ]
    refine wpAnyH_ready (rs := [7]) (by kernel_rfl) (by simp) ?_
    refine AllReadyH.cons (o := ⟨_, _, _, _, _, _⟩) rfl (fun K hK => ?_) AllReadyH.nil
    refine step_append_own rfl (.tmp 50) (.tmp 52) 47 55 rfl i0 _ 129 136 Try.underlying47 HI0.out.1 HI0.out.2.1 HI0.out.2.2.1 HI0.out.2.2.2 HZW.out (by decide) 0 sv D.wr.length (rows D.wr) HROW.out rfl ⟨w1.heap.size, 0, none⟩ 1 1 (wrA i (pad l)).toList rfl HLL.out HNEWS.out (wrA_one i (pad l)) HM1.out HM2.out HBB.out ?_
    intro sv2 w5 hown5 hgr5 hob5
    obtain ⟨g2, cap2, rfl⟩ := row_shape hown5
    have HOWN5 := Lib.hid hown5
    have HGR5 := Lib.hid hgr5
    clear hown5 hgr5
    have hp := HPUSH.out _ w5 HOWN5.out HGR5.out hob5
    have d3 := cell_blk hp.1 3
    have z3 := frozen_blk hp.1 3
    have HP := Lib.hid hp
    clear hp
    refine hK.out _ _ ?kax7 (fun hNew => ?_)
    case kax7 => (try dsimp only); exact HKEEP.out _ _ HOWN5.out HGR5.out
    clear hK K hHeld
    have hHeld := hNew
    clear hNew
    try simp only [Act.put, List.setIfInBounds_toArray, List.set_cons_zero, List.set_cons_succ]
    refine wpAnyH_take (i := 8) (oi := ⟨_, _, _, _, _, _⟩) (v := ?vax8) rfl (by kernel_rfl) (by kernel_rfl) (by kernel_rfl) (fun _ _ _ h => h) (Or.inl ⟨by rfl, ?hyax8⟩) hHeld ?_
    case hyax8 => (intro wS hSw; (try dsimp only at hSw); go_simp; (first | done | with_reducible rfl))
    try simp only [Act.put, List.setIfInBounds_toArray, List.set_cons_zero, List.set_cons_succ]
    refine wpAnyH_take (i := 9) (oi := ⟨_, _, _, _, _, _⟩) (v := ?vax9) rfl (by kernel_rfl) (by kernel_rfl) (by kernel_rfl) (fun _ _ _ h => h) (Or.inl ⟨by rfl, ?hyax9⟩) hHeld ?_
    case hyax9 => (intro wS hSw; (try dsimp only at hSw); go_simp; (first | done | with_reducible rfl))
    try simp only [Act.put, List.setIfInBounds_toArray, List.set_cons_zero, List.set_cons_succ]
    refine wpAnyH_ready (rs := [10]) (by kernel_rfl) (by simp) ?_
    refine AllReadyH.cons (o := ⟨_, _, _, _, _, _⟩) rfl (fun K hK => ?_) AllReadyH.nil
    go_simp
    refine hK.out _ _ ?kax10 (fun hNew => ?_)
    case kax10 => (try dsimp only); exact HKEEP2.out _ _ HOWN5.out HGR5.out
    clear hK K hHeld
    have hHeld := hNew
    clear hNew
    try simp only [Act.put, List.setIfInBounds_toArray, List.set_cons_zero, List.set_cons_succ]
    refine wpAnyH_done (by kernel_rfl) ?_ _
    refine NoPanic.normal ?_
    obtain ⟨_, hd6, hsb6, hsn6, hrow6, hos6, ha6, hbw6⟩ := HP.out
    have hr6 := hHeld.1
    clear hHeld HP d3 z3 HOWN5 HGR5
    generalize w5.setCell ⟨d, 3, none⟩ (.slice (some ⟨g2, 0, none⟩) (D.wr.length + 1) cap2) = w6 at hd6 hsb6 hsn6 hrow6 ha6 hbw6 hr6 ⊢
    have HD6 := Lib.hid hd6
    have HSN6 := Lib.hid hsn6
    have HALL := Lib.hid (And.intro hsb6 (And.intro hrow6 (And.intro hos6 (And.intro ha6 hbw6))))
    have hc2 : w6.drew.cell? ⟨d, 2, none⟩ = some (.map (some mn)) := cell_blk (w := w6.drew) hd6 2
    have HC2 := Lib.hid hc2
    have HR6 := Lib.hid hr6
    clear hd6 hsb6 hsn6 hrow6 hos6 ha6 hbw6 hr6 hc2 c3x c3y c3z
    go_wp2_with fail
    refine wp_region_noPanic ?_
    refine wp_region_held_drew (S := fun w' => w'.rangeAt g 0 (wrA i (pad l)).toList ∧ w'.cell? ⟨d, 2, none⟩ = some (.map (some mn))) (by kernel_rfl) ?hSaxz (fun hHeld => ?_)
    case hSaxz => exact ⟨(World.rangeAt_drew _ _ _ _).2 HR6.out, HC2.out⟩
    refine wpAnyH_take (i := 0) (oi := ⟨_, _, _, _, _, _⟩) (v := ?vaxz0) rfl (by kernel_rfl) (by kernel_rfl) (by kernel_rfl) (fun _ _ _ h => h) (Or.inl ⟨by rfl, ?hyaxz0⟩) hHeld ?_
    case hyaxz0 => (intro wS hSw; (try dsimp only at hSw); go_simp; (first | done | with_reducible rfl))
    try simp only [Act.put, List.setIfInBounds_toArray, List.set_cons_zero, List.set_cons_succ]
    refine wpAnyH_take (i := 1) (oi := ⟨_, _, _, _, _, _⟩) (v := ?vaxz1) rfl (by kernel_rfl) (by kernel_rfl) (by kernel_rfl) (fun _ _ _ h => h) (Or.inl ⟨by rfl, ?hyaxz1⟩) hHeld ?_
    case hyaxz1 => (intro wS hSw; (try dsimp only at hSw); go_simp; (first | done | with_reducible rfl))
    try simp only [Act.put, List.setIfInBounds_toArray, List.set_cons_zero, List.set_cons_succ]
    refine wpAnyH_take (i := 2) (oi := ⟨_, _, _, _, _, _⟩) (v := ?vaxz2) rfl (by kernel_rfl) (by kernel_rfl) (by kernel_rfl) (fun _ _ _ h => h) (Or.inl ⟨by rfl, ?hyaxz2⟩) hHeld ?_
    case hyaxz2 => (intro wS hSw; (try dsimp only at hSw); go_simp; (first | done | with_reducible rfl))
    try simp only [Act.put, List.setIfInBounds_toArray, List.set_cons_zero, List.set_cons_succ]
    refine wpAnyH_take (i := 3) (oi := ⟨_, _, _, _, _, _⟩) (v := ?vaxz3) rfl (by kernel_rfl) (by kernel_rfl) (by kernel_rfl) (fun _ _ _ h => h) (Or.inl ⟨by rfl, ?hyaxz3⟩) hHeld ?_
    case hyaxz3 => (intro wS hSw; (try dsimp only at hSw); go_simp; (first | done | with_reducible rfl))
    try simp only [Act.put, List.setIfInBounds_toArray, List.set_cons_zero, List.set_cons_succ]
    refine wpAnyH_take (i := 4) (oi := ⟨_, _, _, _, _, _⟩) (v := .agg (wrA i (pad l))) rfl (by kernel_rfl) (by kernel_rfl) (by kernel_rfl) (fun _ _ _ h => h) (yields_wr (by rfl) (.tmp 8) rfl g rfl i (pad l) HPL.out (fun w h => h.1)) hHeld ?_
    try simp only [Act.put, List.setIfInBounds_toArray, List.set_cons_zero, List.set_cons_succ]
    refine wpAnyH_ready (rs := [5]) (by kernel_rfl) (by simp) ?_
    refine AllReadyH.cons (o := ⟨_, _, _, _, _, _⟩) rfl (fun K hK => ?_) AllReadyH.nil
    go_simp
    refine (put_at mn D.n i D.now (pad l) _ hi h1 HPL.out (by exact HSN6.out.kept (drew_grown w6 none) (by simp))).mono ?_
    rintro e w7 ⟨rfl, hsn7, hg7⟩
    have HSN7 := Lib.hid hsn7
    have HG7 := Lib.hid ((drew_grown w6 (some mn)).andThen hg7 (fun _ hj => .inr hj))
    clear hsn7 hg7
    go_wp2_with fail
    refine hK.out _ _ ?kaxz5 (fun hNew => ?_)
    case kaxz5 => (try dsimp only); exact ⟨fun j v hv => HG7.out.cell (HR6.out j v hv) (fun e => by have := HMN.out; injection e with e; dsimp only at e; omega), (cell_blk ((HG7.out.block d (Array.getElem?_eq_some_iff.1 HD6.out).1 (fun e => by have := HSN6.out.ne HD6.out; injection e with e; exact this e.symm)).trans HD6.out) 2)⟩
    clear hK K hHeld
    have hHeld := hNew
    clear hNew
    try simp only [Act.put, List.setIfInBounds_toArray, List.set_cons_zero, List.set_cons_succ]
    refine wpAnyH_done (by kernel_rfl) ?_ _
    refine NoPanic.normal ?_
    go_wp2_with fail
    go_ret
    obtain ⟨hsb6, hrow6, hos6, ha6, hbw6⟩ := HALL.out
    have fin := disk_now (D := { (D : Dsk) with wr := D.wr ++ [(i, pad l)] }) h1 (fun p hp => by rcases List.mem_append.1 hp with hp | hp; exact H2.out p hp; rw [List.mem_singleton.1 hp]; exact ⟨hi, HPL.out⟩) HD6.out hB hmb hmn hne hsb6 HSN6.out hrow6 hos6 ha6 HG7.out HSN7.out
    exact ⟨rfl, fin.1, ((HB0.out.trans HB1.out).trans hbw6).trans fin.2⟩
  · refine step_wp rfl ?_
    refine wp_one_wr (.tmp 51) rfl i (pad l) HPL.out rfl ?_
    refine hK.out _ _ ?kay6 (fun hNew => ?_)
    case kay6 => (try dsimp only); exact ⟨World.rangeAt_alloc hHeld.1 _, by rw [World.size_alloc]; exact Nat.lt_succ_of_lt hHeld.2⟩
    clear hK K hHeld
    have hHeld := hNew
    clear hNew
    try simp only [Act.put, List.setIfInBounds_toArray, List.set_cons_zero, List.set_cons_succ]
    refine wpAnyH_ready (rs := [4]) (by kernel_rfl) (by simp) ?_
    refine AllReadyH.cons (o := ⟨_, _, _, _, _, _⟩) rfl (fun K hK => ?_) AllReadyH.nil
    go_simp
    refine hK.out _ _ ?kay4 (fun hNew => ?_)
    case kay4 => (try dsimp only); exact hHeld
    clear hK K hHeld
    have hHeld := hNew
    clear hNew
    try simp only [Act.put, List.setIfInBounds_toArray, List.set_cons_zero, List.set_cons_succ]
    refine wpAnyH_ready (rs := [7]) (by kernel_rfl) (by simp) ?_
    refine AllReadyH.cons (o := ⟨_, _, _, _, _, _⟩) rfl (fun K hK => ?_) AllReadyH.nil
    refine step_append_own rfl (.tmp 50) (.tmp 52) 47 55 rfl i0 _ 129 136 Try.underlying47 HI0.out.1 HI0.out.2.1 HI0.out.2.2.1 HI0.out.2.2.2 HZW.out (by decide) 0 sv D.wr.length (rows D.wr) HROW.out rfl ⟨w1.heap.size, 0, none⟩ 1 1 (wrA i (pad l)).toList rfl HLL.out HNEWS.out (wrA_one i (pad l)) HM1.out HM2.out HBB.out ?_
    intro sv2 w5 hown5 hgr5 hob5
    obtain ⟨g2, cap2, rfl⟩ := row_shape hown5
    have HOWN5 := Lib.hid hown5
    have HGR5 := Lib.hid hgr5
    clear hown5 hgr5
    have hp := HPUSH.out _ w5 HOWN5.out HGR5.out hob5
    have d3 := cell_blk hp.1 3
    have z3 := frozen_blk hp.1 3
    have HP := Lib.hid hp
    clear hp
    refine hK.out _ _ ?kay7 (fun hNew => ?_)
    case kay7 => (try dsimp only); exact HKEEP.out _ _ HOWN5.out HGR5.out
    clear hK K hHeld
    have hHeld := hNew
    clear hNew
    try simp only [Act.put, List.setIfInBounds_toArray, List.set_cons_zero, List.set_cons_succ]
    refine wpAnyH_take (i := 8) (oi := ⟨_, _, _, _, _, _⟩) (v := ?vay8) rfl (by kernel_rfl) (by kernel_rfl) (by kernel_rfl) (fun _ _ _ h => h) (Or.inl ⟨by rfl, ?hyay8⟩) hHeld ?_
    case hyay8 => (intro wS hSw; (try dsimp only at hSw); go_simp; (first | done | with_reducible rfl))
    try simp only [Act.put, List.setIfInBounds_toArray, List.set_cons_zero, List.set_cons_succ]
    refine wpAnyH_take (i := 9) (oi := ⟨_, _, _, _, _, _⟩) (v := ?vay9) rfl (by kernel_rfl) (by kernel_rfl) (by kernel_rfl) (fun _ _ _ h => h) (Or.inl ⟨by rfl, ?hyay9⟩) hHeld ?_
    case hyay9 => (intro wS hSw; (try dsimp only at hSw); go_simp; (first | done | with_reducible rfl))
    try simp only [Act.put, List.setIfInBounds_toArray, List.set_cons_zero, List.set_cons_succ]
    refine wpAnyH_ready (rs := [10]) (by kernel_rfl) (by simp) ?_
    refine AllReadyH.cons (o := ⟨_, _, _, _, _, _⟩) rfl (fun K hK => ?_) AllReadyH.nil
    go_simp
    refine hK.out _ _ ?kay10 (fun hNew => ?_)
    case kay10 => (try dsimp only); exact HKEEP2.out _ _ HOWN5.out HGR5.out
    clear hK K hHeld
    have hHeld := hNew
    clear hNew
    try simp only [Act.put, List.setIfInBounds_toArray, List.set_cons_zero, List.set_cons_succ]
    refine wpAnyH_done (by kernel_rfl) ?_ _
    refine NoPanic.normal ?_
    obtain ⟨_, hd6, hsb6, hsn6, hrow6, hos6, ha6, hbw6⟩ := HP.out
    have hr6 := hHeld.1
    clear hHeld HP d3 z3 HOWN5 HGR5
    generalize w5.setCell ⟨d, 3, none⟩ (.slice (some ⟨g2, 0, none⟩) (D.wr.length + 1) cap2) = w6 at hd6 hsb6 hsn6 hrow6 ha6 hbw6 hr6 ⊢
    have HD6 := Lib.hid hd6
    have HSN6 := Lib.hid hsn6
    have HALL := Lib.hid (And.intro hsb6 (And.intro hrow6 (And.intro hos6 (And.intro ha6 hbw6))))
    have hc2 : w6.drew.cell? ⟨d, 2, none⟩ = some (.map (some mn)) := cell_blk (w := w6.drew) hd6 2
    have HC2 := Lib.hid hc2
    have HR6 := Lib.hid hr6
    clear hd6 hsb6 hsn6 hrow6 hos6 ha6 hbw6 hr6 hc2 c3x c3y c3z
    go_wp2_with fail
    refine wp_region_noPanic ?_
    refine wp_region_held_drew (S := fun w' => w'.rangeAt g 0 (wrA i (pad l)).toList ∧ w'.cell? ⟨d, 2, none⟩ = some (.map (some mn))) (by kernel_rfl) ?hSayz (fun hHeld => ?_)
    case hSayz => exact ⟨(World.rangeAt_drew _ _ _ _).2 HR6.out, HC2.out⟩
    refine wpAnyH_take (i := 0) (oi := ⟨_, _, _, _, _, _⟩) (v := ?vayz0) rfl (by kernel_rfl) (by kernel_rfl) (by kernel_rfl) (fun _ _ _ h => h) (Or.inl ⟨by rfl, ?hyayz0⟩) hHeld ?_
    case hyayz0 => (intro wS hSw; (try dsimp only at hSw); go_simp; (first | done | with_reducible rfl))
    try simp only [Act.put, List.setIfInBounds_toArray, List.set_cons_zero, List.set_cons_succ]
    refine wpAnyH_take (i := 1) (oi := ⟨_, _, _, _, _, _⟩) (v := ?vayz1) rfl (by kernel_rfl) (by kernel_rfl) (by kernel_rfl) (fun _ _ _ h => h) (Or.inl ⟨by rfl, ?hyayz1⟩) hHeld ?_
    case hyayz1 => (intro wS hSw; (try dsimp only at hSw); go_simp; (first | done | with_reducible rfl))
    try simp only [Act.put, List.setIfInBounds_toArray, List.set_cons_zero, List.set_cons_succ]
    refine wpAnyH_take (i := 2) (oi := ⟨_, _, _, _, _, _⟩) (v := ?vayz2) rfl (by kernel_rfl) (by kernel_rfl) (by kernel_rfl) (fun _ _ _ h => h) (Or.inl ⟨by rfl, ?hyayz2⟩) hHeld ?_
    case hyayz2 => (intro wS hSw; (try dsimp only at hSw); go_simp; (first | done | with_reducible rfl))
    try simp only [Act.put, List.setIfInBounds_toArray, List.set_cons_zero, List.set_cons_succ]
    refine wpAnyH_take (i := 3) (oi := ⟨_, _, _, _, _, _⟩) (v := ?vayz3) rfl (by kernel_rfl) (by kernel_rfl) (by kernel_rfl) (fun _ _ _ h => h) (Or.inl ⟨by rfl, ?hyayz3⟩) hHeld ?_
    case hyayz3 => (intro wS hSw; (try dsimp only at hSw); go_simp; (first | done | with_reducible rfl))
    try simp only [Act.put, List.setIfInBounds_toArray, List.set_cons_zero, List.set_cons_succ]
    refine wpAnyH_take (i := 4) (oi := ⟨_, _, _, _, _, _⟩) (v := .agg (wrA i (pad l))) rfl (by kernel_rfl) (by kernel_rfl) (by kernel_rfl) (fun _ _ _ h => h) (yields_wr (by rfl) (.tmp 8) rfl g rfl i (pad l) HPL.out (fun w h => h.1)) hHeld ?_
    try simp only [Act.put, List.setIfInBounds_toArray, List.set_cons_zero, List.set_cons_succ]
    refine wpAnyH_ready (rs := [5]) (by kernel_rfl) (by simp) ?_
    refine AllReadyH.cons (o := ⟨_, _, _, _, _, _⟩) rfl (fun K hK => ?_) AllReadyH.nil
    go_simp
    refine (put_at mn D.n i D.now (pad l) _ hi h1 HPL.out (by exact HSN6.out.kept (drew_grown w6 none) (by simp))).mono ?_
    rintro e w7 ⟨rfl, hsn7, hg7⟩
    have HSN7 := Lib.hid hsn7
    have HG7 := Lib.hid ((drew_grown w6 (some mn)).andThen hg7 (fun _ hj => .inr hj))
    clear hsn7 hg7
    go_wp2_with fail
    refine hK.out _ _ ?kayz5 (fun hNew => ?_)
    case kayz5 => (try dsimp only); exact ⟨fun j v hv => HG7.out.cell (HR6.out j v hv) (fun e => by have := HMN.out; injection e with e; dsimp only at e; omega), (cell_blk ((HG7.out.block d (Array.getElem?_eq_some_iff.1 HD6.out).1 (fun e => by have := HSN6.out.ne HD6.out; injection e with e; exact this e.symm)).trans HD6.out) 2)⟩
    clear hK K hHeld
    have hHeld := hNew
    clear hNew
    try simp only [Act.put, List.setIfInBounds_toArray, List.set_cons_zero, List.set_cons_succ]
    refine wpAnyH_done (by kernel_rfl) ?_ _
    refine NoPanic.normal ?_
    go_wp2_with fail
    go_ret
    obtain ⟨hsb6, hrow6, hos6, ha6, hbw6⟩ := HALL.out
    have fin := disk_now (D := { (D : Dsk) with wr := D.wr ++ [(i, pad l)] }) h1 (fun p hp => by rcases List.mem_append.1 hp with hp | hp; exact H2.out p hp; rw [List.mem_singleton.1 hp]; exact ⟨hi, HPL.out⟩) HD6.out hB hmb hmn hne hsb6 HSN6.out hrow6 hos6 ha6 HG7.out HSN7.out
    exact ⟨rfl, fin.1, ((HB0.out.trans HB1.out).trans hbw6).trans fin.2⟩
set_option maxRecDepth 100000 in
set_option maxHeartbeats 4000000 in
theorem write_armed (S : Nat → Prop) (d i : Nat) (D : Dsk) (l : List UInt8) (A : Option Addr) (cap : Nat) (w : World) (h : DiskAt w S d D) (hr : RowB w S A l) (hS : ∀ b, w.heap.size ≤ b → S b) (hi : i < D.n) (ho : D.off = false) (hl : l.length ≤ 128) (k : Nat) (harm : D.armed = some (k + 1)) (hn : D.wr.length < 1000000) :
    Calls Try.prog 9 #[.pointer (some ⟨d, 0, none⟩), .int .i64 (i : Int), .slice A l.length cap] w fun e w' => e = .returned (.int .i64 0) ∧ DiskAt w' S d (({ D with armed := some k } : Dsk).push i (pad l)) ∧ Off S w w' := by
  have hask := asked_at S d D (i : Int) w h
  rw [show askedN D (i : Int) = 0 by unfold askedN; rw [if_neg (by simp [ho]), if_neg (by omega)]] at hask
  obtain ⟨h1, h2, mb, mn, sv, pa, hd, hB, hmb, hmn, hne, hsb, hsn, hrow, hos, ha⟩ := h
  have c4 : w.cell? ⟨d, 4, none⟩ = some (.pointer pa) := cell_blk hd 4
  have ha' := ha
  rw [harm] at ha'
  obtain ⟨ab, hpa, hab, hbb, hk⟩ := ha'
  subst hpa
  have cb : w.cell? ⟨ab, 0, none⟩ = some (.int .i64 ((k + 1 : Nat) : Int)) := cell_blk hbb 0
  have zb := frozen_blk hbb 0
  have dk0 : decide (((k + 1 : Nat) : Int) = 0) = false := by simp; omega
  have hsub : wrap64 (((k + 1 : Nat) : Int) - 1) = (k : Int) := by unfold wrap64; omega
  have d128 : decide ((128 : Int) < (l.length : Int)) = false := by simp; omega
  have hgs := grown_set w ab 0 (.int .i64 (k : Int))
  have hb0 : Off S w (w.setCell ⟨ab, 0, none⟩ (.int .i64 (k : Int))) := grown_off hgs hab
  have hrow' := row_kept hrow hgs (row_ne hrow hbb (by decide))
  have habd : d ≠ ab := by
    rintro rfl
    rw [hd] at hbb
    injection hbb with hbb
    injection hbb with _ hbb
    exact absurd hbb (by decide)
  have hd' := (hgs.block d (Array.getElem?_eq_some_iff.1 hd).1 (fun e => habd (Option.some.inj e))).trans hd
  have hsb' := hsb.kept hgs (fun e => hsb.ne hbb (Option.some.inj e))
  have hsn' := hsn.kept hgs (fun e => hsn.ne hbb (Option.some.inj e))
  have ha2 : ArmedAt (w.setCell ⟨ab, 0, none⟩ (.int .i64 (k : Int))) S (some ⟨ab, 0, none⟩) (some k) := ⟨ab, rfl, hab, by simpa using heap_setCell_same w ab 0 _ _ (.int .i64 (k : Int)) hbb, by omega⟩
  have hr' := hr.off hb0
  have HW0 := Lib.hid (And.intro hd' (And.intro hsb' (And.intro hsn' (And.intro hrow' ha2))))
  have HB0 := Lib.hid hb0
  have hs0 : (w.setCell ⟨ab, 0, none⟩ (.int .i64 (k : Int))).heap.size = w.heap.size := by simp
  have HS0 := Lib.hid hs0
  have HRW := Lib.hid (hr'.grown (wr0_grown _ i))
  have HTH : Hid ((wr0 (w.setCell ⟨ab, 0, none⟩ (.int .i64 (k : Int))) i).there w.heap.size 0 129) := by
    have := wr0_there (w.setCell ⟨ab, 0, none⟩ (.int .i64 (k : Int))) i
    rw [hs0] at this
    exact this
  have HA := Lib.hid hask
  have HL := Lib.hid hl
  have HPL := Lib.hid (pad_length l hl)
  have H2 := Lib.hid h2
  have hbw := build_wr
  have hzw := zero_wr
  clear hd hask hr ha hsb hsn hrow h2 hl hbb hgs hb0 hrow' hd' hsb' hsn' ha2 hr' hab hs0
  go_enter Try.func9, Try.ntmps9
  go_wp2_with fail
  refine HA.out.mono ?_
  rintro e w' ⟨rfl, rfl⟩
  go_wp2_with (first
    | (with_reducible show Go.wpList _ _ _ ((⟨_, .store _ _ _, _, _, _, _⟩ : Oper) :: _) _ _; refine wpList_store_wr0 rfl _ _ rfl i (w.setCell ⟨ab, 0, none⟩ (.int .i64 (k : Int))) w.heap.size HS0.out rfl rfl rfl ?_; generalize (wrA 0 noughts).setIfInBounds 0 _ = junk; go_frame)
    | go_in)
  rw [run_copy_sec _ _ w.heap.size S A l cap HL.out HRW.out HTH.out]
  simp only [Result.andThen]
  rw [Oper.upon_value]
  have hsz := laid_size (w.setCell ⟨ab, 0, none⟩ (.int .i64 (k : Int))) i l
  have hgr := laid_grown (w.setCell ⟨ab, 0, none⟩ (.int .i64 (k : Int))) i l
  have hld := laid (w.setCell ⟨ab, 0, none⟩ (.int .i64 (k : Int))) i l HL.out
  rw [HS0.out] at hsz hgr hld
  have hs0 : (w.setCell ⟨ab, 0, none⟩ (.int .i64 (k : Int))).heap.size = w.heap.size := HS0.out
  obtain ⟨g, hgq⟩ : ∃ g, g = w.heap.size := ⟨_, rfl⟩
  rw [← hgq] at hsz hgr hld hS ⊢
  generalize (wr0 (w.setCell ⟨ab, 0, none⟩ (.int .i64 (k : Int))) i).setCells g 1 (u8s l) = w1 at hsz hgr hld ⊢
  obtain ⟨hd, hsb, hsn, hrow, ha⟩ := HW0.out
  have hdlt := (Array.getElem?_eq_some_iff.1 hd).1
  have hown := hrow.lt
  have hmnlt := hsn.lt
  have HMN : Hid (mn < g ∧ d < g) := by show _ ∧ _; omega
  clear hmnlt
  have hd1 := (hgr.block d hdlt (by simp)).trans hd
  have hsb1 := hsb.kept hgr (by simp)
  have hsn1 := hsn.kept hgr (by simp)
  have hrow1 := row_grown hrow hgr
  have ha1 := ha.grown hgr
  have c3x : w1.drew.cell? ⟨d, 3, none⟩ = some sv := cell_blk (w := w1.drew) hd1 3
  have hgA := drew_alloc_grown w1 (.cells (wrA i (pad l)) 55) none
  have hdA := (hgA.block d (by omega) (by simp)).trans hd1
  have c3y : (w1.drew.alloc (.cells (wrA i (pad l)) 55)).cell? ⟨d, 3, none⟩ = some sv := cell_blk hdA 3
  have c3z : (w1.alloc (.cells (wrA i (pad l)) 55)).cell? ⟨d, 3, none⟩ = some sv := c3y
  have HLAID := Lib.hid hld
  have HG : Hid (g < w1.heap.size) := by show g < _; omega
  have hgd : g ≠ d := by omega
  have HROW := Lib.hid (row_grown hrow1 hgA)
  obtain ⟨i0, hi0, he0⟩ := Option.map_eq_some_iff.1 info_wr
  simp only [Prod.mk.injEq] at he0
  have HI0 := Lib.hid (And.intro hi0 he0)
  have HZW : Hid ((Value.agg (wrA 0 noughts)).cells.size = 129) := by show (wrA 0 noughts).size = 129; rw [wrA_size, noughts_length]
  have HLL : Hid ((wrA i (pad l)).toList.length = 1 * 129) := by show _ = _; rw [Array.length_toList, wrA_size, HPL.out]
  have HNEWS : Hid (∀ j u, (wrA i (pad l)).toList[j]? = some u → (w1.drew.alloc (.cells (wrA i (pad l)) 55)).cell? ((⟨w1.heap.size, 0, none⟩ : Addr).add j) = some u) := by
    intro j u hu
    have hadd : (⟨w1.heap.size, 0, none⟩ : Addr).add j = ⟨w1.heap.size, j, none⟩ := by unfold Addr.add; split <;> simp_all
    rw [hadd]
    have := cell_new w1.drew (wrA i (pad l)) 55 j
    exact this.trans (by simpa using hu)
  have HM1 : Hid (D.wr.length + 1 ≤ maxLen) := by show _ ≤ _; unfold maxLen; omega
  have HM2 : Hid ((D.wr.length + 1) * 136 ≤ 140737488355328) := by show _ ≤ _; omega
  have HBB : Hid (0 ≤ (w1.drew.alloc (.cells (wrA i (pad l)) 55)).heap.size) := Nat.zero_le _
  have HPUSH : Hid (∀ sv2 w5, w5.ownsRow 0 55 129 sv2 (D.wr.length + 1) (rows D.wr ++ (wrA i (pad l)).toList) → (w1.drew.alloc (.cells (wrA i (pad l)) 55)).grownBy w5 sv.ownBlock → (sv2.ownBlock = sv.ownBlock ∨ sv2.ownBlock = some (w1.drew.alloc (.cells (wrA i (pad l)) 55)).heap.size) → _) := fun sv2 w5 ho5 hg5 hob => DiskAt.push (w := w1) (D := { D with armed := some k }) (sv2 := sv2) hd1 hB hsb1 hsn1 hrow1 hos ha1 (fun b hb => hS b (by omega)) hgA ho5 hg5 hob
  have HKEEP : Hid (∀ (sv2 : Value) (w5 : World), w5.ownsRow 0 55 129 sv2 (D.wr.length + 1) (rows D.wr ++ (wrA i (pad l)).toList) → (w1.drew.alloc (.cells (wrA i (pad l)) 55)).grownBy w5 sv.ownBlock → w5.rangeAt g 0 (wrA i (pad l)).toList ∧ g < w5.heap.size) := by
    intro sv2 w5 _ hg5
    have hgs := hg5.size
    have hgA' := hgA.size
    refine ⟨fun j v hv => ?_, by omega⟩
    have hne5 : some g ≠ sv.ownBlock := fun e => by have := (hown g e.symm).2; omega
    exact hg5.cell (hgA.cell (hld j v hv) (by simp)) hne5
  have HKEEP2 : Hid (∀ (sv2 : Value) (w5 : World), w5.ownsRow 0 55 129 sv2 (D.wr.length + 1) (rows D.wr ++ (wrA i (pad l)).toList) → (w1.drew.alloc (.cells (wrA i (pad l)) 55)).grownBy w5 sv.ownBlock → (w5.setCell ⟨d, 3, none⟩ sv2).rangeAt g 0 (wrA i (pad l)).toList ∧ g < (w5.setCell ⟨d, 3, none⟩ sv2).heap.size) := by
    intro sv2 w5 ho5 hg5
    obtain ⟨hr5, hs5⟩ := HKEEP.out sv2 w5 ho5 hg5
    refine ⟨fun j v hv => ?_, by simpa using hs5⟩
    rw [World.cell?_setCell_other _ _ _ _ (by simp [Ne.symm hgd, hgd])]
    exact hr5 j v hv
  have hb1 : Off S (w.setCell ⟨ab, 0, none⟩ (.int .i64 (k : Int))) w1 := Off.of_grown hgr (by simp)
  have HB1 := Lib.hid hb1
  have HSZ := Lib.hid hsz
  have HGQ := Lib.hid hgq
  clear hs0 HRW HTH c4 HW0 hd hsb hsn hrow ha hdlt hown hd1 hsb1 hsn1 hrow1 ha1 hgA hdA hld hi0 he0 hb1 hgr hsz hgq
  clear hbw hzw
  go_wp2_with fail
  refine wp_region_noPanic ?_
  refine wp_region_held_drew (S := fun w' => w'.rangeAt g 0 (wrA i (pad l)).toList ∧ g < w'.heap.size) (by kernel_rfl) ?hSb (fun hHeld => ?_)
  case hSb => exact ⟨(World.rangeAt_drew _ _ _ _).2 HLAID.out, by simpa using HG.out⟩
  refine wpAnyH_take (i := 0) (oi := ⟨_, _, _, _, _, _⟩) (v := ?vb0) rfl (by kernel_rfl) (by kernel_rfl) (by kernel_rfl) (fun _ _ _ h => h) (Or.inl ⟨by rfl, ?hyb0⟩) hHeld ?_
  case hyb0 => (intro wS hSw; (try dsimp only at hSw); go_simp; (first | done | with_reducible rfl))
  try simp only [Act.put, List.setIfInBounds_toArray, List.set_cons_zero, List.set_cons_succ]
  refine wpAnyH_take (i := 1) (oi := ⟨_, _, _, _, _, _⟩) (v := ?vb1) rfl (by kernel_rfl) (by kernel_rfl) (by kernel_rfl) (fun _ _ _ h => h) (Or.inl ⟨by rfl, ?hyb1⟩) hHeld ?_
  case hyb1 => (intro wS hSw; (try dsimp only at hSw); go_simp; (first | done | with_reducible rfl))
  try simp only [Act.put, List.setIfInBounds_toArray, List.set_cons_zero, List.set_cons_succ]
  refine wpAnyH_take (i := 2) (oi := ⟨_, _, _, _, _, _⟩) (v := ?vb2) rfl (by kernel_rfl) (by kernel_rfl) (by kernel_rfl) (fun _ _ _ h => h) (Or.inl ⟨by rfl, ?hyb2⟩) hHeld ?_
  case hyb2 => (intro wS hSw; (try dsimp only at hSw); go_simp; (first | done | with_reducible rfl))
  try simp only [Act.put, List.setIfInBounds_toArray, List.set_cons_zero, List.set_cons_succ]
  refine wpAnyH_take (i := 3) (oi := ⟨_, _, _, _, _, _⟩) (v := ?vb3) rfl (by kernel_rfl) (by kernel_rfl) (by kernel_rfl) (fun _ _ _ h => h) (Or.inl ⟨by rfl, ?hyb3⟩) hHeld ?_
  case hyb3 => (intro wS hSw; (try dsimp only at hSw); go_simp; (first | done | with_reducible rfl))
  try simp only [Act.put, List.setIfInBounds_toArray, List.set_cons_zero, List.set_cons_succ]
  refine wpAnyH_take (i := 5) (oi := ⟨_, _, _, _, _, _⟩) (v := .agg (wrA i (pad l))) rfl (by kernel_rfl) (by kernel_rfl) (by kernel_rfl) (fun _ _ _ h => h) (yields_wr (by rfl) (.tmp 8) rfl g rfl i (pad l) HPL.out (fun w h => h.1)) hHeld ?_
  try simp only [Act.put, List.setIfInBounds_toArray, List.set_cons_zero, List.set_cons_succ]
  refine wpAnyH_ready (rs := [4, 6]) (by kernel_rfl) (by simp) ?_
  refine AllReadyH.cons (o := ⟨_, _, _, _, _, _⟩) rfl (fun K hK => ?_) (AllReadyH.cons (o := ⟨_, _, _, _, _, _⟩) rfl (fun K hK => ?_) AllReadyH.nil)
  · go_simp
    refine hK.out _ _ ?kbx4 (fun hNew => ?_)
    case kbx4 => (try dsimp only); exact hHeld
    clear hK K hHeld
    have hHeld := hNew
    clear hNew
    try simp only [Act.put, List.setIfInBounds_toArray, List.set_cons_zero, List.set_cons_succ]
    refine wpAnyH_ready (rs := [6]) (by kernel_rfl) (by simp) ?_
    refine AllReadyH.cons (o := ⟨_, _, _, _, _, _⟩) rfl (fun K hK => ?_) AllReadyH.nil
    refine step_wp rfl ?_
    refine wp_one_wr (.tmp 51) rfl i (pad l) HPL.out rfl ?_
    refine hK.out _ _ ?kbx6 (fun hNew => ?_)
    case kbx6 => (try dsimp only); exact ⟨World.rangeAt_alloc hHeld.1 _, by rw [World.size_alloc]; exact Nat.lt_succ_of_lt hHeld.2⟩
    clear hK K hHeld
    have hHeld := hNew
    clear hNew
    try simp only [Act.put, List.setIfInBounds_toArray, List.set_cons_zero, List.set_cons_succ]
    refine wpAnyH_ready (rs := [7]) (by kernel_rfl) (by simp) ?_
    refine AllReadyH.cons (o := ⟨_, _, _, _, _, _⟩) rfl (fun K hK => ?_) AllReadyH.nil
    refine step_append_own rfl (.tmp 50) (.tmp 52) 47 55 rfl i0 _ 129 136 Try.underlying47 HI0.out.1 HI0.out.2.1 HI0.out.2.2.1 HI0.out.2.2.2 HZW.out (by decide) 0 sv D.wr.length (rows D.wr) HROW.out rfl ⟨w1.heap.size, 0, none⟩ 1 1 (wrA i (pad l)).toList rfl HLL.out HNEWS.out (wrA_one i (pad l)) HM1.out HM2.out HBB.out ?_
    intro sv2 w5 hown5 hgr5 hob5
    obtain ⟨g2, cap2, rfl⟩ := row_shape hown5
    have HOWN5 := Lib.hid hown5
    have HGR5 := Lib.hid hgr5
    clear hown5 hgr5
    have hp := HPUSH.out _ w5 HOWN5.out HGR5.out hob5
    have d3 := cell_blk hp.1 3
    have z3 := frozen_blk hp.1 3
    have HP := Lib.hid hp
    clear hp
    refine hK.out _ _ ?kbx7 (fun hNew => ?_)
    case kbx7 => (try dsimp only); exact HKEEP.out _ _ HOWN5.out HGR5.out
    clear hK K hHeld
    have hHeld := hNew
    clear hNew
    try simp only [Act.put, List.setIfInBounds_toArray, List.set_cons_zero, List.set_cons_succ]
    refine wpAnyH_take (i := 8) (oi := ⟨_, _, _, _, _, _⟩) (v := ?vbx8) rfl (by kernel_rfl) (by kernel_rfl) (by kernel_rfl) (fun _ _ _ h => h) (Or.inl ⟨by rfl, ?hybx8⟩) hHeld ?_
    case hybx8 => (intro wS hSw; (try dsimp only at hSw); go_simp; (first | done | with_reducible rfl))
    try simp only [Act.put, List.setIfInBounds_toArray, List.set_cons_zero, List.set_cons_succ]
    refine wpAnyH_take (i := 9) (oi := ⟨_, _, _, _, _, _⟩) (v := ?vbx9) rfl (by kernel_rfl) (by kernel_rfl) (by kernel_rfl) (fun _ _ _ h => h) (Or.inl ⟨by rfl, ?hybx9⟩) hHeld ?_
    case hybx9 => (intro wS hSw; (try dsimp only at hSw); go_simp; (first | done | with_reducible rfl))
    try simp only [Act.put, List.setIfInBounds_toArray, List.set_cons_zero, List.set_cons_succ]
    refine wpAnyH_ready (rs := [10]) (by kernel_rfl) (by simp) ?_
    refine AllReadyH.cons (o := ⟨_, _, _, _, _, _⟩) rfl (fun K hK => ?_) AllReadyH.nil
    go_simp
    refine hK.out _ _ ?kbx10 (fun hNew => ?_)
    case kbx10 => (try dsimp only); exact HKEEP2.out _ _ HOWN5.out HGR5.out
    clear hK K hHeld
    have hHeld := hNew
    clear hNew
    try simp only [Act.put, List.setIfInBounds_toArray, List.set_cons_zero, List.set_cons_succ]
    refine wpAnyH_done (by kernel_rfl) ?_ _
    refine NoPanic.normal ?_
    obtain ⟨_, hd6, hsb6, hsn6, hrow6, hos6, ha6, hbw6⟩ := HP.out
    have hr6 := hHeld.1
    clear hHeld HP d3 z3 HOWN5 HGR5
    generalize w5.setCell ⟨d, 3, none⟩ (.slice (some ⟨g2, 0, none⟩) (D.wr.length + 1) cap2) = w6 at hd6 hsb6 hsn6 hrow6 ha6 hbw6 hr6 ⊢
    have HD6 := Lib.hid hd6
    have HSN6 := Lib.hid hsn6
    have HALL := Lib.hid (And.intro hsb6 (And.intro hrow6 (And.intro hos6 (And.intro ha6 hbw6))))
    have hc2 : w6.drew.cell? ⟨d, 2, none⟩ = some (.map (some mn)) := cell_blk (w := w6.drew) hd6 2
    have HC2 := Lib.hid hc2
    have HR6 := Lib.hid hr6
    clear hd6 hsb6 hsn6 hrow6 hos6 ha6 hbw6 hr6 hc2 c3x c3y c3z
    go_wp2_with fail
    refine wp_region_noPanic ?_
    refine wp_region_held_drew (S := fun w' => w'.rangeAt g 0 (wrA i (pad l)).toList ∧ w'.cell? ⟨d, 2, none⟩ = some (.map (some mn))) (by kernel_rfl) ?hSbxz (fun hHeld => ?_)
    case hSbxz => exact ⟨(World.rangeAt_drew _ _ _ _).2 HR6.out, HC2.out⟩
    refine wpAnyH_take (i := 0) (oi := ⟨_, _, _, _, _, _⟩) (v := ?vbxz0) rfl (by kernel_rfl) (by kernel_rfl) (by kernel_rfl) (fun _ _ _ h => h) (Or.inl ⟨by rfl, ?hybxz0⟩) hHeld ?_
    case hybxz0 => (intro wS hSw; (try dsimp only at hSw); go_simp; (first | done | with_reducible rfl))
    try simp only [Act.put, List.setIfInBounds_toArray, List.set_cons_zero, List.set_cons_succ]
    refine wpAnyH_take (i := 1) (oi := ⟨_, _, _, _, _, _⟩) (v := ?vbxz1) rfl (by kernel_rfl) (by kernel_rfl) (by kernel_rfl) (fun _ _ _ h => h) (Or.inl ⟨by rfl, ?hybxz1⟩) hHeld ?_
    case hybxz1 => (intro wS hSw; (try dsimp only at hSw); go_simp; (first | done | with_reducible rfl))
    try simp only [Act.put, List.setIfInBounds_toArray, List.set_cons_zero, List.set_cons_succ]
    refine wpAnyH_take (i := 2) (oi := ⟨_, _, _, _, _, _⟩) (v := ?vbxz2) rfl (by kernel_rfl) (by kernel_rfl) (by kernel_rfl) (fun _ _ _ h => h) (Or.inl ⟨by rfl, ?hybxz2⟩) hHeld ?_
    case hybxz2 => (intro wS hSw; (try dsimp only at hSw); go_simp; (first | done | with_reducible rfl))
    try simp only [Act.put, List.setIfInBounds_toArray, List.set_cons_zero, List.set_cons_succ]
    refine wpAnyH_take (i := 3) (oi := ⟨_, _, _, _, _, _⟩) (v := ?vbxz3) rfl (by kernel_rfl) (by kernel_rfl) (by kernel_rfl) (fun _ _ _ h => h) (Or.inl ⟨by rfl, ?hybxz3⟩) hHeld ?_
    case hybxz3 => (intro wS hSw; (try dsimp only at hSw); go_simp; (first | done | with_reducible rfl))
    try simp only [Act.put, List.setIfInBounds_toArray, List.set_cons_zero, List.set_cons_succ]
    refine wpAnyH_take (i := 4) (oi := ⟨_, _, _, _, _, _⟩) (v := .agg (wrA i (pad l))) rfl (by kernel_rfl) (by kernel_rfl) (by kernel_rfl) (fun _ _ _ h => h) (yields_wr (by rfl) (.tmp 8) rfl g rfl i (pad l) HPL.out (fun w h => h.1)) hHeld ?_
    try simp only [Act.put, List.setIfInBounds_toArray, List.set_cons_zero, List.set_cons_succ]
    refine wpAnyH_ready (rs := [5]) (by kernel_rfl) (by simp) ?_
    refine AllReadyH.cons (o := ⟨_, _, _, _, _, _⟩) rfl (fun K hK => ?_) AllReadyH.nil
    go_simp
    refine (put_at mn D.n i D.now (pad l) _ hi h1 HPL.out (by exact HSN6.out.kept (drew_grown w6 none) (by simp))).mono ?_
    rintro e w7 ⟨rfl, hsn7, hg7⟩
    have HSN7 := Lib.hid hsn7
    have HG7 := Lib.hid ((drew_grown w6 (some mn)).andThen hg7 (fun _ hj => .inr hj))
    clear hsn7 hg7
    go_wp2_with fail
    refine hK.out _ _ ?kbxz5 (fun hNew => ?_)
    case kbxz5 => (try dsimp only); exact ⟨fun j v hv => HG7.out.cell (HR6.out j v hv) (fun e => by have := HMN.out; injection e with e; dsimp only at e; omega), (cell_blk ((HG7.out.block d (Array.getElem?_eq_some_iff.1 HD6.out).1 (fun e => by have := HSN6.out.ne HD6.out; injection e with e; exact this e.symm)).trans HD6.out) 2)⟩
    clear hK K hHeld
    have hHeld := hNew
    clear hNew
    try simp only [Act.put, List.setIfInBounds_toArray, List.set_cons_zero, List.set_cons_succ]
    refine wpAnyH_done (by kernel_rfl) ?_ _
    refine NoPanic.normal ?_
    go_wp2_with fail
    go_ret
    obtain ⟨hsb6, hrow6, hos6, ha6, hbw6⟩ := HALL.out
    have fin := disk_now (D := { ({ D with armed := some k } : Dsk) with wr := D.wr ++ [(i, pad l)] }) h1 (fun p hp => by rcases List.mem_append.1 hp with hp | hp; exact H2.out p hp; rw [List.mem_singleton.1 hp]; exact ⟨hi, HPL.out⟩) HD6.out hB hmb hmn hne hsb6 HSN6.out hrow6 hos6 ha6 HG7.out HSN7.out
    exact ⟨rfl, fin.1, ((HB0.out.trans HB1.out).trans hbw6).trans fin.2⟩
  · refine step_wp rfl ?_
    refine wp_one_wr (.tmp 51) rfl i (pad l) HPL.out rfl ?_
    refine hK.out _ _ ?kby6 (fun hNew => ?_)
    case kby6 => (try dsimp only); exact ⟨World.rangeAt_alloc hHeld.1 _, by rw [World.size_alloc]; exact Nat.lt_succ_of_lt hHeld.2⟩
    clear hK K hHeld
    have hHeld := hNew
    clear hNew
    try simp only [Act.put, List.setIfInBounds_toArray, List.set_cons_zero, List.set_cons_succ]
    refine wpAnyH_ready (rs := [4]) (by kernel_rfl) (by simp) ?_
    refine AllReadyH.cons (o := ⟨_, _, _, _, _, _⟩) rfl (fun K hK => ?_) AllReadyH.nil
    go_simp
    refine hK.out _ _ ?kby4 (fun hNew => ?_)
    case kby4 => (try dsimp only); exact hHeld
    clear hK K hHeld
    have hHeld := hNew
    clear hNew
    try simp only [Act.put, List.setIfInBounds_toArray, List.set_cons_zero, List.set_cons_succ]
    refine wpAnyH_ready (rs := [7]) (by kernel_rfl) (by simp) ?_
    refine AllReadyH.cons (o := ⟨_, _, _, _, _, _⟩) rfl (fun K hK => ?_) AllReadyH.nil
    refine step_append_own rfl (.tmp 50) (.tmp 52) 47 55 rfl i0 _ 129 136 Try.underlying47 HI0.out.1 HI0.out.2.1 HI0.out.2.2.1 HI0.out.2.2.2 HZW.out (by decide) 0 sv D.wr.length (rows D.wr) HROW.out rfl ⟨w1.heap.size, 0, none⟩ 1 1 (wrA i (pad l)).toList rfl HLL.out HNEWS.out (wrA_one i (pad l)) HM1.out HM2.out HBB.out ?_
    intro sv2 w5 hown5 hgr5 hob5
    obtain ⟨g2, cap2, rfl⟩ := row_shape hown5
    have HOWN5 := Lib.hid hown5
    have HGR5 := Lib.hid hgr5
    clear hown5 hgr5
    have hp := HPUSH.out _ w5 HOWN5.out HGR5.out hob5
    have d3 := cell_blk hp.1 3
    have z3 := frozen_blk hp.1 3
    have HP := Lib.hid hp
    clear hp
    refine hK.out _ _ ?kby7 (fun hNew => ?_)
    case kby7 => (try dsimp only); exact HKEEP.out _ _ HOWN5.out HGR5.out
    clear hK K hHeld
    have hHeld := hNew
    clear hNew
    try simp only [Act.put, List.setIfInBounds_toArray, List.set_cons_zero, List.set_cons_succ]
    refine wpAnyH_take (i := 8) (oi := ⟨_, _, _, _, _, _⟩) (v := ?vby8) rfl (by kernel_rfl) (by kernel_rfl) (by kernel_rfl) (fun _ _ _ h => h) (Or.inl ⟨by rfl, ?hyby8⟩) hHeld ?_
    case hyby8 => (intro wS hSw; (try dsimp only at hSw); go_simp; (first | done | with_reducible rfl))
    try simp only [Act.put, List.setIfInBounds_toArray, List.set_cons_zero, List.set_cons_succ]
    refine wpAnyH_take (i := 9) (oi := ⟨_, _, _, _, _, _⟩) (v := ?vby9) rfl (by kernel_rfl) (by kernel_rfl) (by kernel_rfl) (fun _ _ _ h => h) (Or.inl ⟨by rfl, ?hyby9⟩) hHeld ?_
    case hyby9 => (intro wS hSw; (try dsimp only at hSw); go_simp; (first | done | with_reducible rfl))
    try simp only [Act.put, List.setIfInBounds_toArray, List.set_cons_zero, List.set_cons_succ]
    refine wpAnyH_ready (rs := [10]) (by kernel_rfl) (by simp) ?_
    refine AllReadyH.cons (o := ⟨_, _, _, _, _, _⟩) rfl (fun K hK => ?_) AllReadyH.nil
    go_simp
    refine hK.out _ _ ?kby10 (fun hNew => ?_)
    case kby10 => (try dsimp only); exact HKEEP2.out _ _ HOWN5.out HGR5.out
    clear hK K hHeld
    have hHeld := hNew
    clear hNew
    try simp only [Act.put, List.setIfInBounds_toArray, List.set_cons_zero, List.set_cons_succ]
    refine wpAnyH_done (by kernel_rfl) ?_ _
    refine NoPanic.normal ?_
    obtain ⟨_, hd6, hsb6, hsn6, hrow6, hos6, ha6, hbw6⟩ := HP.out
    have hr6 := hHeld.1
    clear hHeld HP d3 z3 HOWN5 HGR5
    generalize w5.setCell ⟨d, 3, none⟩ (.slice (some ⟨g2, 0, none⟩) (D.wr.length + 1) cap2) = w6 at hd6 hsb6 hsn6 hrow6 ha6 hbw6 hr6 ⊢
    have HD6 := Lib.hid hd6
    have HSN6 := Lib.hid hsn6
    have HALL := Lib.hid (And.intro hsb6 (And.intro hrow6 (And.intro hos6 (And.intro ha6 hbw6))))
    have hc2 : w6.drew.cell? ⟨d, 2, none⟩ = some (.map (some mn)) := cell_blk (w := w6.drew) hd6 2
    have HC2 := Lib.hid hc2
    have HR6 := Lib.hid hr6
    clear hd6 hsb6 hsn6 hrow6 hos6 ha6 hbw6 hr6 hc2 c3x c3y c3z
    go_wp2_with fail
    refine wp_region_noPanic ?_
    refine wp_region_held_drew (S := fun w' => w'.rangeAt g 0 (wrA i (pad l)).toList ∧ w'.cell? ⟨d, 2, none⟩ = some (.map (some mn))) (by kernel_rfl) ?hSbyz (fun hHeld => ?_)
    case hSbyz => exact ⟨(World.rangeAt_drew _ _ _ _).2 HR6.out, HC2.out⟩
    refine wpAnyH_take (i := 0) (oi := ⟨_, _, _, _, _, _⟩) (v := ?vbyz0) rfl (by kernel_rfl) (by kernel_rfl) (by kernel_rfl) (fun _ _ _ h => h) (Or.inl ⟨by rfl, ?hybyz0⟩) hHeld ?_
    case hybyz0 => (intro wS hSw; (try dsimp only at hSw); go_simp; (first | done | with_reducible rfl))
    try simp only [Act.put, List.setIfInBounds_toArray, List.set_cons_zero, List.set_cons_succ]
    refine wpAnyH_take (i := 1) (oi := ⟨_, _, _, _, _, _⟩) (v := ?vbyz1) rfl (by kernel_rfl) (by kernel_rfl) (by kernel_rfl) (fun _ _ _ h => h) (Or.inl ⟨by rfl, ?hybyz1⟩) hHeld ?_
    case hybyz1 => (intro wS hSw; (try dsimp only at hSw); go_simp; (first | done | with_reducible rfl))
    try simp only [Act.put, List.setIfInBounds_toArray, List.set_cons_zero, List.set_cons_succ]
    refine wpAnyH_take (i := 2) (oi := ⟨_, _, _, _, _, _⟩) (v := ?vbyz2) rfl (by kernel_rfl) (by kernel_rfl) (by kernel_rfl) (fun _ _ _ h => h) (Or.inl ⟨by rfl, ?hybyz2⟩) hHeld ?_
    case hybyz2 => (intro wS hSw; (try dsimp only at hSw); go_simp; (first | done | with_reducible rfl))
    try simp only [Act.put, List.setIfInBounds_toArray, List.set_cons_zero, List.set_cons_succ]
    refine wpAnyH_take (i := 3) (oi := ⟨_, _, _, _, _, _⟩) (v := ?vbyz3) rfl (by kernel_rfl) (by kernel_rfl) (by kernel_rfl) (fun _ _ _ h => h) (Or.inl ⟨by rfl, ?hybyz3⟩) hHeld ?_
    case hybyz3 => (intro wS hSw; (try dsimp only at hSw); go_simp; (first | done | with_reducible rfl))
    try simp only [Act.put, List.setIfInBounds_toArray, List.set_cons_zero, List.set_cons_succ]
    refine wpAnyH_take (i := 4) (oi := ⟨_, _, _, _, _, _⟩) (v := .agg (wrA i (pad l))) rfl (by kernel_rfl) (by kernel_rfl) (by kernel_rfl) (fun _ _ _ h => h) (yields_wr (by rfl) (.tmp 8) rfl g rfl i (pad l) HPL.out (fun w h => h.1)) hHeld ?_
    try simp only [Act.put, List.setIfInBounds_toArray, List.set_cons_zero, List.set_cons_succ]
    refine wpAnyH_ready (rs := [5]) (by kernel_rfl) (by simp) ?_
    refine AllReadyH.cons (o := ⟨_, _, _, _, _, _⟩) rfl (fun K hK => ?_) AllReadyH.nil
    go_simp
    refine (put_at mn D.n i D.now (pad l) _ hi h1 HPL.out (by exact HSN6.out.kept (drew_grown w6 none) (by simp))).mono ?_
    rintro e w7 ⟨rfl, hsn7, hg7⟩
    have HSN7 := Lib.hid hsn7
    have HG7 := Lib.hid ((drew_grown w6 (some mn)).andThen hg7 (fun _ hj => .inr hj))
    clear hsn7 hg7
    go_wp2_with fail
    refine hK.out _ _ ?kbyz5 (fun hNew => ?_)
    case kbyz5 => (try dsimp only); exact ⟨fun j v hv => HG7.out.cell (HR6.out j v hv) (fun e => by have := HMN.out; injection e with e; dsimp only at e; omega), (cell_blk ((HG7.out.block d (Array.getElem?_eq_some_iff.1 HD6.out).1 (fun e => by have := HSN6.out.ne HD6.out; injection e with e; exact this e.symm)).trans HD6.out) 2)⟩
    clear hK K hHeld
    have hHeld := hNew
    clear hNew
    try simp only [Act.put, List.setIfInBounds_toArray, List.set_cons_zero, List.set_cons_succ]
    refine wpAnyH_done (by kernel_rfl) ?_ _
    refine NoPanic.normal ?_
    go_wp2_with fail
    go_ret
    obtain ⟨hsb6, hrow6, hos6, ha6, hbw6⟩ := HALL.out
    have fin := disk_now (D := { ({ D with armed := some k } : Dsk) with wr := D.wr ++ [(i, pad l)] }) h1 (fun p hp => by rcases List.mem_append.1 hp with hp | hp; exact H2.out p hp; rw [List.mem_singleton.1 hp]; exact ⟨hi, HPL.out⟩) HD6.out hB hmb hmn hne hsb6 HSN6.out hrow6 hos6 ha6 HG7.out HSN7.out
    exact ⟨rfl, fin.1, ((HB0.out.trans HB1.out).trans hbw6).trans fin.2⟩
end Go.Proofs.Ytplnkpbfnpajjaa.Sec
