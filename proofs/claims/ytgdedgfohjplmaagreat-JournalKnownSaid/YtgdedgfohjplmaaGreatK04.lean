/- A part of the proof of JournalKnown: JsecKeptA JnlTightA JnlPut JnlPutW JnlSealX JnlPutE JnlJumps. -/
import Derived.Test.YtgdedgfohjplmaaGreatK00
import Derived.Test.YtgdedgfohjplmaaGreatK02
import Derived.Test.YtgdedgfohjplmaaGreatK03
import Derived.ScopeJumps
import Derived.WalkMore
import Derived.Test.YtgdedgfohjplmaaGreatProg
set_option maxRecDepth 100000
set_option maxHeartbeats 40000000
namespace Go.Proofs.YtgdedgfohjplmaaGreat.Sec
open Go.RowKit Go.Maps
theorem write_kept1 (S : Nat → Prop) (d i : Nat) (D : Dsk) (l : List UInt8) (A : Option Addr) (cap : Nat) (w : World) (h : DiskAt w S d D) (hr : RowB w S A l) (hS : ∀ b, w.heap.size ≤ b → S b) (hi : i < D.n) (ho : D.off = false) (hl : l.length ≤ 128) (k : Nat) (harm : D.armed = some (k + 1)) (hn : D.wr.length < 1000000) :
  Calls Tryz.prog 46 #[.pointer (some ⟨d, 0, none⟩), .int .i64 (i : Int), .slice A l.length cap] w fun e w' => e = .returned (.int .i64 0) ∧ DiskAt w' S d (({ D with armed := some k } : Dsk).push i (pad l)) ∧ Off S w w' ∧ w'.cell? ⟨d, 1, none⟩ = w.cell? ⟨d, 1, none⟩ ∧ w'.cell? ⟨d, 2, none⟩ = w.cell? ⟨d, 2, none⟩ := by
 have hask := asked_at S d D (i : Int) w h
 rw [show askedN D (i : Int) = 0 by unfold askedN; rw [if_neg (by simp [ho]), if_neg (by omega)]] at hask
 obtain ⟨h1, h2, mb, mn, sv, pa, hd, hB, hmb, hmn, hne, hsb, hsn, hrow, hos, ha⟩ := h
 have c4 : w.cell? ⟨d, 4, none⟩ = some (.pointer pa) := cell_blk hd 4
 have HD12 : Hid (w.cell? ⟨d, 1, none⟩ = some (.map (some mb)) ∧ w.cell? ⟨d, 2, none⟩ = some (.map (some mn))) := ⟨cell_blk hd 1, cell_blk hd 2⟩
 have ha' := ha
 rw [harm] at ha'
 obtain ⟨ab, hpa, hab, hbb, hk⟩ := ha'
 subst hpa
 have cb : w.cell? ⟨ab, 0, none⟩ = some (.int .i64 ((k + 1 : Nat) : Int)) := cell_blk hbb 0
 have zb := frozen_blk hbb 0
 have dk0 : decide (((k + 1 : Nat) : Int) = 0) = false := by simp; omega
 have hsub : wrap64 (((k + 1 : Nat) : Int) - 1) = (k : Int) := by unfold wrap64; omega
 have d128 : decide ((128 : Int) < (l.length : Int)) = false := by simp; omega
 have hgs := grown_set w ab 0 (.int .i64 (k : Int))
 have hb0 : Off S w (w.setCell ⟨ab, 0, none⟩ (.int .i64 (k : Int))) := grown_off hgs hab
 have hrow' := row_kept hrow hgs (row_ne hrow hbb (by decide))
 have habd : d ≠ ab := by
  rintro rfl
  rw [hd] at hbb
  injection hbb with hbb
  injection hbb with _ hbb
  exact absurd hbb (by decide)
 have hd' := (hgs.block d (Array.getElem?_eq_some_iff.1 hd).1 (fun e => habd (Option.some.inj e))).trans hd
 have hsb' := hsb.kept hgs (fun e => hsb.ne hbb (Option.some.inj e))
 have hsn' := hsn.kept hgs (fun e => hsn.ne hbb (Option.some.inj e))
 have ha2 : ArmedAt (w.setCell ⟨ab, 0, none⟩ (.int .i64 (k : Int))) S (some ⟨ab, 0, none⟩) (some k) := ⟨ab, rfl, hab, by simpa using heap_setCell_same w ab 0 _ _ (.int .i64 (k : Int)) hbb, by omega⟩
 have hr' := hr.off hb0
 have HW0 := Lib.hid (And.intro hd' (And.intro hsb' (And.intro hsn' (And.intro hrow' ha2))))
 have HB0 := Lib.hid hb0
 have hs0 : (w.setCell ⟨ab, 0, none⟩ (.int .i64 (k : Int))).heap.size = w.heap.size := by simp
 have HS0 := Lib.hid hs0
 have HRW := Lib.hid (hr'.grown (wr0_grown _ i))
 have HTH : Hid ((wr0 (w.setCell ⟨ab, 0, none⟩ (.int .i64 (k : Int))) i).there w.heap.size 0 129) := by
  have := wr0_there (w.setCell ⟨ab, 0, none⟩ (.int .i64 (k : Int))) i
  rw [hs0] at this
  exact this
 have HA := Lib.hid hask
 have HL := Lib.hid hl
 have HPL := Lib.hid (pad_length l hl)
 have H2 := Lib.hid h2
 have hbw := build_wr
 have hzw := zero_wr
 clear hd hask hr ha hsb hsn hrow h2 hl hbb hgs hb0 hrow' hd' hsb' hsn' ha2 hr' hab hs0
 go_enter Tryz.func46, Tryz.ntmps46
 go_wp2_with fail
 refine HA.out.mono ?_
 rintro e w' ⟨rfl, rfl⟩
 go_wp2_with (first
  | (with_reducible show Go.wpList _ _ _ ((⟨_, .store _ _ _, _, _, _, _⟩ : Oper) :: _) _ _; refine wpList_store_wr0 rfl _ _ rfl i (w.setCell ⟨ab, 0, none⟩ (.int .i64 (k : Int))) w.heap.size HS0.out rfl rfl rfl ?_; generalize (wrA 0 noughts).setIfInBounds 0 _ = junk; go_frame)
  | go_in)
 rw [run_copy_sec _ _ w.heap.size S A l cap HL.out HRW.out HTH.out]
 simp only [Result.andThen]
 rw [Oper.upon_value]
 have hsz := laid_size (w.setCell ⟨ab, 0, none⟩ (.int .i64 (k : Int))) i l
 have hgr := laid_grown (w.setCell ⟨ab, 0, none⟩ (.int .i64 (k : Int))) i l
 have hld := laid (w.setCell ⟨ab, 0, none⟩ (.int .i64 (k : Int))) i l HL.out
 rw [HS0.out] at hsz hgr hld
 have hs0 : (w.setCell ⟨ab, 0, none⟩ (.int .i64 (k : Int))).heap.size = w.heap.size := HS0.out
 obtain ⟨g, hgq⟩ : ∃ g, g = w.heap.size := ⟨_, rfl⟩
 rw [← hgq] at hsz hgr hld hS ⊢
 generalize (wr0 (w.setCell ⟨ab, 0, none⟩ (.int .i64 (k : Int))) i).setCells g 1 (u8s l) = w1 at hsz hgr hld ⊢
 obtain ⟨hd, hsb, hsn, hrow, ha⟩ := HW0.out
 have hdlt := (Array.getElem?_eq_some_iff.1 hd).1
 have hown := hrow.lt
 have hmnlt := hsn.lt
 have HMN : Hid (mn < g ∧ d < g) := by show _ ∧ _; omega
 clear hmnlt
 have hd1 := (hgr.block d hdlt (by simp)).trans hd
 have hsb1 := hsb.kept hgr (by simp)
 have hsn1 := hsn.kept hgr (by simp)
 have hrow1 := row_grown hrow hgr
 have ha1 := ha.grown hgr
 have c3x : w1.drew.cell? ⟨d, 3, none⟩ = some sv := cell_blk (w := w1.drew) hd1 3
 have hgA := drew_alloc_grown w1 (.cells (wrA i (pad l)) 112) none
 have hdA := (hgA.block d (by omega) (by simp)).trans hd1
 have c3y : (w1.drew.alloc (.cells (wrA i (pad l)) 112)).cell? ⟨d, 3, none⟩ = some sv := cell_blk hdA 3
 have c3z : (w1.alloc (.cells (wrA i (pad l)) 112)).cell? ⟨d, 3, none⟩ = some sv := c3y
 have HLAID := Lib.hid hld
 have HG : Hid (g < w1.heap.size) := by show g < _; omega
 have hgd : g ≠ d := by omega
 have HROW := Lib.hid (row_grown hrow1 hgA)
 obtain ⟨i0, hi0, he0⟩ := Option.map_eq_some_iff.1 info_wr
 simp only [Prod.mk.injEq] at he0
 have HI0 := Lib.hid (And.intro hi0 he0)
 have HZW : Hid ((Value.agg (wrA 0 noughts)).cells.size = 129) := by show (wrA 0 noughts).size = 129; rw [wrA_size, noughts_length]
 have HLL : Hid ((wrA i (pad l)).toList.length = 1 * 129) := by show _ = _; rw [Array.length_toList, wrA_size, HPL.out]
 have HNEWS : Hid (∀ j u, (wrA i (pad l)).toList[j]? = some u → (w1.drew.alloc (.cells (wrA i (pad l)) 112)).cell? ((⟨w1.heap.size, 0, none⟩ : Addr).add j) = some u) := by
  intro j u hu
  have hadd : (⟨w1.heap.size, 0, none⟩ : Addr).add j = ⟨w1.heap.size, j, none⟩ := by unfold Addr.add; split <;> simp_all
  rw [hadd]
  have := cell_new w1.drew (wrA i (pad l)) 112 j
  exact this.trans (by simpa using hu)
 have HM1 : Hid (D.wr.length + 1 ≤ maxLen) := by show _ ≤ _; unfold maxLen; omega
 have HM2 : Hid ((D.wr.length + 1) * 136 ≤ 140737488355328) := by show _ ≤ _; omega
 have HBB : Hid (0 ≤ (w1.drew.alloc (.cells (wrA i (pad l)) 112)).heap.size) := Nat.zero_le _
 have HPUSH : Hid (∀ sv2 w5, w5.ownsRow 0 112 129 sv2 (D.wr.length + 1) (rows D.wr ++ (wrA i (pad l)).toList) → (w1.drew.alloc (.cells (wrA i (pad l)) 112)).grownBy w5 sv.ownBlock → (sv2.ownBlock = sv.ownBlock ∨ sv2.ownBlock = some (w1.drew.alloc (.cells (wrA i (pad l)) 112)).heap.size) → _) := fun sv2 w5 ho5 hg5 hob => DiskAt.push (w := w1) (D := { D with armed := some k }) (sv2 := sv2) hd1 hB hsb1 hsn1 hrow1 hos ha1 (fun b hb => hS b (by omega)) hgA ho5 hg5 hob
 have HKEEP : Hid (∀ (sv2 : Value) (w5 : World), w5.ownsRow 0 112 129 sv2 (D.wr.length + 1) (rows D.wr ++ (wrA i (pad l)).toList) → (w1.drew.alloc (.cells (wrA i (pad l)) 112)).grownBy w5 sv.ownBlock → w5.rangeAt g 0 (wrA i (pad l)).toList ∧ g < w5.heap.size) := by
  intro sv2 w5 _ hg5
  have hgs := hg5.size
  have hgA' := hgA.size
  refine ⟨fun j v hv => ?_, by omega⟩
  have hne5 : some g ≠ sv.ownBlock := fun e => by have := (hown g e.symm).2; omega
  exact hg5.cell (hgA.cell (hld j v hv) (by simp)) hne5
 have HKEEP2 : Hid (∀ (sv2 : Value) (w5 : World), w5.ownsRow 0 112 129 sv2 (D.wr.length + 1) (rows D.wr ++ (wrA i (pad l)).toList) → (w1.drew.alloc (.cells (wrA i (pad l)) 112)).grownBy w5 sv.ownBlock → (w5.setCell ⟨d, 3, none⟩ sv2).rangeAt g 0 (wrA i (pad l)).toList ∧ g < (w5.setCell ⟨d, 3, none⟩ sv2).heap.size) := by
  intro sv2 w5 ho5 hg5
  obtain ⟨hr5, hs5⟩ := HKEEP.out sv2 w5 ho5 hg5
  refine ⟨fun j v hv => ?_, by simpa using hs5⟩
  rw [World.cell?_setCell_other _ _ _ _ (by simp)]
  exact hr5 j v hv
 have hb1 : Off S (w.setCell ⟨ab, 0, none⟩ (.int .i64 (k : Int))) w1 := Off.of_grown hgr (by simp)
 have HB1 := Lib.hid hb1
 have HSZ := Lib.hid hsz
 have HGQ := Lib.hid hgq
 clear hs0 HRW HTH c4 HW0 hd hsb hsn hrow ha hdlt hown hd1 hsb1 hsn1 hrow1 ha1 hgA hdA hld hi0 he0 hb1 hgr hsz hgq
 clear hbw hzw
 go_wp2_with fail
 refine wp_region_noPanic ?_
 refine wp_region_held_drew (S := fun w' => w'.rangeAt g 0 (wrA i (pad l)).toList ∧ g < w'.heap.size) (by kernel_rfl) ?hSb (fun hHeld => ?_)
 case hSb => exact ⟨(World.rangeAt_drew _ _ _ _).2 HLAID.out, by simpa using HG.out⟩
 refine ztk 0 rfl ?_
 refine ztk 1 rfl ?_
 refine ztk 2 rfl ?_
 refine ztk 3 rfl ?_
 refine wpAnyH_take (i := 5) (oi := ⟨_, _, _, _, _, _⟩) (v := .agg (wrA i (pad l))) rfl (by kernel_rfl) (by kernel_rfl) (by kernel_rfl) (fun _ _ _ h => h) (yields_wr (by rfl) (.tmp 8) rfl g rfl i (pad l) HPL.out (fun w h => h.1)) hHeld ?_
 try simp only [zpt]
 refine zrd2 4 6 rfl rfl (fun K hK => ?_) (fun K hK => ?_)
 go_simp
 refine hK.out _ _ ?q (fun hHeld => ?_)
 case q => (try dsimp only); exact hHeld
 clear hK K
 try simp only [zpt]
 refine zrd 6 rfl (fun K hK => ?_)
 refine step_wp rfl ?_
 refine wp_one_wr (.tmp 51) rfl i (pad l) HPL.out rfl ?_
 refine hK.out _ _ ?q (fun hHeld => ?_)
 case q => (try dsimp only); exact ⟨World.rangeAt_alloc hHeld.1 _, by rw [World.size_alloc]; exact Nat.lt_succ_of_lt hHeld.2⟩
 rotate_left
 refine step_wp rfl ?_
 refine wp_one_wr (.tmp 51) rfl i (pad l) HPL.out rfl ?_
 refine hK.out _ _ ?q (fun hHeld => ?_)
 case q => (try dsimp only); exact ⟨World.rangeAt_alloc hHeld.1 _, by rw [World.size_alloc]; exact Nat.lt_succ_of_lt hHeld.2⟩
 clear hK K
 try simp only [zpt]
 refine zrd 4 rfl (fun K hK => ?_)
 go_simp
 refine hK.out _ _ ?q (fun hHeld => ?_)
 case q => (try dsimp only); exact hHeld
 rotate_left
 all_goals
  clear hK K
  try simp only [zpt]
  refine zrd 7 rfl (fun K hK => ?_)
  refine step_append_own rfl (.tmp 50) (.tmp 52) 56 112 rfl i0 _ 129 136 Tryz.underlying56 HI0.out.1 HI0.out.2.1 HI0.out.2.2.1 HI0.out.2.2.2 HZW.out (by decide) 0 sv D.wr.length (rows D.wr) HROW.out rfl ⟨w1.heap.size, 0, none⟩ 1 1 (wrA i (pad l)).toList rfl HLL.out HNEWS.out (wrA_one i (pad l)) HM1.out HM2.out HBB.out ?_
  intro sv2 w5 hown5 hgr5 hob5
  obtain ⟨g2, cap2, rfl⟩ := row_shape hown5
  have HOWN5 := Lib.hid hown5
  have HGR5 := Lib.hid hgr5
  clear hown5 hgr5
  have hp := HPUSH.out _ w5 HOWN5.out HGR5.out hob5
  have d3 := cell_blk hp.1 3
  have z3 := frozen_blk hp.1 3
  have HP := Lib.hid hp
  clear hp
  refine hK.out _ _ ?q (fun hHeld => ?_)
  case q => (try dsimp only); exact HKEEP.out _ _ HOWN5.out HGR5.out
  clear hK K
  try simp only [zpt]
  refine ztk 8 rfl ?_
  refine ztk 9 rfl ?_
  refine zrd 10 rfl (fun K hK => ?_)
  go_simp
  refine hK.out _ _ ?q (fun hHeld => ?_)
  case q => (try dsimp only); exact HKEEP2.out _ _ HOWN5.out HGR5.out
  clear hK K
  try simp only [zpt]
  refine wpAnyH_done (by kernel_rfl) ?_ _
  refine NoPanic.normal ?_
  obtain ⟨_, hd6, hsb6, hsn6, hrow6, hos6, ha6, hbw6⟩ := HP.out
  have hr6 := hHeld.1
  clear hHeld HP d3 z3 HOWN5 HGR5
  generalize w5.setCell ⟨d, 3, none⟩ (.slice (some ⟨g2, 0, none⟩) (D.wr.length + 1) cap2) = w6 at hd6 hsb6 hsn6 hrow6 ha6 hbw6 hr6 ⊢
  have HD6 := Lib.hid hd6
  have HSN6 := Lib.hid hsn6
  have HALL := Lib.hid (And.intro hsb6 (And.intro hrow6 (And.intro hos6 (And.intro ha6 hbw6))))
  have hc2 : w6.drew.cell? ⟨d, 2, none⟩ = some (.map (some mn)) := cell_blk (w := w6.drew) hd6 2
  have HC2 := Lib.hid hc2
  have HR6 := Lib.hid hr6
  clear hd6 hsb6 hsn6 hrow6 hos6 ha6 hbw6 hr6 hc2 c3x c3y c3z
  go_wp2_with fail
  refine wp_region_noPanic ?_
  refine wp_region_held_drew (S := fun w' => w'.rangeAt g 0 (wrA i (pad l)).toList ∧ w'.cell? ⟨d, 2, none⟩ = some (.map (some mn))) (by kernel_rfl) ?hSbxz (fun hHeld => ?_)
  case hSbxz => exact ⟨(World.rangeAt_drew _ _ _ _).2 HR6.out, HC2.out⟩
  refine ztk 0 rfl ?_
  refine ztk 1 rfl ?_
  refine ztk 2 rfl ?_
  refine ztk 3 rfl ?_
  refine wpAnyH_take (i := 4) (oi := ⟨_, _, _, _, _, _⟩) (v := .agg (wrA i (pad l))) rfl (by kernel_rfl) (by kernel_rfl) (by kernel_rfl) (fun _ _ _ h => h) (yields_wr (by rfl) (.tmp 8) rfl g rfl i (pad l) HPL.out (fun w h => h.1)) hHeld ?_
  try simp only [zpt]
  refine zrd 5 rfl (fun K hK => ?_)
  go_simp
  refine (put_at mn D.n i D.now (pad l) _ hi h1 HPL.out (by exact HSN6.out.kept (drew_grown w6 none) (by simp))).mono ?_
  rintro e w7 ⟨rfl, hsn7, hg7⟩
  have HSN7 := Lib.hid hsn7
  have HG7 := Lib.hid ((drew_grown w6 (some mn)).andThen hg7 (fun _ hj => .inr hj))
  clear hsn7 hg7
  go_wp2_with fail
  refine hK.out _ _ ?q (fun hHeld => ?_)
  case q => (try dsimp only); exact ⟨fun j v hv => HG7.out.cell (HR6.out j v hv) (fun e => by have := HMN.out; injection e with e; dsimp only at e; omega), (cell_blk ((HG7.out.block d (Array.getElem?_eq_some_iff.1 HD6.out).1 (fun e => by have := HSN6.out.ne HD6.out; injection e with e; exact this e.symm)).trans HD6.out) 2)⟩
  clear hK K
  try simp only [zpt]
  refine wpAnyH_done (by kernel_rfl) ?_ _
  refine NoPanic.normal ?_
  go_wp2_with fail
  go_ret
  obtain ⟨hsb6, hrow6, hos6, ha6, hbw6⟩ := HALL.out
  have fin := disk_now (D := { ({ D with armed := some k } : Dsk) with wr := D.wr ++ [(i, pad l)] }) h1 (fun p hp => by rcases List.mem_append.1 hp with hp | hp; exact H2.out p hp; rw [List.mem_singleton.1 hp]; exact ⟨hi, HPL.out⟩) HD6.out hB hmb hmn hne hsb6 HSN6.out hrow6 hos6 ha6 HG7.out HSN7.out
  have hd7 := (HG7.out.block d (Array.getElem?_eq_some_iff.1 HD6.out).1 (fun e => by have := HSN6.out.ne HD6.out; injection e with e; exact this e.symm)).trans HD6.out
  exact ⟨rfl, fin.1, ((HB0.out.trans HB1.out).trans hbw6).trans fin.2, (cell_blk hd7 1).trans HD12.out.1.symm, (cell_blk hd7 2).trans HD12.out.2.symm⟩
theorem crash_kept (S : Nat → Prop) (d : Nat) (D : Dsk) (w : World) (h : DiskAt w S d D) :
  Calls Tryz.prog 6 #[.pointer (some ⟨d, 0, none⟩)] w fun e w' => e = .returned (.tuple #[]) ∧ DiskAt w' S d { D with armed := none, off := true } ∧ Off S w w' ∧ w'.cell? ⟨d, 1, none⟩ = w.cell? ⟨d, 1, none⟩ ∧ w'.cell? ⟨d, 2, none⟩ = w.cell? ⟨d, 2, none⟩ := by
 obtain ⟨h1, h2, mb, mn, sv, pa, hd, hB, hmb, hmn, hne, hsb, hsn, hrow, hos, ha⟩ := h
 have c4 : w.cell? ⟨d, 4, none⟩ = some (.pointer pa) := cell_blk hd 4
 have c5 : w.cell? ⟨d, 5, none⟩ = some (.bool D.off) := cell_blk hd 5
 have z4 := frozen_blk hd 4
 have z5 := frozen_blk hd 5
 have HD := Lib.hid hd
 clear hd
 go_enter Tryz.func6, Tryz.ntmps6
 go_wp2
 go_end0
 have hg := grown_trans (grown_set w d 4 (.pointer none)) (grown_set _ d 5 (.bool true))
 have hd1 := heap_setCell_same w d 4 _ _ (.pointer none) HD.out
 have hd2 := heap_setCell_same _ d 5 _ _ (.bool true) hd1
 refine ⟨rfl, ⟨h1, h2, mb, mn, sv, none, by simpa using hd2, hB, hmb, hmn, hne, hsb.kept hg ?_, hsn.kept hg ?_, row_kept hrow hg (row_ne hrow HD.out (by decide)), hos, rfl⟩, grown_off hg hB, (cell_blk hd2 1).trans (cell_blk HD.out 1).symm, (cell_blk hd2 2).trans (cell_blk HD.out 2).symm⟩
 ·exact fun x => hsb.ne HD.out (Option.some.inj x)
 ·exact fun x => hsn.ne HD.out (Option.some.inj x)
theorem write_kept0 (S : Nat → Prop) (d : Nat) (i : Int) (D : Dsk) (l : List UInt8) (A : Option Addr) (cap : Nat) (w : World) (h : DiskAt w S d D) (hx : askedN D i = 0) (hl : l.length ≤ 128) (harm : D.armed = some 0) :
  Calls Tryz.prog 46 #[.pointer (some ⟨d, 0, none⟩), .int .i64 i, .slice A l.length cap] w fun e w' => e = .returned (.int .i64 20) ∧ DiskAt w' S d { D with armed := none, off := true } ∧ Off S w w' ∧ w'.cell? ⟨d, 1, none⟩ = w.cell? ⟨d, 1, none⟩ ∧ w'.cell? ⟨d, 2, none⟩ = w.cell? ⟨d, 2, none⟩ := by
 have hask := asked_at S d D i w h
 have hcr := crash_kept S d D w h
 rw [hx] at hask
 have d128 : decide ((128 : Int) < (l.length : Int)) = false := by simp; omega
 have HA := Lib.hid hask
 have HC := Lib.hid hcr
 obtain ⟨h1, h2, mb, mn, sv, pa, hd, hB, hmb, hmn, hne, hsb, hsn, hrow, hos, ha⟩ := h
 have c4 : w.cell? ⟨d, 4, none⟩ = some (.pointer pa) := cell_blk hd 4
 rw [harm] at ha
 obtain ⟨ab, rfl, hab, hbb, hk⟩ := ha
 have cb : w.cell? ⟨ab, 0, none⟩ = some (.int .i64 ((0 : Nat) : Int)) := cell_blk hbb 0
 clear hask hcr hx hl hd hsb hsn hrow h2 hbb
 go_enter Tryz.func46, Tryz.ntmps46
 go_wp2_with fail
 refine HA.out.mono ?_
 rintro e w' ⟨rfl, rfl⟩
 go_wp2_with fail
 refine HC.out.mono ?_
 rintro e w' ⟨rfl, hdk, hb, hk1, hk2⟩
 have HKK := Lib.hid (And.intro hk1 hk2)
 clear hk1 hk2
 have HD := Lib.hid hdk
 have HB := Lib.hid hb
 clear hdk hb
 go_wp2_with fail
 go_ret
 exact ⟨rfl, HD.out, HB.out, HKK.out⟩
theorem write_kept_any (S : Nat → Prop) (d : Nat) (i : Int) (D : Dsk) (l : List UInt8) (A : Option Addr) (cap : Nat) (w : World) (h : DiskAt w S d D) (hr : RowB w S A l) (hS : ∀ b, w.heap.size ≤ b → S b) (hn : D.wr.length < 1000000) :
  Calls Tryz.prog 46 #[.pointer (some ⟨d, 0, none⟩), .int .i64 i, .slice A l.length cap] w fun e w' => e = .returned (.int .i64 (wrote D i l).1) ∧ DiskAt w' S d (wrote D i l).2 ∧ Off S w w' ∧ w'.cell? ⟨d, 1, none⟩ = w.cell? ⟨d, 1, none⟩ ∧ w'.cell? ⟨d, 2, none⟩ = w.cell? ⟨d, 2, none⟩ := by
 rcases askedN_cases D i with hx | hx | ⟨hx, ho, hi0, hi⟩
 ·refine (write_refused S d i 20 D l A cap w h hx (.inl rfl)).mono ?_
  rintro e w' ⟨rfl, rfl⟩
  unfold wrote
  rw [if_pos (by rw [hx]; decide), hx]
  exact ⟨rfl, h, Off.refl _ _, rfl, rfl⟩
 ·refine (write_refused S d i 2 D l A cap w h hx (.inr rfl)).mono ?_
  rintro e w' ⟨rfl, rfl⟩
  unfold wrote
  rw [if_pos (by rw [hx]; decide), hx]
  exact ⟨rfl, h, Off.refl _ _, rfl, rfl⟩
 ·unfold wrote
  rw [if_neg (by simpa using hx)]
  by_cases hl : 128 < l.length
  ·rw [if_pos hl]
   refine (write_long S d i D l A cap w h hx hl).mono ?_
   rintro e w' ⟨rfl, rfl⟩
   exact ⟨rfl, h, Off.refl _ _, rfl, rfl⟩
  ·rw [if_neg hl]
   obtain ⟨j, rfl⟩ : ∃ j : Nat, i = j := ⟨i.toNat, by omega⟩
   rw [Int.toNat_natCast] at hi ⊢
   cases harm : D.armed with
   | none => exact write_kept S d j D l A cap w h hr hS hi ho (by omega) harm hn
   | some k =>
    cases k with
    | zero => exact write_kept0 S d j D l A cap w h hx (by omega) harm
    | succ k => exact write_kept1 S d j D l A cap w h hr hS hi ho (by omega) k harm hn
theorem write_at (S : Nat → Prop) (d : Nat) (i : Int) (D : Dsk) (l : List UInt8) (A : Option Addr) (cap : Nat) (w : World) (h : DiskAt w S d D) (hr : RowB w S A l) (hS : ∀ b, w.heap.size ≤ b → S b) (hn : D.wr.length < 1000000) :
  Calls Tryz.prog 46 #[.pointer (some ⟨d, 0, none⟩), .int .i64 i, .slice A l.length cap] w fun e w' => e = .returned (.int .i64 (wrote D i l).1) ∧ DiskAt w' S d (wrote D i l).2 ∧ Off S w w' := by
 refine (write_kept_any S d i D l A cap w h hr hS hn).mono ?_
 rintro e w' ⟨h1, h2, h3, _⟩
 exact ⟨h1, h2, h3⟩
def TightA (w : World) (d b : Nat) : Prop := Tight w d b ∨ w.cell? ⟨d, 4, none⟩ = some (.pointer (some ⟨b, 0, none⟩))
section
variable {w w' : World} {S : Nat → Prop} {d b B mb mn : Nat} {D : Dsk}
theorem DiskAt.tightA (h : DiskAt w S d D) : DiskAt w (TightA w d) d D := by
 obtain ⟨h1, h2, mb, mn, sv, pa, hd, hB, hmb, hmn, hne, hsb, hsn, hrow, hos, harm⟩ := h
 refine ⟨h1, h2, mb, mn, sv, pa, hd, .inl (.inl rfl), .inl (.inr (.inl (cell_blk hd 1))), .inl (.inr (.inr (.inl (cell_blk hd 2)))), hne, hsb, hsn, hrow, fun g hg => .inl (.inr (.inr (.inr ⟨sv, cell_blk hd 3, hg⟩))), ?_⟩
 cases ha : D.armed with
 | none => rw [ha] at harm; exact harm
 | some k =>
  rw [ha] at harm
  obtain ⟨ab, e, hs, hb, hk⟩ := harm
  subst e
  exact ⟨ab, rfl, .inr (cell_blk hd 4), hb, hk⟩
theorem DiskAt.tightA_sub (h : DiskAt w S d D) (hb : TightA w d b) : S b := by
 rcases hb with hb | e
 ·exact h.tight_sub hb
 ·obtain ⟨h1, h2, mb, mn, sv, pa, hd, hB, hmb, hmn, hne, hsb, hsn, hrow, hos, harm⟩ := h
  have c4 : w.cell? ⟨d, 4, none⟩ = some (.pointer pa) := cell_blk hd 4
  rw [c4] at e
  injection e with e; injection e with e
  subst e
  cases ha : D.armed with
  | none => rw [ha] at harm; cases harm
  | some k =>
   rw [ha] at harm
   obtain ⟨ab, e, hs, hb, hk⟩ := harm
   injection e with e; injection e with e
   exact e ▸ hs
theorem DiskAt.tightA_lt (h : DiskAt w S d D) (hb : TightA w d b) : b < w.heap.size :=
 ((h.mono (T := fun b => S b ∧ b < w.heap.size) (fun _ hk hs => ⟨hs, hk⟩)).tightA_sub hb).2
theorem DiskAt.armed_blk (h : DiskAt w S d D) (e : w.cell? ⟨d, 4, none⟩ = some (.pointer (some ⟨b, 0, none⟩))) : ∃ C, w.heap[b]? = some (.cells C 3) := by
 obtain ⟨h1, h2, mb, mn, sv, pa, hd, hB, hmb, hmn, hne, hsb, hsn, hrow, hos, harm⟩ := h
 have c4 : w.cell? ⟨d, 4, none⟩ = some (.pointer pa) := cell_blk hd 4
 rw [c4] at e
 injection e with e; injection e with e
 subst e
 cases ha : D.armed with
 | none => rw [ha] at harm; cases harm
 | some k =>
  rw [ha] at harm
  obtain ⟨ab, e, hs, hb, hk⟩ := harm
  injection e with e; injection e with e
  exact ⟨_, e ▸ hb⟩
theorem DiskAt.tightA_kind (h : DiskAt w S d D) (hb : TightA w d b) {C : Array Value} {t : TypeId} {fr : Nat × Nat} (hc : w.heap[b]? = some (.cells C t fr)) : t = 59 ∨ t = 112 ∨ t = 3 := by
 rcases hb with hb | e
 ·rcases h.tight_kind hb hc with e | e
  ·exact .inl e
  ·exact .inr (.inl e)
 ·obtain ⟨C2, hb⟩ := h.armed_blk e
  rw [hb] at hc
  injection hc with hc; injection hc with _ hc
  exact .inr (.inr hc.symm)
theorem DiskAt.ownA {row : Option Nat} (h : DiskAt w (TightA w d) d D) (c1 : w.cell? ⟨d, 1, none⟩ = some (.map (some mb))) (c2 : w.cell? ⟨d, 2, none⟩ = some (.map (some mn))) (hmb : mb < B) (hmn : mn < B)
  (hg : w.grownBy w' row) (hr : ∀ r, row = some r → B ≤ r ∧ ∃ o : Obj, w.heap[r]? = some o ∧ o.isCells = false) : DiskAt w' (TightA w' d) d D ∧ (∀ j, w'.cell? ⟨d, j, none⟩ = w.cell? ⟨d, j, none⟩) ∧ ∀ b, TightA w' d b ↔ TightA w d b := by
 have h' := h
 obtain ⟨h1, h2, mb', mn', sv, pa, hd, hB, _, _, hne, hsb, hsn, hrow, hos, harm⟩ := h
 have k1 : w.cell? ⟨d, 1, none⟩ = some (.map (some mb')) := cell_blk hd 1
 have k2 : w.cell? ⟨d, 2, none⟩ = some (.map (some mn')) := cell_blk hd 2
 have e1 : mb' = mb := by
  rw [k1] at c1
  injection c1 with e; injection e with e; injection e with e
 have e2 : mn' = mn := by
  rw [k2] at c2
  injection c2 with e; injection e with e; injection e with e
 subst e1 e2
 have cellsNo : ∀ b C t, w.heap[b]? = some (.cells C t) → some b ≠ row := fun b C t hb e => by
  obtain ⟨_, o, ho, hc⟩ := hr b e.symm
  rw [hb] at ho
  cases ho
  cases hc
 have small : ∀ b, b < B → some b ≠ row := fun b hb e => by have := (hr b e.symm).1; omega
 have hdlt := (Array.getElem?_eq_some_iff.1 hd).1
 have hd' := (hg.block d hdlt (cellsNo d _ _ hd)).trans hd
 have hcell : ∀ j, w'.cell? ⟨d, j, none⟩ = w.cell? ⟨d, j, none⟩ := fun j => by rw [cell_blk hd', cell_blk hd]
 have hT : ∀ b, TightA w' d b ↔ TightA w d b := fun b => by unfold TightA Tight; rw [hcell, hcell, hcell, hcell]
 refine ⟨?_, hcell, hT⟩
 refine ⟨h1, h2, mb', mn', sv, pa, hd', .inl (.inl rfl), (hT _).2 (.inl (.inr (.inl k1))), (hT _).2 (.inl (.inr (.inr (.inl k2)))), hne, hsb.kept hg (small _ hmb), hsn.kept hg (small _ hmn), ?_, fun g hg => (hT _).2 (hos g hg), ?_⟩
 ·refine World.ownsRow.kept hrow hg ?_
  obtain ⟨_, ⟨e, _⟩ | ⟨g, cap, cur, e, h3, hcur, _⟩⟩ := id hrow
  ·exact .inl (by rw [e]; rfl)
  ·exact .inr (by rw [e]; exact cellsNo g _ _ hcur)
 ·cases ha : D.armed with
  | none => rw [ha] at harm; exact harm
  | some k =>
   rw [ha] at harm
   obtain ⟨ab, e, hs, hb, hk⟩ := harm
   exact ⟨ab, e, (hT _).2 hs, (hg.block ab (Array.getElem?_eq_some_iff.1 hb).1 (cellsNo ab _ _ hb)).trans hb, hk⟩
theorem DiskAt.tightA_big {k : Nat} (h : DiskAt w S d D) (c1 : w.cell? ⟨d, 1, none⟩ = some (.map (some mb))) (c2 : w.cell? ⟨d, 2, none⟩ = some (.map (some mn))) (hmb : mb < B) (hmn : mn < B) (hk : B ≤ k) (hT : TightA w d k) : ∃ C t, w.heap[k]? = some (.cells C t) := by
 rcases hT with hT | e
 ·exact h.tight_big c1 c2 hmb hmn hk hT
 ·obtain ⟨C, hb⟩ := h.armed_blk e
  exact ⟨C, _, hb⟩
end
end Go.Proofs.YtgdedgfohjplmaaGreat.Sec
namespace Go.Proofs.YtgdedgfohjplmaaGreat.Jnl
open Go.RowKit Go.Maps Go.Shelf Sec
attribute [local go_sem] Oper.semAt_some
def pushes (D : Dsk) (base : Nat) (f : Nat → List UInt8) (is : List Nat) : Dsk := is.foldl (fun D i => D.push (base + i) (f i)) D
theorem pushes_snoc (D : Dsk) (base : Nat) (f : Nat → List UInt8) (is : List Nat) (i : Nat) : pushes D base f (is ++ [i]) = (pushes D base f is).push (base + i) (f i) := by simp [pushes]
theorem pushes_n (D : Dsk) (base : Nat) (f : Nat → List UInt8) (is : List Nat) : (pushes D base f is).n = D.n ∧ (pushes D base f is).off = D.off ∧ (pushes D base f is).armed = D.armed ∧ (pushes D base f is).wr.length = D.wr.length + is.length := by
 induction is generalizing D with
 | nil => exact ⟨rfl, rfl, rfl, rfl⟩
 | cons i is ih =>
  obtain ⟨h1, h2, h3, h4⟩ := ih (D.push (base + i) (f i))
  refine ⟨h1, h2, h3, ?_⟩
  show (pushes (D.push (base + i) (f i)) base f is).wr.length = _
  rw [h4]
  show (D.wr ++ [(base + i, f i)]).length + is.length = _
  simp
  omega
theorem seven (w : World) (o0 o1 o2 o3 o4 o5 o6 : Obj) : let y := ((((((w.alloc o0).alloc o1).alloc o2).alloc o3).alloc o4).alloc o5).alloc o6
  y.heap.size = w.heap.size + 7 ∧ w.grownBy y none ∧ y.heap[w.heap.size]? = some o0 ∧ y.heap[w.heap.size + 1]? = some o1 ∧ y.heap[w.heap.size + 1 + 1]? = some o2 ∧ y.heap[w.heap.size + 1 + 1 + 1]? = some o3 ∧ y.heap[w.heap.size + 1 + 1 + 1 + 1]? = some o4 ∧ y.heap[w.heap.size + 1 + 1 + 1 + 2]? = some o5 ∧ y.heap[w.heap.size + 1 + 1 + 1 + 3]? = some o6 := by
 intro y
 have e : y.heap = ((((((w.heap.push o0).push o1).push o2).push o3).push o4).push o5).push o6 := rfl
 have look : ∀ k, y.heap[k]? = if k = w.heap.size + 6 then some o6 else if k = w.heap.size + 5 then some o5 else if k = w.heap.size + 4 then some o4 else if k = w.heap.size + 3 then some o3 else if k = w.heap.size + 2 then some o2 else if k = w.heap.size + 1 then some o1 else if k = w.heap.size then some o0 else w.heap[k]? := fun k => by
  rw [e]
  simp only [Array.getElem?_push, Array.size_push]
 refine ⟨by rw [e]; simp, ⟨rfl, rfl, rfl, by rw [e]; simp; omega, fun k hk _ => ?_⟩, ?_, ?_, ?_, ?_, ?_, ?_, ?_⟩ <;>
 ·rw [look]
  repeat (first | rw [if_pos (by omega)] | rw [if_neg (by omega)])
theorem disk_maps {w : World} {S : Nat → Prop} {d : Nat} {D : Dsk} (h : DiskAt w S d D) : ∃ mb mn, w.cell? ⟨d, 1, none⟩ = some (.map (some mb)) ∧ w.cell? ⟨d, 2, none⟩ = some (.map (some mn)) ∧ mb < w.heap.size ∧ mn < w.heap.size ∧ d < w.heap.size := by
 have hl := h.lt
 obtain ⟨h1, h2, mb, mn, sv, pa, hd, hB, hmb, hmn, hne, hsb, hsn, hrow, hos, harm⟩ := h
 exact ⟨mb, mn, cell_blk hd 1, cell_blk hd 2, hsb.lt, hsn.lt, hl⟩
theorem cell_kept0 {w w' : World} {d j : Nat} (hg : w.grownBy w' none) (hd : d < w.heap.size) : w'.cell? ⟨d, j, none⟩ = w.cell? ⟨d, j, none⟩ := World.cell?_of_block (w := w) (a := ⟨d, j, none⟩) (hg.block d hd (by simp))
structure PutIn (w y W : World) (Sd : Nat → Prop) (d mb mn : Nat) (DW : Dsk) : Prop where
 disk : DiskAt W (Tight W d) d DW
 c1 : W.cell? ⟨d, 1, none⟩ = some (.map (some mb))
 c2 : W.cell? ⟨d, 2, none⟩ = some (.map (some mn))
 sub : ∀ b, Tight W d b → Sd b ∨ y.heap.size ≤ b
 off : Off Sd y W
theorem PutIn.own {w y W W' : World} {Sd : Nat → Prop} {d mb mn : Nat} {DW : Dsk} {row : Option Nat} (hi : PutIn w y W Sd d mb mn DW) (harm : DW.armed = none) (hmby : mb < y.heap.size) (hmny : mn < y.heap.size) (hg : W.grownBy W' row) (hr : ∀ r, row = some r → y.heap.size ≤ r ∧ ∃ o : Obj, W.heap[r]? = some o ∧ o.isCells = false) : PutIn w y W' Sd d mb mn DW := by
 obtain ⟨h1, h2, h3⟩ := hi.disk.own harm hi.c1 hi.c2 hmby hmny hg hr
 refine ⟨h1, (h2 1).trans hi.c1, (h2 2).trans hi.c2, fun b hb => hi.sub b ((h3 b).1 hb), ⟨hg.os.trans hi.off.os, hg.tape.trans hi.off.tape, hg.output.trans hi.off.output, Nat.le_trans hi.off.size hg.size, fun q hq hs => (hg.block q (Nat.lt_of_lt_of_le hq hi.off.size) (fun e => ?_)).trans (hi.off.block q hq hs)⟩⟩
 have := (hr q e.symm).1
 omega
section
variable {w y W w2 w3 : World} {Sd : Nat → Prop} {d mb mn pb : Nat} {DW D3 : Dsk}
end
theorem bytes_src {w v : World} {A : Option Addr} {l : List UInt8} {cap i : Nat} (hA : (l = [] ∧ cap = 0) ∨ ∃ g off, A = some ⟨g, off, none⟩ ∧ g < w.heap.size ∧ w.rangeAt g off (u8s l)) (hle : cap = 0 → l = []) (hv : ∀ g off, A = some ⟨g, off, none⟩ → v.rangeAt g off (u8s l)) :
  ∃ A' cap', pslice A cap l i = .slice A' (chunk l i).length cap' ∧ ((chunk l i = [] ∧ cap' = 0) ∨ ∃ g off, A' = some ⟨g, off, none⟩ ∧ g < w.heap.size ∧ v.rangeAt g off (u8s (chunk l i))) := by
 by_cases hc0 : cap = 0 ∧ l = []
 ·obtain ⟨rfl, rfl⟩ := hc0
  cases A with
  | none => exact ⟨none, 0, by simp [pslice, chunk], .inl ⟨by simp [chunk], rfl⟩⟩
  | some x => exact ⟨some x, 0, by simp [pslice, chunk], .inl ⟨by simp [chunk], rfl⟩⟩
 ·rcases hA with h | ⟨g, off, rfl, hg, hr⟩
  ·exact absurd ⟨h.2, h.1⟩ hc0
  by_cases hcz : cap = 0
  ·refine ⟨some ⟨g, off, none⟩, 0, ?_, .inl ⟨?_, rfl⟩⟩
   ·exact absurd ⟨hcz, hle hcz⟩ hc0
   ·exact absurd ⟨hcz, hle hcz⟩ hc0
  refine ⟨some ⟨g, off + i * 102, none⟩, cap - i * 102, if_neg hcz, .inr ⟨g, off + i * 102, rfl, hg, fun j x hj => ?_⟩⟩
  have := hv g off rfl (i * 102 + j) x (by
   simp only [chunk, u8s, List.map_take, List.map_drop] at hj ⊢
   rw [List.getElem?_take] at hj
   split at hj
   ·rwa [List.getElem?_drop] at hj
   ·cases hj)
  rwa [← Nat.add_assoc] at this
theorem chunk_le (l : List UInt8) (i : Nat) : (chunk l i).length ≤ 102 := by simp [chunk]; omega
end Go.Proofs.YtgdedgfohjplmaaGreat.Jnl
namespace Go.Proofs.YtgdedgfohjplmaaGreat.Jnl
open Go.RowKit Go.Maps Go.Shelf Sec
attribute [local go_sem] Oper.semAt_some
def putE (base : Nat) (f : Nat → List UInt8) (x : Int × Dsk) (i : Nat) : Int × Dsk := if x.1 = 0 then wrote x.2 ((base + i : Nat) : Int) (f i) else x
def putsE (D : Dsk) (base : Nat) (f : Nat → List UInt8) (is : List Nat) : Int × Dsk := is.foldl (putE base f) (0, D)
theorem putsE_snoc (D : Dsk) (base : Nat) (f : Nat → List UInt8) (is : List Nat) (i : Nat) : putsE D base f (is ++ [i]) = putE base f (putsE D base f is) i := by simp [putsE]
theorem wrote_size (D : Dsk) (i : Int) (l : List UInt8) : (wrote D i l).2.n = D.n ∧ (wrote D i l).2.wr.length ≤ D.wr.length + 1 := by
 unfold Sec.wrote
 split
 ·exact ⟨rfl, Nat.le_succ _⟩
 ·split
  ·exact ⟨rfl, Nat.le_succ _⟩
  ·split
   ·exact ⟨rfl, by show (D.wr ++ [_]).length ≤ _; rw [List.length_append]; simp⟩
   ·exact ⟨rfl, Nat.le_succ _⟩
   ·exact ⟨rfl, by show (D.wr ++ [_]).length ≤ _; rw [List.length_append]; simp⟩
theorem putE_size (base : Nat) (f : Nat → List UInt8) (x : Int × Dsk) (i : Nat) : (putE base f x i).2.n = x.2.n ∧ (putE base f x i).2.wr.length ≤ x.2.wr.length + 1 := by
 unfold putE
 split
 ·exact wrote_size ..
 ·exact ⟨rfl, Nat.le_succ _⟩
theorem putsE_size (D : Dsk) (base : Nat) (f : Nat → List UInt8) (is : List Nat) : (putsE D base f is).2.n = D.n ∧ (putsE D base f is).2.wr.length ≤ D.wr.length + is.length := by
 have key : ∀ (is : List Nat) (x : Int × Dsk), (is.foldl (putE base f) x).2.n = x.2.n ∧ (is.foldl (putE base f) x).2.wr.length ≤ x.2.wr.length + is.length := fun is => by
  induction is with
  | nil => exact fun x => ⟨rfl, Nat.le_refl _⟩
  | cons i is ih =>
   intro x
   have h1 := ih (putE base f x i)
   have h2 := putE_size base f x i
   exact ⟨h1.1.trans h2.1, by have := h1.2; have := h2.2; rw [List.foldl_cons, List.length_cons]; omega⟩
 exact key is (0, D)
def JCE (d : Nat) (J : Jn) (sv rv : Value) (br : Int) : Array Value := #[.pointer (some ⟨d, 0, none⟩), .int .i64 (J.area : Int), .int .i64 (J.gen : Int), .int .i64 (J.op : Int), .int .i64 (J.first : Int), .int .i64 (J.size : Int), sv, rv, .int .i64 (J.used : Int), .int .i64 br]
def JBE (w : World) (jb d : Nat) (J : Jn) (sv rv : Value) (br : Int) : Prop := w.heap[jb]? = some (.cells (JCE d J sv rv br) 50)
theorem JBE.ok {w : World} {jb d : Nat} {J : Jn} {sv rv : Value} (h : JBE w jb d J sv rv 0) : JBlk w jb d J sv rv := h
theorem JBlk.e {w : World} {jb d : Nat} {J : Jn} {sv rv : Value} (h : JBlk w jb d J sv rv) : JBE w jb d J sv rv 0 := h
theorem JBE.set {w : World} {jb d : Nat} {J : Jn} {sv rv : Value} {br : Int} (h : JBE w jb d J sv rv br) (x : Int) : JBE (w.setCell ⟨jb, 9, none⟩ (.int .i64 x)) jb d J sv rv x := heap_setCell_same w jb 9 _ _ (.int .i64 x) h
structure PutW (w y W : World) (Sd : Nat → Prop) (d mb mn : Nat) (DW : Dsk) (jb : Nat) (J : Jn) (sv rv : Value) (br : Int) : Prop where
 disk : DiskAt W (TightA W d) d DW
 c1 : W.cell? ⟨d, 1, none⟩ = some (.map (some mb))
 c2 : W.cell? ⟨d, 2, none⟩ = some (.map (some mn))
 sub : ∀ b, TightA W d b → Sd b ∨ y.heap.size ≤ b
 off : Off (fun b => Sd b ∨ b = jb) y W
 jbe : JBE W jb d J sv rv br
section
variable {w y W W' w2 w3 : World} {Sd : Nat → Prop} {d mb mn pb jb : Nat} {DW D3 : Dsk} {J : Jn} {sv rv : Value} {br : Int} {row : Option Nat}
theorem PutW.own (hi : PutW w y W Sd d mb mn DW jb J sv rv br) (hmby : mb < y.heap.size) (hmny : mn < y.heap.size) (hjy : jb < y.heap.size) (hg : W.grownBy W' row) (hr : ∀ r, row = some r → y.heap.size ≤ r ∧ ∃ o : Obj, W.heap[r]? = some o ∧ o.isCells = false) : PutW w y W' Sd d mb mn DW jb J sv rv br := by
 obtain ⟨h1, h2, h3⟩ := hi.disk.ownA hi.c1 hi.c2 hmby hmny hg hr
 refine ⟨h1, (h2 1).trans hi.c1, (h2 2).trans hi.c2, fun b hb => hi.sub b ((h3 b).1 hb), ⟨hg.os.trans hi.off.os, hg.tape.trans hi.off.tape, hg.output.trans hi.off.output, Nat.le_trans hi.off.size hg.size, fun q hq hs => (hg.block q (Nat.lt_of_lt_of_le hq hi.off.size) (fun e => ?_)).trans (hi.off.block q hq hs)⟩, (hg.block jb (Nat.lt_of_lt_of_le hjy hi.off.size) (fun e => ?_)).trans hi.jbe⟩
 ·have := (hr q e.symm).1
  omega
 ·have := (hr jb e.symm).1
  omega
theorem PutW.step (hi : PutW w y W Sd d mb mn DW jb J sv rv br) (hjy : jb < y.heap.size) (hjs : ¬ Sd jb) (hb2 : Below W.drew.heap.size W.drew w2) (hd3 : DiskAt w3 (Beside (TightA W d) W.drew.heap.size w2.heap.size) d D3) (ho3 : Off (Beside (TightA W d) W.drew.heap.size w2.heap.size) w2 w3)
  (hk1 : w3.cell? ⟨d, 1, none⟩ = w2.cell? ⟨d, 1, none⟩) (hk2 : w3.cell? ⟨d, 2, none⟩ = w2.cell? ⟨d, 2, none⟩) : PutW w y w3 Sd d mb mn D3 jb J sv rv br := by
 have hdl : d < W.drew.heap.size := hi.disk.lt
 have kc : ∀ j, w2.cell? ⟨d, j, none⟩ = W.cell? ⟨d, j, none⟩ := fun j => World.cell?_of_block (w := W.drew) (a := ⟨d, j, none⟩) (hb2.block d hdl)
 have hyW : y.heap.size ≤ W.heap.size := hi.off.size
 have hW2 : W.heap.size ≤ w2.heap.size := hb2.size
 refine ⟨hd3.tightA, hk1.trans ((kc 1).trans hi.c1), hk2.trans ((kc 2).trans hi.c2), fun b hb => ?_, ⟨ho3.os.trans (hb2.os.trans hi.off.os), ho3.tape.trans (hb2.tape.trans hi.off.tape), ho3.output.trans (hb2.output.trans hi.off.output), by have := ho3.size; omega, fun q hq hs => ?_⟩, ?_⟩
 ·rcases hd3.tightA_sub hb with ⟨h, _⟩ | h
  ·exact hi.sub b h
  ·exact .inr (by omega)
 ·refine (ho3.block q (by omega) ?_).trans ((hb2.block q (by show q < W.heap.size; omega)).trans (hi.off.block q hq hs))
  rintro (⟨h, _⟩ | h)
  ·rcases hi.sub q h with h | h
   ·exact hs (.inl h)
   ·omega
  ·omega
 ·refine (ho3.block jb (by omega) ?_).trans ((hb2.block jb (by show jb < W.heap.size; omega)).trans hi.jbe)
  rintro (⟨h, _⟩ | h)
  ·rcases hi.sub jb h with h | h
   ·exact hjs h
   ·omega
  ·omega
theorem PutW.broke (hi : PutW w y W Sd d mb mn DW jb J sv rv br) (x : Int) : PutW w y (W.setCell ⟨jb, 9, none⟩ (.int .i64 x)) Sd d mb mn DW jb J sv rv x := by
 have hg := grown_set W jb 9 (.int .i64 x)
 have hnt : ¬ TightA W d jb := fun h => by
  rcases hi.disk.tightA_kind h hi.jbe with e | e | e <;> exact absurd e (by decide)
 have hd2 := hi.disk.off (w' := W.setCell ⟨jb, 9, none⟩ (.int .i64 x)) (T := fun b => b = jb) (Off.of_grown hg (fun k e => by cases e; rfl)) (fun b _ hb e => hnt (e ▸ hb))
 have hne : d ≠ jb := fun e => hnt (e ▸ .inl (.inl rfl))
 have hcell : ∀ j, (W.setCell ⟨jb, 9, none⟩ (.int .i64 x)).cell? ⟨d, j, none⟩ = W.cell? ⟨d, j, none⟩ := fun j => World.cell?_of_block (w := W) (a := ⟨d, j, none⟩) (heap_setCell_other W ⟨jb, 9, none⟩ d _ hne)
 have hT : ∀ b, TightA (W.setCell ⟨jb, 9, none⟩ (.int .i64 x)) d b ↔ TightA W d b := fun b => by unfold TightA Tight; rw [hcell, hcell, hcell, hcell]
 refine ⟨hd2.tightA, (hcell 1).trans hi.c1, (hcell 2).trans hi.c2, fun b hb => hi.sub b ((hT b).1 hb), hi.off.trans (Off.of_grown hg (fun k e => by cases e; exact .inr rfl)), hi.jbe.set x⟩
theorem part_keptW {C : Array Value} (hi : PutW w y W Sd d mb mn DW jb J sv rv br) (hpc : W.heap[pb]? = some (.cells C 93)) (hp2 : w2.heap[pb]? = some (.cells C 93)) (ho3 : Off (Beside (TightA W d) W.drew.heap.size w2.heap.size) w2 w3) : w3.heap[pb]? = some (.cells C 93) := by
 refine (ho3.block pb (Array.getElem?_eq_some_iff.1 hp2).1 ?_).trans hp2
 rintro (⟨h, _⟩ | h)
 ·rcases hi.disk.tightA_kind h hpc with e | e | e <;> exact absurd e (by decide)
 ·have := (Array.getElem?_eq_some_iff.1 hp2).1
  omega
theorem put_keepsW (hi : PutW w y W Sd d mb mn DW jb J sv rv br) (hb2 : Below W.drew.heap.size W.drew w2) (ho3 : Off (Beside (TightA W d) W.drew.heap.size w2.heap.size) w2 w3) (hmby : mb < y.heap.size) (hmny : mn < y.heap.size) : KeepsFrom y.heap.size W w3 := by
 have hW2 : W.heap.size ≤ w2.heap.size := hb2.size
 refine ⟨by have := ho3.size; omega, fun q o hq ho hc => ?_⟩
 have hlt := (Array.getElem?_eq_some_iff.1 ho).1
 refine (ho3.block q (by omega) ?_).trans ((hb2.block q hlt).trans ho)
 rintro (⟨h, _⟩ | h)
 ·obtain ⟨C, t, he⟩ := hi.disk.tightA_big hi.c1 hi.c2 hmby hmny hq h
  rw [he] at ho
  cases ho
  cases hc
 ·omega
end
def PutEnd (w w' : World) (Sd : Nat → Prop) (d : Nat) (D : Dsk) (jb : Nat) (J : Jn) (sv rv : Value) (base : Nat) (f : Nat → List UInt8) (M : Nat) : Prop :=
 ∃ Sd', DiskAt w' Sd' d (putsE D base f (upto M)).2 ∧ JBE w' jb d J sv rv (putsE D base f (upto M)).1 ∧ (∀ b, Sd' b → (Sd b ∨ w.heap.size ≤ b) ∧ b < w'.heap.size) ∧ ¬ Sd' jb ∧ Off (fun b => Sd b ∨ b = jb) w w'
theorem putw_at (Sd : Nat → Prop) (d : Nat) (D : Dsk) (jb : Nat) (J : Jn) (sv rv : Value) (a at0 : Nat) (c : UInt8) (s k : Nat) (l : List UInt8) (A : Option Addr) (cap : Nat) (hs : s < 9223372036854775808) (hk : k < 9223372036854775808) (hl : l.length < 6000000) (hcap : l.length ≤ cap) (hcm : cap ≤ maxLen) (w : World)
  (h : DiskAt w Sd d D) (hlt : ∀ b, Sd b → b < w.heap.size) (hj : JBlk w jb d J sv rv) (hjs : ¬ Sd jb) (ha : a * (D.n / 2) + at0 + parts l.length ≤ D.n) (hwr : D.wr.length + 60000 < 1000000)
  (hA : (l = [] ∧ cap = 0) ∨ ∃ g off, A = some ⟨g, off, none⟩ ∧ g < w.heap.size ∧ ¬ (Sd g ∨ g = jb) ∧ w.rangeAt g off (u8s l)) :
  Calls Tryz.prog 26 #[.pointer (some ⟨jb, 0, none⟩), .int .i64 (a : Int), .int .i64 (at0 : Int), .int .u8 (c.toNat : Int), .int .i64 (s : Int), .int .i64 (k : Int), .slice A l.length cap] w fun e w' => e = .returned (.tuple #[]) ∧
   PutEnd w w' Sd d D jb J sv rv (a * (D.n / 2) + at0) (fun i => partB c s k i (parts l.length) (chunk l i)) (parts l.length) := by
 refine (callsIn_wide (n := 4)).1 ?_
 refine callsIn_of_wp_marks Tryz.func26 rfl trivial ?_ rfl
 simp only [Tryz.ntmps26, List.size_toArray, List.length_cons, List.length_nil, Nat.reduceAdd, Nat.reduceSub, Array.replicate_succ, Array.replicate_zero, List.push_toArray, List.append_toArray, List.nil_append, List.cons_append]
 gi_wp2_with (refine ⟨trivial, ?_⟩; gi_at_call 61; refine (parts_call (4 - 1) c s k A l.length cap _).mono ?_; rintro e w' ⟨rfl, rfl⟩)
 have HA := Lib.hid hA
 have HCP := Lib.hid hcap
 have HS := Lib.hid (And.intro hs hk)
 have HLN := Lib.hid hl
 have HCAP := Lib.hid (And.intro hcap hcm)
 have HJS := Lib.hid hjs
 have HLT := Lib.hid hlt
 have HWR := Lib.hid hwr
 have HAA := Lib.hid ha
 obtain ⟨hsy, hgy, y0, y1, y2, y3, y4, y5, y6⟩ := seven w (.cells #[.pointer (some ⟨jb, 0, none⟩)] 22) (.cells #[.int .i64 (a : Int)] 3) (.cells #[.int .i64 (at0 : Int)] 3) (.cells #[.int .u8 (c.toNat : Int)] 5) (.cells #[.int .i64 (s : Int)] 2) (.cells #[.int .i64 (k : Int)] 2) (.cells #[.slice A l.length cap] 28)
 obtain ⟨y, hy⟩ : ∃ y, y = ((((((w.alloc (.cells #[.pointer (some ⟨jb, 0, none⟩)] 22)).alloc (.cells #[.int .i64 (a : Int)] 3)).alloc (.cells #[.int .i64 (at0 : Int)] 3)).alloc (.cells #[.int .u8 (c.toNat : Int)] 5)).alloc (.cells #[.int .i64 (s : Int)] 2)).alloc (.cells #[.int .i64 (k : Int)] 2)).alloc (.cells #[.slice A l.length cap] 28) := ⟨_, rfl⟩
 rw [← hy] at hsy hgy y0 y1 y2 y3 y4 y5 y6 ⊢
 clear hy
 obtain ⟨mb, mn, c1, c2, hmb, hmn, hdd⟩ := disk_maps h
 have hb4 : Box4 y (w.heap.size + 1 + 1 + 1 + 3) (w.heap.size + 1 + 1 + 1) (w.heap.size + 1 + 1 + 1 + 1) (w.heap.size + 1 + 1 + 1 + 2) A l.length cap c s k := ⟨cell_blk y6 0, cell_blk y3 0, cell_blk y4 0, cell_blk y5 0⟩
 have hlt4 : w.heap.size + 1 + 1 + 1 + 3 < y.heap.size ∧ w.heap.size + 1 + 1 + 1 < y.heap.size ∧ w.heap.size + 1 + 1 + 1 + 1 < y.heap.size ∧ w.heap.size + 1 + 1 + 1 + 2 < y.heap.size := by omega
 have hjy := hj.grown hgy
 have hjlt := hj.lt
 have hpi : PutW w y y Sd d mb mn D jb J sv rv 0 := ⟨(h.grown hgy).tightA, by rw [← c1]; exact (cell_kept0 hgy (by omega)), by rw [← c2]; exact (cell_kept0 hgy (by omega)), fun b hb => .inl ((h.grown hgy).tightA_sub hb), Off.refl _ _, hjy⟩
 have HY := Lib.hid (And.intro hsy hgy)
 have HBX : Hid (∀ v, Off (fun b => Sd b ∨ b = jb) y v → v.heap[w.heap.size]? = some (.cells #[.pointer (some ⟨jb, 0, none⟩)] 22) ∧ v.heap[w.heap.size + 1]? = some (.cells #[.int .i64 (a : Int)] 3) ∧ v.heap[w.heap.size + 1 + 1]? = some (.cells #[.int .i64 (at0 : Int)] 3)) := fun v hv =>
  have hx : ∀ x, w.heap.size ≤ x → ¬ (Sd x ∨ x = jb) := fun x hx h => by
   rcases h with h | h
   ·have := hlt _ h; omega
   ·omega
  ⟨(hv.block _ (by omega) (hx _ (by omega))).trans y0, (hv.block _ (by omega) (hx _ (by omega))).trans y1, (hv.block _ (by omega) (hx _ (by omega))).trans y2⟩
 have HB4 : Hid (∀ v v', Off (fun b => Sd b ∨ b = jb) y v → Off (fun b => Sd b ∨ b = jb) y v' → Keep4 (w.heap.size + 1 + 1 + 1 + 3) (w.heap.size + 1 + 1 + 1) (w.heap.size + 1 + 1 + 1 + 1) (w.heap.size + 1 + 1 + 1 + 2) v v') := fun v v' hv hv' => by
  have k : ∀ x, w.heap.size ≤ x → x < y.heap.size → v'.heap[x]? = v.heap[x]? := fun x h1 h2 => by
   rw [hv'.block x h2 (fun q => q.elim (fun q => by have := hlt _ q; omega) (fun q => by omega)), hv.block x h2 (fun q => q.elim (fun q => by have := hlt _ q; omega) (fun q => by omega))]
  exact ⟨k _ (by omega) (by omega), k _ (by omega) (by omega), k _ (by omega) (by omega), k _ (by omega) (by omega)⟩
 have hmby : mb < y.heap.size := by omega
 have hmny : mn < y.heap.size := by omega
 have hjby : jb < y.heap.size := by omega
 have HJBY := Lib.hid hjby
 have hAy : (l = [] ∧ cap = 0) ∨ ∃ g off, A = some ⟨g, off, none⟩ := hA.imp id (fun ⟨g, off, e, _⟩ => ⟨g, off, e⟩)
 clear hA hs hk hj hjs h hwr ha hlt y0 y1 y2 y3 y4 y5 y6 c1 c2 hjy hjlt hsy hgy
 refine wpIn_rangeFunc_ownH (α := Ix l.length) rfl (by decide) (gf := 88) (lb := #[.pointer (some ⟨w.heap.size + 1 + 1 + 1 + 3, 0, none⟩), .pointer (some ⟨w.heap.size + 1 + 1 + 1, 0, none⟩), .pointer (some ⟨w.heap.size + 1 + 1 + 1 + 1, 0, none⟩), .pointer (some ⟨w.heap.size + 1 + 1 + 1 + 2, 0, none⟩)]) rfl trivial (enters_of Tryz.func88 (by kernel_rfl) rfl)
  (parts_stops (4 - 1) (by decide) _ _ _ _ A l cap c s k (by omega) hcap hcm hAy y hlt4 hb4) keep4_t (keep4_b hlt4) (Below.refl _ _) (fun _ => rfl)
  (fun pre W => PutW w y W Sd d mb mn (putsE D (a * (D.n / 2) + at0) (fun i => partB c s k i (parts l.length) (chunk l i)) (pre.map (·.1))).2 jb J sv rv (putsE D (a * (D.n / 2) + at0) (fun i => partB c s k i (parts l.length) (chunk l i)) (pre.map (·.1))).1)
  (fun _ _ _ => False)
  ?own (fun _ _ _ _ _ hs _ _ => hs) hpi
  (fun x a' W => ∃ pb, y.heap.size ≤ pb ∧ W.heap[pb]? = some (.cells #[.int .u8 (c.toNat : Int), .int .i64 (s : Int), .int .i64 (k : Int), .int .i64 (x.1 : Int), .int .i64 ((parts l.length : Nat) : Int), pslice A cap l x.1] 93) ∧
   a' = { tmps := #[.pointer (some ⟨jb, 0, none⟩), .int .i64 (a : Int), .int .i64 (at0 : Int), .int .u8 (c.toNat : Int), .int .i64 (s : Int), .int .i64 (k : Int), .slice A l.length cap, .pointer (some ⟨w.heap.size, 0, none⟩), .pointer (some ⟨w.heap.size + 1, 0, none⟩), .pointer (some ⟨w.heap.size + 1 + 1, 0, none⟩), undef, undef, undef, undef, .pointer (some ⟨pb, 0, none⟩), .int .u8 (c.toNat : Int), .int .i64 (s : Int), .int .i64 (k : Int), .slice A l.length cap, .func (.func 88) #[] #[.pointer (some ⟨w.heap.size + 1 + 1 + 1 + 3, 0, none⟩), .pointer (some ⟨w.heap.size + 1 + 1 + 1, 0, none⟩), .pointer (some ⟨w.heap.size + 1 + 1 + 1 + 1, 0, none⟩), .pointer (some ⟨w.heap.size + 1 + 1 + 1 + 2, 0, none⟩)], .agg #[.int .u8 (c.toNat : Int), .int .i64 (s : Int), .int .i64 (k : Int), .int .i64 (x.1 : Int), .int .i64 ((parts l.length : Nat) : Int), pslice A cap l x.1], undef, undef, undef, undef, undef, undef, undef, undef, undef, undef, undef, undef, undef, undef, undef, undef, undef, undef, undef, undef, undef, undef, undef, undef], defers := [] })
  ?ax ?assign ?body ?done ?stop
 case own =>
  intro pre W W' row hi hg hr
  exact hi.own hmby hmny hjby hg hr
 case ax =>
  rintro x a' _ W W' row ⟨pb, hpb, hc, e⟩ hg hr
  refine ⟨pb, hpb, (hg.block pb (Array.getElem?_eq_some_iff.1 hc).1 (fun e => ?_)).trans hc, e⟩
  obtain ⟨_, o, ho, hcc⟩ := hr pb e.symm
  rw [hc] at ho
  cases ho
  cases hcc
 case assign =>
  intro lp pre x W K hi hK
  obtain ⟨A', n', cap', hp⟩ : ∃ A' n' cap', pslice A cap l x.1 = .slice A' n' cap' := by
   unfold pslice
   split
   ·exact ⟨_, _, _, rfl⟩
   ·split
    ·exact ⟨_, _, _, rfl⟩
    ·exact ⟨_, _, _, rfl⟩
  have HK := Lib.hid hK
  have HP := Lib.hid hp
  clear hK
  simp only [pencs, hp]
  clear hp
  gi_wp2
  have hgW := World.grownBy_alloc W (.cells #[.int .u8 (c.toNat : Int), .int .i64 (s : Int), .int .i64 (k : Int), .int .i64 (x.1 : Int), .int .i64 ((parts l.length : Nat) : Int), .slice A' n' cap'] 93) none
  refine HK.out _ _ (KeepsFrom.of_grownBy hgW (by simp)) ?_ (hi.own hmby hmny hjby hgW (by simp)) ⟨W.heap.size, hi.off.size, ?_, ?_⟩
  ·exact HB4.out _ _ hi.off (hi.off.trans (Off.of_grown hgW (by simp)))
  ·rw [HP.out]
   exact (MapKept.heap_alloc W _).1
  ·rw [HP.out]
 case body =>
  rintro lp pre ⟨i, hix⟩ a' W hlp _ hi ⟨pb, hpb, hpc, rfl⟩ hlen
  obtain ⟨b0, b1, b2⟩ := HBX.out W hi.off
  have k0 : W.cell? ⟨w.heap.size, 0, none⟩ = some (.pointer (some ⟨jb, 0, none⟩)) := cell_blk b0 0
  obtain ⟨q1, q4⟩ := putsE_size D (a * (D.n / 2) + at0) (fun i => partB c s k i (parts l.length) (chunk l i)) (pre.map (·.1))
  obtain ⟨X, hX⟩ : ∃ X, X = putsE D (a * (D.n / 2) + at0) (fun i => partB c s k i (parts l.length) (chunk l i)) (pre.map (·.1)) := ⟨_, rfl⟩
  rw [← hX] at q1 q4 hi
  have HX := Lib.hid hX
  obtain ⟨br, DW⟩ := X
  dsimp only at q1 q4 hi
  have k9 : W.cell? ⟨jb, 9, none⟩ = some (.int .i64 br) := cell_blk hi.jbe 9
  clear hX
  by_cases hbr : br = 0
  case neg =>
   have d9 : (br == 0) = false := by simp [hbr]
   have HI := Lib.hid hi
   have HBR := Lib.hid hbr
   clear hi hbr q1 q4 b0 b1 b2 hlen hpb hpc
   gi_wp2
   refine ⟨KeepsFrom.refl _ _, HB4.out _ _ HI.out.off HI.out.off, ?_⟩
   have hp := HI.out
   have e2 : putsE D (a * (D.n / 2) + at0) (fun i => partB c s k i (parts l.length) (chunk l i)) ((pre ++ [⟨i, hix⟩] : List (Ix l.length)).map (·.1)) = (br, DW) := by
    rw [List.map_append]
    show putsE D _ _ (pre.map (·.1) ++ [i]) = _
    rw [putsE_snoc, ← HX.out, putE, if_neg HBR.out]
   show PutW w y _ Sd d mb mn (putsE _ _ _ ((pre ++ [⟨i, hix⟩] : List (Ix l.length)).map (·.1))).2 jb J sv rv (putsE _ _ _ ((pre ++ [⟨i, hix⟩] : List (Ix l.length)).map (·.1))).1
   rw [e2]
   exact hp
  subst hbr
  have HI := Lib.hid hi
  have HIX := Lib.hid hix
  have HPB := Lib.hid hpb
  have HPC := Lib.hid hpc
  have HQ := Lib.hid q1
  have HQW : Hid (DW.wr.length < 1000000) := by
   show _ < _
   have h1 := HWR.out
   have h2 := parts_le l.length
   have h3 : parts l.length ≤ 58825 := by have := HLN.out; unfold parts; omega
   rw [List.length_map] at q4
   omega
  have HSZ : Hid (y.heap.size ≤ W.heap.size) := hi.off.size
  have HC : Hid (∀ v : World, Off (fun b => Sd b ∨ b = jb) y v → (∃ br, JBE v jb d J sv rv br) → v.heap[pb]? = some (.cells #[.int .u8 (c.toNat : Int), .int .i64 (s : Int), .int .i64 (k : Int), .int .i64 (i : Int), .int .i64 ((parts l.length : Nat) : Int), pslice A cap l i] 93) → v.cell? ⟨w.heap.size, 0, none⟩ = some (Value.pointer (some ⟨jb, 0, none⟩)) ∧ v.cell? ⟨w.heap.size + 1, 0, none⟩ = some (Value.int .i64 (a : Int)) ∧ v.cell? ⟨w.heap.size + 2, 0, none⟩ = some (Value.int .i64 (at0 : Int)) ∧ v.cell? ⟨jb, 0, none⟩ = some (Value.pointer (some ⟨d, 0, none⟩)) ∧ v.cell? ⟨pb, 0, none⟩ = some (Value.int .u8 (c.toNat : Int)) ∧ v.cell? ⟨pb, 1, none⟩ = some (Value.int .i64 (s : Int)) ∧ v.cell? ⟨pb, 2, none⟩ = some (Value.int .i64 (k : Int)) ∧ v.cell? ⟨pb, 3, none⟩ = some (Value.int .i64 (i : Int)) ∧ v.cell? ⟨pb, 4, none⟩ = some (Value.int .i64 ((parts l.length : Nat) : Int)) ∧ v.cell? ⟨pb, 5, none⟩ = some (pslice A cap l i)) := fun v hv hjW hp => by
   obtain ⟨b0, b1, b2⟩ := HBX.out v hv
   obtain ⟨_, hjW⟩ := hjW
   exact ⟨cell_blk b0 0, cell_blk b1 0, cell_blk b2 0, cell_blk hjW 0, cell_blk hp 0, cell_blk hp 1, cell_blk hp 2, cell_blk hp 3, cell_blk hp 4, cell_blk hp 5⟩
  have hdg : W.grownBy W.drew none := ⟨rfl, rfl, rfl, Nat.le_refl _, fun _ _ _ => rfl⟩
  have HWO : Hid (Off (fun b => Sd b ∨ b = jb) y W.drew) := hi.off.trans (Off.of_grown hdg (by simp))
  have HD1 : Hid (DiskAt W.drew (TightA W d) d DW) := hi.disk.grown hdg
  have HJ1 : Hid (JBlk W.drew jb d J sv rv) := hi.jbe
  have HN : Hid (DW.n ≤ 16384) := hi.disk.1
  have HLTW : Hid (a * (DW.n / 2) + at0 + i < DW.n) := by
   show _ < _
   have h1 := HAA.out
   have h2 := HIX.out
   rw [q1]
   omega
  have HEQ : Hid ((a : Int) * ((DW.n : Int) / 2) = ((a * (DW.n / 2) : Nat) : Int)) := by
   show _ = _
   rw [Int.natCast_mul, Int.natCast_ediv]
   rfl
  have HM1 : Hid (IntKind.i64.wrap ((a : Int) * ((DW.n : Int) / 2)) = (a : Int) * ((DW.n : Int) / 2)) := by
   show _ = _
   have h1 := HLTW.out
   have h2 := HN.out
   rw [HEQ.out, IntKind.wrap_i64]
   omega
  have HM2 : Hid (IntKind.i64.wrap ((a : Int) * ((DW.n : Int) / 2) + (at0 : Int)) = (a : Int) * ((DW.n : Int) / 2) + (at0 : Int)) := by
   show _ = _
   have h1 := HLTW.out
   have h2 := HN.out
   rw [HEQ.out, IntKind.wrap_i64]
   omega
  have HM3 : Hid (IntKind.i64.wrap ((a : Int) * ((DW.n : Int) / 2) + (at0 : Int) + (i : Int)) = (a : Int) * ((DW.n : Int) / 2) + (at0 : Int) + (i : Int)) := by
   show _ = _
   have h1 := HLTW.out
   have h2 := HN.out
   rw [HEQ.out, IntKind.wrap_i64]
   omega
  have HM4 : Hid ((a : Int) * ((DW.n : Int) / 2) + (at0 : Int) + (i : Int) = ((a * (DW.n / 2) + at0 + i : Nat) : Int)) := by
   show _ = _
   rw [HEQ.out]
   omega
  obtain ⟨A', cap', hps, hsrc⟩ := bytes_src (w := w) (v := W.drew) (cap := cap) (i := i) (HA.out.imp id (fun ⟨g, off, e, h1, _, h2⟩ => ⟨g, off, e, h1, h2⟩)) (fun h0 => List.eq_nil_of_length_eq_zero (by have h1 := HCP.out; omega)) (fun g off e => by
   rcases HA.out with ⟨e2, _⟩ | ⟨g2, off2, e2, hg2, hs2, hr2⟩
   ·intro j x hj
    rw [e2] at hj
    simp [u8s] at hj
   ·rw [e2] at e
    cases e
    intro j x hj
    have h1 := HY.out.2.cell (hr2 j x hj) (by simp)
    exact (World.cell?_of_block (w := y) (w' := W.drew) (a := ⟨g, off + j, none⟩) (HWO.out.block g (by have := HY.out.1; omega) hs2)).trans h1)
  have HPS := Lib.hid hps
  have HSRC : Hid ((chunk l i = [] ∧ cap' = 0) ∨ ∃ g off, A' = some ⟨g, off, none⟩ ∧ g < W.drew.heap.size ∧ W.drew.rangeAt g off (u8s (chunk l i))) := hsrc.imp id (fun ⟨g, off, e, h1, h2⟩ => ⟨g, off, e, by have h3 := HSZ.out; have h4 := HY.out.1; show g < W.heap.size; omega, h2⟩)
  clear hps hsrc hdg hi hpb hpc q1 q4 b0 b1 b2 hlen
  gi_wp2
  refine wpIn_region_round (S := fun w' => w'.cell? ⟨w.heap.size, 0, none⟩ = some (Value.pointer (some ⟨jb, 0, none⟩)) ∧ w'.cell? ⟨w.heap.size + 1, 0, none⟩ = some (Value.int .i64 (a : Int)) ∧ w'.cell? ⟨w.heap.size + 2, 0, none⟩ = some (Value.int .i64 (at0 : Int)) ∧ w'.cell? ⟨jb, 0, none⟩ = some (Value.pointer (some ⟨d, 0, none⟩)) ∧ w'.cell? ⟨pb, 0, none⟩ = some (Value.int .u8 (c.toNat : Int)) ∧ w'.cell? ⟨pb, 1, none⟩ = some (Value.int .i64 (s : Int)) ∧ w'.cell? ⟨pb, 2, none⟩ = some (Value.int .i64 (k : Int)) ∧ w'.cell? ⟨pb, 3, none⟩ = some (Value.int .i64 (i : Int)) ∧ w'.cell? ⟨pb, 4, none⟩ = some (Value.int .i64 ((parts l.length : Nat) : Int)) ∧ w'.cell? ⟨pb, 5, none⟩ = some (pslice A cap l i)) (fun ⟨_, _, h⟩ => h) (by kernel_rfl) (by kernel_rfl) ?hSa (fun hHeld => ?_)
  case hSa => exact HC.out _ HWO.out ⟨_, HI.out.jbe⟩ HPC.out
  refine ztk 0 rfl ?_
  refine ztk 1 rfl ?_
  refine ztk 2 rfl ?_
  refine ztk 3 rfl ?_
  refine ztk 4 rfl ?_
  refine ztk 5 rfl ?_
  refine ztk 6 rfl ?_
  refine ztk 9 rfl ?_
  refine ztk 11 rfl ?_
  refine ztk 12 rfl ?_
  refine ztk 14 rfl ?_
  refine zrd 7 rfl (fun K hK => ?_)
  go_simp
  refine (half_at _ d DW jb J sv rv W.drew HD1.out HJ1.out).mono ?_
  rintro e wq ⟨rfl, hwq⟩
  have hwq := hwq.symm
  subst hwq
  go_wp2_with fail
  refine hK.out _ _ ?q (fun hHeld => ?_)
  case q => (try dsimp only); exact HC.out _ HWO.out ⟨_, HI.out.jbe⟩ HPC.out
  clear hK K
  try simp only [zpt]
  refine ztk 8 rfl ?_ (v := Value.int .i64 ((a : Int) * ((DW.n : Int) / 2))) (hy := ?hya8)
  case hya8 => (intro wS hSw; (try dsimp only at hSw); go_simp; rw [HM1.out])
  refine ztk 10 rfl ?_ (v := Value.int .i64 ((a : Int) * ((DW.n : Int) / 2) + (at0 : Int))) (hy := ?hya10)
  case hya10 => (intro wS hSw; (try dsimp only at hSw); go_simp; rw [HM2.out])
  refine ztk 13 rfl ?_ (v := Value.int .i64 ((a : Int) * ((DW.n : Int) / 2) + (at0 : Int) + (i : Int))) (hy := ?hya13)
  case hya13 => (intro wS hSw; (try dsimp only at hSw); go_simp; rw [HM3.out])
  refine zrd 15 rfl (fun K hK => ?_)
  go_simp
  rw [HPS.out]
  refine (part_bytes_at c s k i (parts l.length) (chunk l i) A' cap' HS.out.1 HS.out.2 (by have h1 := HIX.out; have h2 := parts_le l.length; have h3 := HLN.out; omega) (by have h2 := parts_le l.length; have h3 := HLN.out; omega) (chunk_le l i) W.drew HSRC.out).mono ?_
  rintro e w2 ⟨v2, rfl, hr2, hb2⟩
  obtain ⟨g2, cap2, rfl, hc2, hm2, hlo2, hhi2, hrg2⟩ := hr2.some (by have := partB_length c s k i (parts l.length) (chunk l i) (chunk_le l i); intro e; rw [e] at this; cases this)
  have HB2 := Lib.hid hb2
  have HD2 := Lib.hid (HD1.out.beside (Below.to_grown hb2))
  have HR2 : Hid (RowB w2 (Beside (TightA W d) W.drew.heap.size w2.heap.size) (some ⟨g2, 0, none⟩) (partB c s k i (parts l.length) (chunk l i))) := .inr ⟨g2, 0, rfl, beside_not hlo2 hhi2, hrg2⟩
  have HO2 : Hid (Off (fun b => Sd b ∨ b = jb) y w2) := HWO.out.trans ⟨hb2.os, hb2.tape, hb2.output, hb2.size, fun q hq _ => hb2.block q hq⟩
  have HJ2 : Hid (JBE w2 jb d J sv rv 0) := (hb2.block jb (Nat.lt_of_lt_of_le HJBY.out HI.out.off.size)).trans HI.out.jbe
  have HP2 : Hid (w2.heap[pb]? = _) := (hb2.block pb (Array.getElem?_eq_some_iff.1 HPC.out).1).trans HPC.out
  clear hr2 hb2 hc2 hm2 hlo2 hhi2 hrg2
  go_wp2_with fail
  refine hK.out _ _ ?q (fun hHeld => ?_)
  case q => (try dsimp only); exact HC.out _ HO2.out ⟨_, HJ2.out⟩ HP2.out
  clear hK K
  try simp only [zpt]
  refine zrd 16 rfl (fun K hK => ?_)
  go_simp
  rw [HM4.out]
  refine (write_kept_any _ d ((a * (DW.n / 2) + at0 + i : Nat) : Int) DW (partB c s k i (parts l.length) (chunk l i)) (some ⟨g2, 0, none⟩) cap2 w2 HD2.out HR2.out beside_new HQW.out).mono ?_
  rintro e w3 ⟨rfl, hd3, ho3, hk1, hk2⟩
  have HPI3 := Lib.hid (HI.out.step hjby HJS.out HB2.out hd3 ho3 hk1 hk2)
  have HP3 := Lib.hid (part_keptW HI.out HPC.out HP2.out ho3)
  have HKF := Lib.hid (put_keepsW HI.out HB2.out ho3 hmby hmny)
  obtain ⟨r3, hr3⟩ : ∃ r, r = wrote DW ((a * (DW.n / 2) + at0 + i : Nat) : Int) (partB c s k i (parts l.length) (chunk l i)) := ⟨_, rfl⟩
  rw [← hr3] at HPI3 ⊢
  have HR3 := Lib.hid hr3
  clear hd3 ho3 hk1 hk2 hr3
  go_wp2_with fail
  refine hK.out _ _ ?q (fun hHeld => ?_)
  case q => (try dsimp only); exact HC.out _ HPI3.out.off ⟨_, HPI3.out.jbe⟩ HP3.out
  clear hK K
  try simp only [zpt]
  refine ztk 17 rfl ?_
  refine ztk 18 rfl ?_
  refine zrd 19 rfl (fun K hK => ?_)
  have c9 : w3.cell? ⟨jb, 9, none⟩ = some (.int .i64 0) := cell_blk HPI3.out.jbe 9
  have f9 : w3.frozen? ⟨jb, 9, none⟩ = false := frozen_blk HPI3.out.jbe 9
  go_simp
  clear c9 f9
  have HPI4 := Lib.hid (HPI3.out.broke r3.1)
  have HG4 := Lib.hid (grown_set w3 jb 9 (.int .i64 r3.1))
  have HP4 : Hid ((w3.setCell ⟨jb, 9, none⟩ (.int .i64 r3.1)).heap[pb]? = _) := (heap_setCell_other w3 ⟨jb, 9, none⟩ pb _ (fun e => by have h1 := HPB.out; have h2 := HJBY.out; have h3 : pb = jb := e; omega)).trans HP3.out
  refine hK.out _ _ ?q (fun hHeld => ?_)
  case q => (try dsimp only); exact HC.out _ HPI4.out.off ⟨_, HPI4.out.jbe⟩ HP4.out
  clear hK K
  try simp only [zpt]
  refine wpAnyH_done (by kernel_rfl) ?_ _
  refine NoPanic.normal ?_
  clear hHeld
  gi_wp2
  refine ⟨HKF.out.trans (KeepsFrom.of_grownBy HG4.out (fun j e => by cases e; exact HJBY.out)), HB4.out _ _ HI.out.off HPI4.out.off, ?_⟩
  have hp := HPI4.out
  have e2 : putsE D (a * (D.n / 2) + at0) (fun i => partB c s k i (parts l.length) (chunk l i)) ((pre ++ [⟨i, hix⟩] : List (Ix l.length)).map (·.1)) = r3 := by
   rw [List.map_append]
   show putsE D _ _ (pre.map (·.1) ++ [i]) = _
   rw [putsE_snoc, ← HX.out, putE, if_pos rfl, HR3.out, ← HQ.out]
  show PutW w y _ Sd d mb mn (putsE _ _ _ ((pre ++ [⟨i, hix⟩] : List (Ix l.length)).map (·.1))).2 jb J sv rv (putsE _ _ _ ((pre ++ [⟨i, hix⟩] : List (Ix l.length)).map (·.1))).1
  rw [e2]
  exact hp
 case done =>
  rintro Dd ys W hD hys hi hKd
  gi_wp2
  have hg := grownBy_putObj' W Dd (.deferred none)
  refine ⟨by simp, .inl ⟨_, _, rfl, run_takeDeferred hKd, ?_⟩⟩
  have hi2 := hi.own hmby hmny hjby hg (fun r e => by cases e; exact ⟨hD, _, hKd, rfl⟩)
  rw [hys] at hi2
  exact ⟨_, results_none rfl _ _ _, rfl, _, hi2.disk, hi2.jbe, fun b hb => ⟨(hi2.sub b hb).imp id (fun h => by have := HY.out.1; omega), hi2.disk.tightA_lt hb⟩, fun hb => by rcases hi2.disk.tightA_kind hb hi2.jbe with e | e | e <;> exact absurd e (by decide), (Off.of_grown HY.out.2 (by simp)).trans hi2.off⟩
 case stop =>
  rintro _ _ _ _ _ _ h _
  exact h.elim
end Go.Proofs.YtgdedgfohjplmaaGreat.Jnl
namespace Go.Proofs.YtgdedgfohjplmaaGreat.Jnl
open Go.RowKit Go.Maps Sec
def SealEnd (w w' : World) (Sd : Nat → Prop) (d jb : Nat) (J : Jn) (sv rv : Value) (x : Int × Dsk) : Prop :=
 ∃ Sd', DiskAt w' Sd' d x.2 ∧ JBE w' jb d J sv rv x.1 ∧ (∀ b, Sd' b → (Sd b ∨ w.heap.size ≤ b) ∧ b < w'.heap.size) ∧ ¬ Sd' jb ∧ Off (fun b => Sd b ∨ b = jb) w w'
section
variable {w y w2 w3 : World} {Sd : Nat → Prop} {d jb : Nat} {J : Jn} {sv rv : Value} {x : Int × Dsk}
theorem seal_done (hgy : w.grownBy y none) (hjlt : jb < y.heap.size) (hjs : ¬ Sd jb) (hj : JBlk y jb d J sv rv) (hb2 : Below y.drew.heap.size y.drew w2) (hd3 : DiskAt w3 (Beside Sd y.drew.heap.size w2.heap.size) d x.2) (ho3 : Off Sd y w3) : SealEnd w (w3.setCell ⟨jb, 9, none⟩ (.int .i64 x.1)) Sd d jb J sv rv x := by
 have hg := grown_set w3 jb 9 (.int .i64 x.1)
 have hyw : y.heap.size ≤ w2.heap.size := hb2.size
 have hnb : ¬ Beside Sd y.drew.heap.size w2.heap.size jb := fun h => h.elim (fun h => hjs h.1) (fun h => by omega)
 have hd4 := hd3.off (w' := w3.setCell ⟨jb, 9, none⟩ (.int .i64 x.1)) (T := fun b => b = jb) (Off.of_grown hg (fun k e => by cases e; rfl)) (fun b _ hb e => hnb (e ▸ hb))
 have hj3 : JBE w3 jb d J sv rv 0 := (ho3.block jb hjlt hjs).trans hj
 refine ⟨fun b => Beside Sd y.drew.heap.size w2.heap.size b ∧ b < (w3.setCell ⟨jb, 9, none⟩ (.int .i64 x.1)).heap.size, hd4.mono (fun _ hk hs => ⟨hs, hk⟩), hj3.set x.1, fun b hb => ⟨?_, hb.2⟩, fun h => hnb h.1, ?_⟩
 ·rcases hb.1 with hb | hb
  ·exact .inl hb.1
  ·exact .inr (by have := hgy.size; omega)
 ·exact (((Off.of_grown hgy (S := fun _ => False) (by simp)).mono (fun _ _ h => h.elim)).trans (ho3.mono (fun _ _ h => .inl h))).trans (Off.of_grown hg (fun k e => by cases e; exact .inr rfl))
end
theorem sealb_at (jb d : Nat) (J : Jn) (sv rv : Value) (br : Int) (hbr : br ≠ 0) (a g o f n : Int) (w : World) (hj : JBE w jb d J sv rv br) :
  Calls Tryz.prog 27 #[.pointer (some ⟨jb, 0, none⟩), .int .i64 a, .agg #[.int .i64 g, .int .i64 o, .int .i64 f, .int .i64 n]] w fun e w' => e = .returned (.tuple #[]) ∧ w.grownBy w' none := by
 have hgy := World.grownBy_alloc w (.cells #[.int .i64 g, .int .i64 o, .int .i64 f, .int .i64 n] 47) none
 obtain ⟨y, hy⟩ : ∃ y, y = w.alloc (.cells #[.int .i64 g, .int .i64 o, .int .i64 f, .int .i64 n] 47) := ⟨_, rfl⟩
 rw [← hy] at hgy
 have HY := Lib.hid hy.symm
 have HG := Lib.hid hgy
 have c9 : y.cell? ⟨jb, 9, none⟩ = some (.int .i64 br) := cell_blk ((hgy.block jb (Array.getElem?_eq_some_iff.1 hj).1 (by simp)).trans hj) 9
 have d9 : (br == 0) = false := by simp [hbr]
 clear hgy hy hj hbr
 go_enter Tryz.func27, Tryz.ntmps27
 go_upto_region 1 with fail
 rw [HY.out]
 go_wp2_with fail
 go_end0
 exact ⟨rfl, HG.out⟩
theorem sealw_at (Sd : Nat → Prop) (d : Nat) (D : Dsk) (jb : Nat) (J : Jn) (sv rv : Value) (a g o f n : Nat) (hg : g < 9223372036854775808) (ho : o < 9223372036854775808) (hf : f < 9223372036854775808) (hn : n < 9223372036854775808) (w : World) (h : DiskAt w Sd d D) (hlt : ∀ b, Sd b → b < w.heap.size) (hj : JBlk w jb d J sv rv) (hjs : ¬ Sd jb) (ha : a * (D.n / 2) < D.n) (hwr : D.wr.length < 1000000) :
  Calls Tryz.prog 27 #[.pointer (some ⟨jb, 0, none⟩), .int .i64 (a : Int), .agg #[.int .i64 (g : Int), .int .i64 (o : Int), .int .i64 (f : Int), .int .i64 (n : Int)]] w fun e w' => e = .returned (.tuple #[]) ∧ SealEnd w w' Sd d jb J sv rv (wrote D ((a * (D.n / 2) : Nat) : Int) (headB g o f n)) := by
 have HG := Lib.hid (And.intro hg (And.intro ho (And.intro hf hn)))
 have HLT := Lib.hid ha
 have HW := Lib.hid hwr
 have HM1 := Lib.hid (mul_wrap ha h.1)
 have HM3 : Hid ((a : Int) * ((D.n : Int) / 2) = ((a * (D.n / 2) : Nat) : Int)) := by
  show _ = _
  rw [Int.natCast_mul, Int.natCast_ediv]
  rfl
 have hc := (MapKept.heap_alloc w (.cells #[.int .i64 (g : Int), .int .i64 (o : Int), .int .i64 (f : Int), .int .i64 (n : Int)] 47)).1
 have hgy := World.grownBy_alloc w (.cells #[.int .i64 (g : Int), .int .i64 (o : Int), .int .i64 (f : Int), .int .i64 (n : Int)] 47) none
 obtain ⟨y, hy⟩ : ∃ y, y = w.alloc (.cells #[.int .i64 (g : Int), .int .i64 (o : Int), .int .i64 (f : Int), .int .i64 (n : Int)] 47) := ⟨_, rfl⟩
 have hsy : y.heap.size = w.heap.size + 1 := by rw [hy]; exact World.size_alloc ..
 rw [← hy] at hc hgy
 have HY := Lib.hid hy.symm
 have HGY := Lib.hid hgy
 have HDY : Hid (DiskAt y.drew Sd d D) := (h.grown hgy).grown ⟨rfl, rfl, rfl, Nat.le_refl _, fun _ _ _ => rfl⟩
 have hjy := hj.grown hgy
 have HBY : Hid (JBlk y.drew jb d J sv rv) := hjy
 have c9 : y.cell? ⟨jb, 9, none⟩ = some (.int .i64 0) := hjy.cell 9
 have hcs : ∀ v : World, v.heap[w.heap.size]? = some (.cells #[.int .i64 (g : Int), .int .i64 (o : Int), .int .i64 (f : Int), .int .i64 (n : Int)] 47) → JBlk v jb d J sv rv → v.cell? ⟨jb, 0, none⟩ = some (Value.pointer (some ⟨d, 0, none⟩)) ∧ v.cell? ⟨w.heap.size, 0, none⟩ = some (Value.int .i64 (g : Int)) ∧ v.cell? ⟨w.heap.size, 1, none⟩ = some (Value.int .i64 (o : Int)) ∧ v.cell? ⟨w.heap.size, 2, none⟩ = some (Value.int .i64 (f : Int)) ∧ v.cell? ⟨w.heap.size, 3, none⟩ = some (Value.int .i64 (n : Int)) := fun v h1 h2 => ⟨h2.cell 0, cell_blk h1 0, cell_blk h1 1, cell_blk h1 2, cell_blk h1 3⟩
 have HC : Hid (∀ v, Below y.heap.size y v → _) := fun v hv => hcs v ((hv.block w.heap.size (by omega)).trans hc) ((hv.block jb hjy.lt).trans hjy)
 have HJO : Hid (∀ v, Off Sd y v → JBlk v jb d J sv rv) := fun v hv => hjy.off hv hjs
 have HJS := Lib.hid hjs
 have HJLT := Lib.hid hjy.lt
 have hcs2 : ∀ v : World, v.heap[w.heap.size]? = some (.cells #[.int .i64 (g : Int), .int .i64 (o : Int), .int .i64 (f : Int), .int .i64 (n : Int)] 47) → (∃ br, JBE v jb d J sv rv br) → v.cell? ⟨jb, 0, none⟩ = some (Value.pointer (some ⟨d, 0, none⟩)) ∧ v.cell? ⟨w.heap.size, 0, none⟩ = some (Value.int .i64 (g : Int)) ∧ v.cell? ⟨w.heap.size, 1, none⟩ = some (Value.int .i64 (o : Int)) ∧ v.cell? ⟨w.heap.size, 2, none⟩ = some (Value.int .i64 (f : Int)) ∧ v.cell? ⟨w.heap.size, 3, none⟩ = some (Value.int .i64 (n : Int)) := fun v h1 ⟨_, h2⟩ => ⟨cell_blk h2 0, cell_blk h1 0, cell_blk h1 1, cell_blk h1 2, cell_blk h1 3⟩
 have hjlt := hj.lt
 have HCO : Hid (∀ v, Off (fun b => Sd b ∨ b = jb) y v → (∃ br, JBE v jb d J sv rv br) → _) := fun v hv hb => hcs2 v ((hv.block w.heap.size (by omega) (fun x => x.elim (fun x => by have := hlt _ x; omega) (fun x => by omega))).trans hc) hb
 have HYD : Hid (Below y.heap.size y y.drew) := below_drew _ _
 clear hc hgy hsy hy hjy hcs hcs2 hjlt h hj hjs hlt
 go_enter Tryz.func27, Tryz.ntmps27
 go_upto_region 1 with fail
 rw [HY.out]
 go_wp2_with fail
 refine wp_region_noPanic ?_
 refine wp_region_held_drew (S := fun w' => w'.cell? ⟨jb, 0, none⟩ = some (Value.pointer (some ⟨d, 0, none⟩)) ∧ w'.cell? ⟨w.heap.size, 0, none⟩ = some (Value.int .i64 (g : Int)) ∧ w'.cell? ⟨w.heap.size, 1, none⟩ = some (Value.int .i64 (o : Int)) ∧ w'.cell? ⟨w.heap.size, 2, none⟩ = some (Value.int .i64 (f : Int)) ∧ w'.cell? ⟨w.heap.size, 3, none⟩ = some (Value.int .i64 (n : Int))) (by kernel_rfl) ?hSa (fun hHeld => ?_)
 case hSa => exact HC.out _ HYD.out
 refine ztk 0 rfl ?_
 refine ztk 1 rfl ?_
 refine ztk 2 rfl ?_
 refine ztk 3 rfl ?_
 refine ztk 4 rfl ?_
 refine ztk 5 rfl ?_
 refine ztk 6 rfl ?_
 refine ztk 9 rfl ?_
 refine zrd 7 rfl (fun K hK => ?_)
 go_simp
 refine (half_at Sd d D jb J sv rv y.drew HDY.out HBY.out).mono ?_
 rintro e wq ⟨rfl, hwq⟩
 have hwq := hwq.symm
 subst hwq
 go_wp2_with fail
 refine hK.out _ _ ?q (fun hHeld => ?_)
 case q => (try dsimp only); exact HC.out _ HYD.out
 clear hK K
 try simp only [zpt]
 refine ztk 8 rfl ?_ (v := Value.int .i64 ((a : Int) * ((D.n : Int) / 2))) (hy := ?hya8)
 case hya8 => (intro wS hSw; (try dsimp only at hSw); go_simp; rw [HM1.out])
 refine zrd 10 rfl (fun K hK => ?_)
 go_simp
 refine (head_bytes_at g o f n HG.out.1 HG.out.2.1 HG.out.2.2.1 HG.out.2.2.2 y.drew).mono ?_
 rintro e w2 ⟨v2, rfl, hr2, hb2⟩
 obtain ⟨g2, cap2, rfl, hc2, hm2, hlo2, hhi2, hrg2⟩ := hr2.some (by have := headB_length g o f n; intro e; rw [e] at this; cases this)
 have HB2 := Lib.hid hb2
 have HD2 := Lib.hid (HDY.out.beside (Below.to_grown hb2))
 have HR2 : Hid (RowB w2 (Beside Sd y.drew.heap.size w2.heap.size) (some ⟨g2, 0, none⟩) (headB g o f n)) := .inr ⟨g2, 0, rfl, beside_not hlo2 hhi2, hrg2⟩
 clear hr2 hb2 hc2 hm2 hlo2 hhi2 hrg2
 go_wp2_with fail
 refine hK.out _ _ ?q (fun hHeld => ?_)
 case q => (try dsimp only); exact HC.out _ (HYD.out.trans HB2.out)
 clear hK K
 try simp only [zpt]
 refine zrd 11 rfl (fun K hK => ?_)
 go_simp
 rw [HM3.out]
 refine (write_at _ d ((a * (D.n / 2) : Nat) : Int) D (headB g o f n) (some ⟨g2, 0, none⟩) cap2 w2 HD2.out HR2.out beside_new HW.out).mono ?_
 rintro e w3 ⟨rfl, hd3, ho3⟩
 have HD3 := Lib.hid hd3
 have HO3 : Hid (Off Sd y w3) := seal_off HB2.out ho3
 obtain ⟨r3, hr3⟩ : ∃ r, r = wrote D ((a * (D.n / 2) : Nat) : Int) (headB g o f n) := ⟨_, rfl⟩
 rw [← hr3] at HD3 ⊢
 have HR3 := Lib.hid hr3
 clear hd3 ho3 hr3
 go_wp2_with fail
 refine hK.out _ _ ?q (fun hHeld => ?_)
 case q => (try dsimp only); exact HCO.out _ (HO3.out.mono (fun _ _ h => .inl h)) ⟨_, HJO.out _ HO3.out⟩
 clear hK K
 try simp only [zpt]
 refine ztk 12 rfl ?_
 refine ztk 13 rfl ?_
 refine zrd 14 rfl (fun K hK => ?_)
 have c9 : w3.cell? ⟨jb, 9, none⟩ = some (.int .i64 0) := (HJO.out _ HO3.out).cell 9
 have f9 : w3.frozen? ⟨jb, 9, none⟩ = false := (HJO.out _ HO3.out).free 9
 go_simp
 clear c9 f9
 have HG4 := Lib.hid (grown_set w3 jb 9 (.int .i64 r3.1))
 refine hK.out _ _ ?q (fun hHeld => ?_)
 case q => (try dsimp only); exact HCO.out _ ((HO3.out.mono (fun _ _ h => .inl h)).trans (Off.of_grown HG4.out (fun k e => by cases e; exact .inr rfl))) ⟨_, JBE.set (HJO.out _ HO3.out).e r3.1⟩
 clear hK K
 try simp only [zpt]
 refine wpAnyH_done (by kernel_rfl) ?_ _
 refine NoPanic.normal ?_
 clear hHeld
 go_wp2_with fail
 go_end0
 rw [← HR3.out]
 exact ⟨rfl, seal_done HGY.out HJLT.out HJS.out HBY.out HB2.out HD3.out HO3.out⟩
section
variable {w w' : World} {S T Sd : Nat → Prop} {jb d : Nat} {J : Jn} {sv rv : Value} {vs : List Value} {br x : Int}
theorem JBE.off (h : JBE w jb d J sv rv br) (ho : Off T w w') (hT : ¬ T jb) : JBE w' jb d J sv rv br := (ho.block jb (Array.getElem?_eq_some_iff.1 h).1 hT).trans h
theorem off_same (hw : JBE w jb d J sv rv br) (hb : JBE w' jb d J sv rv br) (ho : Off (fun b => Sd b ∨ b = jb) w w') : Off Sd w w' :=
 ⟨ho.os, ho.tape, ho.output, ho.size, fun k hk hs => by
  by_cases e : k = jb
  ·rw [e, hb, hw]
  ·exact ho.block k hk (fun q => q.elim hs e)⟩
end
def putF (c : UInt8) (s k : Nat) (l : List UInt8) (i : Nat) : List UInt8 := partB c s k i (parts l.length) (chunk l i)
theorem put_ok (x : Int) (D' : Dsk) (Sd : Nat → Prop) (d : Nat) (D : Dsk) (jb : Nat) (J : Jn) (sv rv : Value) (a at0 : Nat) (c : UInt8) (s k : Nat) (l : List UInt8) (A : Option Addr) (cap : Nat) (hs : s < 9223372036854775808) (hk : k < 9223372036854775808) (hl : l.length < 6000000) (hcap : l.length ≤ cap) (hcm : cap ≤ maxLen) (w : World)
  (h : DiskAt w Sd d D) (hlt : ∀ b, Sd b → b < w.heap.size) (hj : JBlk w jb d J sv rv) (hjs : ¬ Sd jb) (ha : a * (D.n / 2) + at0 + parts l.length ≤ D.n) (hwr : D.wr.length + 60000 < 1000000)
  (hput : putsE D (a * (D.n / 2) + at0) (putF c s k l) (upto (parts l.length)) = (x, D'))
  (hA : (l = [] ∧ cap = 0) ∨ ∃ g off, A = some ⟨g, off, none⟩ ∧ g < w.heap.size ∧ ¬ (Sd g ∨ g = jb) ∧ w.rangeAt g off (u8s l)) :
  Calls Tryz.prog 26 #[.pointer (some ⟨jb, 0, none⟩), .int .i64 (a : Int), .int .i64 (at0 : Int), .int .u8 (c.toNat : Int), .int .i64 (s : Int), .int .i64 (k : Int), .slice A l.length cap] w fun e w' => e = .returned (.tuple #[]) ∧
   ∃ Sd', DiskAt w' Sd' d D' ∧ JBE w' jb d J sv rv x ∧ (∀ b, Sd' b → (Sd b ∨ w.heap.size ≤ b) ∧ b < w'.heap.size) ∧ ¬ Sd' jb ∧ Off (fun b => Sd b ∨ b = jb) w w' := by
 refine (putw_at Sd d D jb J sv rv a at0 c s k l A cap hs hk hl hcap hcm w h hlt hj hjs ha hwr hA).mono ?_
 rintro e w' ⟨rfl, Sd', h1, h2, h3⟩
 have e : (fun i => partB c s k i (parts l.length) (chunk l i)) = putF c s k l := rfl
 rw [e, hput] at h1 h2
 exact ⟨rfl, Sd', h1, h2, h3⟩
theorem seal_ok (x : Int) (D' : Dsk) (Sd : Nat → Prop) (d : Nat) (D : Dsk) (jb : Nat) (J : Jn) (sv rv : Value) (a g o f n : Nat) (hg : g < 9223372036854775808) (ho : o < 9223372036854775808) (hf : f < 9223372036854775808) (hn : n < 9223372036854775808) (w : World) (h : DiskAt w Sd d D) (hlt : ∀ b, Sd b → b < w.heap.size) (hj : JBlk w jb d J sv rv) (hjs : ¬ Sd jb) (ha : a * (D.n / 2) < D.n) (hwr : D.wr.length < 1000000)
  (hw : wrote D ((a * (D.n / 2) : Nat) : Int) (headB g o f n) = (x, D')) :
  Calls Tryz.prog 27 #[.pointer (some ⟨jb, 0, none⟩), .int .i64 (a : Int), .agg #[.int .i64 (g : Int), .int .i64 (o : Int), .int .i64 (f : Int), .int .i64 (n : Int)]] w fun e w' => e = .returned (.tuple #[]) ∧
   ∃ Sd', DiskAt w' Sd' d D' ∧ JBE w' jb d J sv rv x ∧ (∀ b, Sd' b → (Sd b ∨ w.heap.size ≤ b) ∧ b < w'.heap.size) ∧ ¬ Sd' jb ∧ Off (fun b => Sd b ∨ b = jb) w w' := by
 refine (sealw_at Sd d D jb J sv rv a g o f n hg ho hf hn w h hlt hj hjs ha hwr).mono ?_
 rintro e w' ⟨rfl, Sd', h1, h2, h3⟩
 rw [hw] at h1 h2
 exact ⟨rfl, Sd', h1, h2, h3⟩
theorem putsE_live (D : Dsk) (base : Nat) (f : Nat → List UInt8) (ho : D.off = false) (ha : D.armed = none) (M : Nat) (hM : base + M ≤ D.n) (hf : ∀ i, i < M → (f i).length = 128) : putsE D base f (upto M) = (0, pushes D base f (upto M)) := by
 induction M with
 | zero => rfl
 | succ M ih =>
  rw [upto_succ, putsE_snoc, pushes_snoc, ih (by omega) (fun i hi => hf i (by omega)), putE, if_pos rfl]
  obtain ⟨q1, q2, q3, _⟩ := pushes_n D base f (upto M)
  exact wrote_live _ (q2.trans ho) (q3.trans ha) (by rw [q1]; omega) (hf M (by omega))
theorem put_at (Sd : Nat → Prop) (d : Nat) (D : Dsk) (jb : Nat) (J : Jn) (sv rv : Value) (a at0 : Nat) (c : UInt8) (s k : Nat) (l : List UInt8) (A : Option Addr) (cap : Nat) (hs : s < 9223372036854775808) (hk : k < 9223372036854775808) (hl : l.length < 6000000) (hcap : l.length ≤ cap) (hcm : cap ≤ maxLen) (w : World)
  (h : DiskAt w Sd d D) (hlt : ∀ b, Sd b → b < w.heap.size) (hj : JBlk w jb d J sv rv) (hjs : ¬ Sd jb) (ha : a * (D.n / 2) + at0 + parts l.length ≤ D.n) (hoff : D.off = false) (harm : D.armed = none) (hwr : D.wr.length + 60000 < 1000000)
  (hA : (l = [] ∧ cap = 0) ∨ ∃ g off, A = some ⟨g, off, none⟩ ∧ g < w.heap.size ∧ ¬ (Sd g ∨ g = jb) ∧ w.rangeAt g off (u8s l)) :
  Calls Tryz.prog 26 #[.pointer (some ⟨jb, 0, none⟩), .int .i64 (a : Int), .int .i64 (at0 : Int), .int .u8 (c.toNat : Int), .int .i64 (s : Int), .int .i64 (k : Int), .slice A l.length cap] w fun e w' => e = .returned (.tuple #[]) ∧
   ∃ Sd', DiskAt w' Sd' d (pushes D (a * (D.n / 2) + at0) (fun i => partB c s k i (parts l.length) (chunk l i)) (upto (parts l.length))) ∧ (∀ b, Sd' b → (Sd b ∨ w.heap.size ≤ b) ∧ b < w'.heap.size) ∧ Off Sd w w' := by
 refine (put_ok 0 _ Sd d D jb J sv rv a at0 c s k l A cap hs hk hl hcap hcm w h hlt hj hjs ha hwr (putsE_live D _ _ hoff harm _ ha (fun i _ => partB_length _ _ _ _ _ _ (chunk_le l i))) hA).mono ?_
 rintro e w' ⟨rfl, Sd', h1, h2, h3, _, h5⟩
 exact ⟨rfl, Sd', h1, h3, off_same (JBlk.e hj) h2 h5⟩
theorem seal_at (Sd : Nat → Prop) (d : Nat) (D : Dsk) (jb : Nat) (J : Jn) (sv rv : Value) (a g o f n : Nat) (hg : g < 9223372036854775808) (ho : o < 9223372036854775808) (hf : f < 9223372036854775808) (hn : n < 9223372036854775808) (w : World) (h : DiskAt w Sd d D) (hlt : ∀ b, Sd b → b < w.heap.size) (hj : JBlk w jb d J sv rv) (hjs : ¬ Sd jb) (ha : a * (D.n / 2) < D.n) (hoff : D.off = false) (harm : D.armed = none) (hwr : D.wr.length < 1000000) :
  Calls Tryz.prog 27 #[.pointer (some ⟨jb, 0, none⟩), .int .i64 (a : Int), .agg #[.int .i64 (g : Int), .int .i64 (o : Int), .int .i64 (f : Int), .int .i64 (n : Int)]] w fun e w' => e = .returned (.tuple #[]) ∧ ∃ Sd', DiskAt w' Sd' d (D.push (a * (D.n / 2)) (headB g o f n)) ∧ (∀ b, Sd' b → (Sd b ∨ w.heap.size ≤ b) ∧ b < w'.heap.size) ∧ Off Sd w w' := by
 refine (seal_ok 0 _ Sd d D jb J sv rv a g o f n hg ho hf hn w h hlt hj hjs ha hwr (wrote_live D hoff harm ha (headB_length _ _ _ _))).mono ?_
 rintro e w' ⟨rfl, Sd', h1, h2, h3, _, h5⟩
 exact ⟨rfl, Sd', h1, h3, off_same (JBlk.e hj) h2 h5⟩
end Go.Proofs.YtgdedgfohjplmaaGreat.Jnl
namespace Go.Proofs.YtgdedgfohjplmaaGreat.Jnl
open Go
def jumpM (J : Nat → Act → World → Prop) (Q : Exit → Act → World → Prop) : Exit → Act → World → Prop
 | .goto l, a, w => J l a w
 | e, a, w => Q e a w
theorem scope_jumps {P : Program} {a : Act} {w : World} {Q : Exit → Act → World → Prop} {c : Code} (rest : Nat → Code) (J : Nat → Act → World → Prop) (μ : Nat → Act → World → Nat) (hf : ∀ l a w, J l a w → findLabel c l = some (rest l))
  (first : c.wp P (jumpM J Q) a w) (pass : ∀ l a w, J l a w → (rest l).wp P (jumpM (fun l' a' w' => J l' a' w' ∧ μ l' a' w' < μ l a w) Q) a w) : (Code.scope c).wp P Q a w := by
 intro b k cs
 have key : ∀ n l a w, μ l a w = n → J l a w → ∃ e a' w', Q e a' w' ∧ Arrives P (lone (b.at a (.code (rest l) :: .inScope c :: k)) cs w) b k cs e a' w' := by
  intro n
  induction n using Nat.strongRecOn with
  | _ n ih =>
   intro l a w hn hJ
   obtain ⟨e, a1, w1, hq, harr⟩ := pass l a w hJ b (.inScope c :: k) cs
   cases e with
   | goto l2 =>
    obtain ⟨hJ2, hlt⟩ := hq
    obtain ⟨e2, a2, w2, hq2, harr2⟩ := ih _ (by omega) l2 a1 w1 rfl hJ2
    exact ⟨e2, a2, w2, hq2, .of_steps (harr _ (by simp [gotoIn, hf l2 a1 w1 hJ2])) harr2⟩
   | normal => exact ⟨.normal, a1, w1, hq, Steps.trans harr (.one step_inScope)⟩
   | exit id => exact ⟨.exit id, a1, w1, hq, fun k2 hk => harr k2 (by simp [exitTo, hk])⟩
   | ret => exact ⟨_, a1, w1, hq, harr⟩
   | panic ch => exact ⟨_, a1, w1, hq, harr⟩
   | outgrown => exact ⟨_, a1, w1, hq, harr⟩
 obtain ⟨e, a1, w1, hq, harr⟩ := first b (.inScope c :: k) cs
 cases e with
 | goto l2 =>
  obtain ⟨e2, a2, w2, hq2, harr2⟩ := key _ l2 a1 w1 rfl hq
  exact ⟨e2, a2, w2, hq2, .of_steps (.head step_scope (harr _ (by simp [gotoIn, hf l2 a1 w1 hq]))) harr2⟩
 | normal => exact ⟨.normal, a1, w1, hq, .head step_scope (Steps.trans harr (.one step_inScope))⟩
 | exit id => exact ⟨.exit id, a1, w1, hq, fun k2 hk => .head step_scope (harr k2 (by simp [exitTo, hk]))⟩
 | ret => exact ⟨_, a1, w1, hq, .of_steps (.one step_scope) harr⟩
 | panic ch => exact ⟨_, a1, w1, hq, .of_steps (.one step_scope) harr⟩
 | outgrown => exact ⟨_, a1, w1, hq, .of_steps (.one step_scope) harr⟩
theorem scope_jumps2 {P : Program} {a : Act} {w : World} {Q : Exit → Act → World → Prop} {c rest1 rest0 : Code} (J1 J0 : Act → World → Prop) (μ : Act → World → Nat) (h1 : findLabel c 1 = some (Code.skip.seq rest1)) (h0 : findLabel c 0 = some rest0)
  (first : (∀ a w, J1 a w → rest1.wp P (jumpM (fun l a' w' => (l = 1 ∧ J1 a' w') ∨ (l = 0 ∧ J0 a' w')) Q) a w) → c.wp P (jumpM (fun l a w => (l = 1 ∧ J1 a w) ∨ (l = 0 ∧ J0 a w)) Q) a w)
  (pass1 : ∀ a w, J1 a w → rest1.wp P (jumpM (fun l a' w' => (l = 1 ∧ J1 a' w' ∧ μ a' w' < μ a w) ∨ (l = 0 ∧ J0 a' w')) Q) a w)
  (pass0 : ∀ a w, J0 a w → rest0.wp P (jumpM (fun _ _ _ => False) Q) a w) : (Code.scope c).wp P Q a w := by
 refine scope_jumps (fun l => if l = 1 then Code.skip.seq rest1 else rest0) (fun l a w => (l = 1 ∧ J1 a w) ∨ (l = 0 ∧ J0 a w)) (fun l a w => if l = 1 then μ a w + 1 else 0) ?_ (first fun a w hj => wp_mono (pass1 a w hj) ?_) ?_
 ·rintro l a w (⟨rfl, _⟩ | ⟨rfl, _⟩)
  ·exact h1
  ·exact h0
 ·intro e a w h
  cases e <;> first | exact h | exact h.imp (fun h => ⟨h.1, h.2.1⟩) id
 ·rintro l a w (⟨rfl, hj⟩ | ⟨rfl, hj⟩)
  ·refine wp_mono (wp_seq (wp_skip (pass1 a w hj))) fun e a' w' h => ?_
   cases e with
   | goto l2 =>
    rcases h with ⟨rfl, h2, h3⟩ | ⟨rfl, h2⟩
    ·exact ⟨.inl ⟨rfl, h2⟩, by simpa using h3⟩
    ·exact ⟨.inr ⟨rfl, h2⟩, by simp⟩
   | _ => exact h
  ·refine wp_mono (pass0 a w hj) fun e a' w' h => ?_
   cases e with
   | goto l2 => exact h.elim
   | _ => exact h
end Go.Proofs.YtgdedgfohjplmaaGreat.Jnl
