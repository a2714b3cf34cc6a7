/- The document's net: Off, Drop, Delay, Send. -/
import Derived.Test.YtonfpifikblnjaaNetRefMade
namespace Go.Proofs.Ytonfpifikblnjaa.Net
open Go.RowKit

def Rf.off (R : Rf) (i : Int) : (Nat × Bool) × Rf := if R.there i = true then ((((R.row 0)[i.toNat]?).getD 0, true), R.set 0 ((R.row 0).eraseIdx i.toNat)) else ((0, false), R)
def Rf.drop (R : Rf) (i : Int) : Int × Rf := (if (R.off i).1.2 = true then 0 else 5, (R.off i).2)
def Rf.send (R : Rf) (p : Pk) : Int × Rf := if R.is p.src = true ∧ R.is p.to = true then R.made p else (2, R)
def Rf.delay (R : Rf) (i : Int) : Int × Rf := (if (R.off i).1.2 = true then 0 else 5, if (R.off i).1.2 = true then (R.off i).2.set 0 ((R.off i).2.row 0 ++ [(R.off i).1.1]) else (R.off i).2)

theorem results_two {P : Program} {fn : Func} {a b : Tmp} (h : fn.results = #[.tmp a, .tmp b]) (tmps : Array Value) (w : World) : (results fn tmps).run P w = .ok (.tuple #[tmps.getD a undef, tmps.getD b undef]) w := by
  simp only [results, h]
  simp
theorem grown_any {w w' : World} (h : w.grownBy w' none) (row : Option Nat) : w.grownBy w' row := ⟨h.os, h.tape, h.output, h.size, fun k hk _ => h.block k hk (by simp)⟩
set_option maxRecDepth 100000 in
set_option maxHeartbeats 4000000 in
theorem roff_at (T : Nat → Prop) (m : Nat) (R : Rf) (i : Int) (w : World) (h : RefAt w T m R) (hr : (R.row 0).length ≤ 256) :
    Calls Try.prog 44 #[.pointer (some ⟨m, 0, none⟩), .int .i64 i] w fun e w' => e = .returned (.tuple #[.int .i64 ((R.off i).1.1 : Int), .bool (R.off i).1.2]) ∧ ∃ T', RefAt w' T' m (R.off i).2 ∧ RTurn T T' w w' := by
  have HT := Lib.hid (rthere_at T m R i w h)
  have HH := Lib.hid h
  unfold Rf.off
  by_cases ht : R.there i = true
  · obtain ⟨z, rfl, hz⟩ := Rf.there_nat ht
    rw [if_pos ht]
    rw [ht] at HT
    obtain ⟨xb, va, V, h⟩ := h
    obtain ⟨y, hy⟩ : ∃ y, (R.row 0)[z]? = some y := ⟨_, List.getElem?_eq_getElem hz⟩
    obtain ⟨A1, cap1, hv, hcell⟩ := int_row (h.rows 0 (Nat.zero_le _)).1
    obtain ⟨gi, rfl, hci⟩ := hcell z y hy
    have c1 := (h.cell (j := 0) (Nat.zero_le _)).1
    simp only [rb, ro] at c1
    have hwo := without_at (V 0) (R.row 0) z w (h.rows 0 (Nat.zero_le _)).1 (by omega)
    rw [hv] at c1 hwo
    have HV := Lib.hid hv
    have HWO := Lib.hid hwo
    have HI := Lib.hid h
    have z0 : (0 : Int) ≤ (z : Int) := by omega
    have z1 : (z : Int) < ((R.row 0).length : Int) := by omega
    simp only [Int.toNat_natCast, hy, Option.getD_some]
    clear h hwo hcell hz hy ht hv
    go_enter Try.func44, Try.ntmps44
    go_wp2_with fail
    refine HT.out.mono ?_
    rintro e w' ⟨rfl, hw⟩
    have hw := hw.symm
    subst hw
    go_wp2_with fail
    refine HWO.out.mono ?_
    rintro e w1 ⟨v', rfl, hrow, hg, hnew⟩
    obtain ⟨A2, n2, cap2, rfl⟩ := row_any hrow
    obtain ⟨p1, p2⟩ := HI.out.put (j := 0) (Nat.zero_le _) (grown_any hg _) hrow (.inr hnew)
    simp only [rb, ro] at p1 p2
    have hcm := (HI.out.cell (j := 0) (Nat.zero_le _))
    simp only [rb, ro] at hcm
    have k1 := hg.cell hcm.1 (by simp)
    rw [HV.out] at k1
    have k2 : w1.frozen? ⟨m, 1, none⟩ = false := (frozen_grown (World.block_lt_of_cell? _ _ hcm.1) hg).trans hcm.2
    have HP := Lib.hid (And.intro p1 p2)
    clear p1 p2 hcm hrow hg hnew
    go_wp2_with fail
    (try simp only [Exit.inBlock, Exit.then])
    refine bodyPost_ret (results_two rfl _ _) rfl ?_
    exact ⟨rfl, _, ⟨xb, va, _, HP.out.1⟩, ⟨HP.out.2, fun b hb => hb.1, fun b hb => hb.2⟩⟩
  · have hf : R.there i = false := by simpa using ht
    rw [if_neg ht]
    rw [hf] at HT
    clear ht hf h
    go_enter Try.func44, Try.ntmps44
    go_wp2_with fail
    refine HT.out.mono ?_
    rintro e w' ⟨rfl, hw⟩
    have hw := hw.symm
    subst hw
    go_wp2_with fail
    (try simp only [Exit.inBlock, Exit.then])
    refine bodyPost_ret (results_two rfl _ _) rfl ?_
    exact ⟨rfl, T, HH.out, ⟨Off.refl _ _, fun _ hb => .inl hb, HH.out.lt⟩⟩
theorem errno_at (b : Bool) (w : World) : Calls Try.prog 45 #[.bool b] w fun e w' => e = .returned (.int .i64 (if b = true then 0 else 5)) ∧ w' = w := by
  cases b with
  | true =>
    go_enter Try.func45, Try.ntmps45
    go_wp2_with fail
    go_ret
    exact ⟨rfl, rfl⟩
  | false =>
    go_enter Try.func45, Try.ntmps45
    go_wp2_with fail
    go_ret
    exact ⟨rfl, rfl⟩
set_option maxHeartbeats 4000000 in
theorem rdrop_at (T : Nat → Prop) (m : Nat) (R : Rf) (i : Int) (w : World) (h : RefAt w T m R) (hr : (R.row 0).length ≤ 256) :
    Calls Try.prog 35 #[.pointer (some ⟨m, 0, none⟩), .int .i64 i] w fun e w' => e = .returned (.int .i64 (R.drop i).1) ∧ ∃ T', RefAt w' T' m (R.drop i).2 ∧ RTurn T T' w w' := by
  have HO := Lib.hid (roff_at T m R i w h hr)
  unfold Rf.drop
  generalize R.off i = of at HO
  obtain ⟨⟨k, b⟩, R'⟩ := of
  clear h hr
  go_enter Try.func35, Try.ntmps35
  go_wp2_with fail
  refine HO.out.mono ?_
  rintro e w1 ⟨rfl, hx⟩
  have HX := Lib.hid hx
  clear hx HO
  go_wp2_with fail
  refine (errno_at b w1).mono ?_
  rintro e w' ⟨rfl, hw⟩
  have hw := hw.symm
  subst hw
  cases b with
  | true =>
    go_wp2_with fail
    go_ret
    exact ⟨rfl, HX.out⟩
  | false =>
    go_wp2_with fail
    go_ret
    exact ⟨rfl, HX.out⟩
set_option maxHeartbeats 4000000 in
theorem rsend_at (T : Nat → Prop) (m : Nat) (R : Rf) (p : Pk) (w : World) (h : RefAt w T m R) (hl : R.all.length < 10000) (hr : (R.row 0).length ≤ 256) :
    Calls Try.prog 40 #[.pointer (some ⟨m, 0, none⟩), .int .i64 p.src, .int .i64 p.to, strV p.b] w fun e w' => e = .returned (.int .i64 (R.send p).1) ∧ ∃ T', RefAt w' T' m (R.send p).2 ∧ RTurn T T' w w' := by
  have HE1 := Lib.hid (ris_at T m R p.src w h)
  have HE2 := Lib.hid (ris_at T m R p.to w h)
  have HM := Lib.hid (made_at T m R p w h hl hr)
  have HK : Hid (∃ T', RefAt w T' m R ∧ RTurn T T' w w) := ⟨T, h, Off.refl _ _, fun _ hb => .inl hb, h.lt⟩
  unfold Rf.send
  clear h hl hr
  cases e1 : R.is p.src with
  | true =>
    rw [e1] at HE1
    cases e2 : R.is p.to with
    | true =>
      rw [e2] at HE2
      rw [if_pos ⟨rfl, rfl⟩]
      generalize R.made p = mm at HM
      clear e1 e2
      go_enter Try.func40, Try.ntmps40
      go_wp2_with fail
      refine HE1.out.mono ?_
      rintro e w' ⟨rfl, hw⟩
      have hw := hw.symm
      subst hw
      go_wp2_with fail
      refine HE2.out.mono ?_
      rintro e w' ⟨rfl, hw⟩
      have hw := hw.symm
      subst hw
      go_wp2_with fail
      refine HM.out.mono ?_
      rintro e w' ⟨rfl, hx⟩
      have HX := Lib.hid hx
      clear hx HM
      go_wp2_with fail
      go_ret
      exact ⟨rfl, HX.out⟩
    | false =>
      rw [e2] at HE2
      rw [if_neg (by simp)]
      clear e1 e2
      go_enter Try.func40, Try.ntmps40
      go_wp2_with fail
      refine HE1.out.mono ?_
      rintro e w' ⟨rfl, hw⟩
      have hw := hw.symm
      subst hw
      go_wp2_with fail
      refine HE2.out.mono ?_
      rintro e w' ⟨rfl, hw⟩
      have hw := hw.symm
      subst hw
      go_wp2_with fail
      go_ret
      exact ⟨rfl, HK.out⟩
  | false =>
    rw [e1] at HE1
    rw [if_neg (by simp)]
    clear e1
    go_enter Try.func40, Try.ntmps40
    go_wp2_with fail
    refine HE1.out.mono ?_
    rintro e w' ⟨rfl, hw⟩
    have hw := hw.symm
    subst hw
    go_wp2_with fail
    go_ret
    exact ⟨rfl, HK.out⟩
set_option maxRecDepth 100000 in
set_option maxHeartbeats 4000000 in
theorem rdelay_at (T : Nat → Prop) (m : Nat) (R : Rf) (i : Int) (w : World) (h : RefAt w T m R) (hr : (R.row 0).length ≤ 256) :
    Calls Try.prog 37 #[.pointer (some ⟨m, 0, none⟩), .int .i64 i] w fun e w' => e = .returned (.int .i64 (R.delay i).1) ∧ ∃ T', RefAt w' T' m (R.delay i).2 ∧ RTurn T T' w w' := by
  have HO := Lib.hid (roff_at T m R i w h hr)
  have hlen : ((R.off i).2.row 0).length ≤ 256 := by
    unfold Rf.off
    split
    · show ((R.row 0).eraseIdx _).length ≤ 256
      exact Nat.le_trans (List.length_eraseIdx_le _ _) hr
    · exact hr
  unfold Rf.delay
  generalize R.off i = of at HO hlen
  obtain ⟨⟨k, b⟩, R'⟩ := of
  have HLEN : Hid ((R'.row 0).length ≤ 256) := hlen
  clear h hr hlen
  go_enter Try.func37, Try.ntmps37
  go_wp2_with fail
  refine HO.out.mono ?_
  rintro e w1 ⟨rfl, T1, hn, ht⟩
  have HT1 := Lib.hid ht
  have HN1 := Lib.hid hn
  clear hn ht HO
  cases b with
  | false =>
    go_wp2_with fail
    refine (errno_at false w1).mono ?_
    rintro e w' ⟨rfl, hw⟩
    have hw := hw.symm
    subst hw
    go_wp2_with fail
    go_ret
    exact ⟨rfl, T1, HN1.out, HT1.out⟩
  | true =>
    obtain ⟨xb, va, V, hI⟩ := HN1.out
    obtain ⟨A1, cap1, hv, _⟩ := int_row (hI.rows 0 (Nat.zero_le _)).1
    have hgA := World.grownBy_alloc w1 (.cells #[.int .i64 (k : Int)] 3) none
    have hbA := (MapKept.heap_alloc w1 (.cells #[.int .i64 (k : Int)] 3)).1
    have hIA : RefIn (w1.alloc (.cells #[.int .i64 (k : Int)] 3)) T1 m xb va V R' := hI.other (U := fun _ => False) (Off.of_grown hgA (by simp)) (fun _ _ x => x)
    have HROW : Hid ((w1.alloc (.cells #[.int .i64 (k : Int)] 3)).ownsRow 0 3 1 (.slice A1 (R'.row 0).length cap1) (R'.row 0).length ((R'.row 0).map fun (n : Nat) => Value.int .i64 (n : Int))) := by
      have := (hIA.rows 0 (Nat.zero_le _)).1
      rw [hv] at this
      exact this
    have HBA := Lib.hid hbA
    have HFEW : Hid ((R'.row 0).length < 100000) := by have := HLEN.out; show _ < _; omega
    have c1 := (hI.cell (j := 0) (Nat.zero_le _)).1
    simp only [rb, ro] at c1
    rw [hv] at c1
    have HI := Lib.hid hI
    have HV := Lib.hid hv
    clear hgA hbA hIA hI hv
    go_wp2_with (first
      | (at_builtin; refine wpList_append_int rfl (.tmp 18) (.tmp 20) rfl 0 (.slice A1 (R'.row 0).length cap1) (R'.row 0) k rfl HROW.out w1.heap.size rfl HBA.out HFEW.out (Nat.zero_le _) ?_; intro v3 w3 hr3 hg3 hob3; rw [← HV.out] at hg3 hob3; have hp := HI.out.append (j := 0) (Nat.zero_le _) hr3 hg3 hob3; obtain ⟨A2, n2, cap2, rfl⟩ := row_any hr3; simp only [rb, ro] at hp; have p1 := hp.1; rw [HV.out] at p1; have p2 := hp.2.1; have HP := Lib.hid hp.2.2; clear hp hr3 hg3 hob3; go_frame)
      | fail)
    refine (errno_at true _).mono ?_
    rintro e w' ⟨rfl, hw⟩
    have hw := hw.symm
    subst hw
    go_wp2_with fail
    go_ret
    obtain ⟨T', q1, q2, _⟩ := HP.out
    exact ⟨rfl, T', ⟨xb, va, _, q1⟩, HT1.out.trans q2⟩
end Go.Proofs.Ytonfpifikblnjaa.Net
