/- The document's net: Deliver. -/
import Derived.Test.YtonfpifikblnjaaNetRefOff
namespace Go.Proofs.Ytonfpifikblnjaa.Net
open Go.RowKit

/-- The document's net is in order. -/
structure Rf.OK (R : Rf) : Prop where
  all : ∀ j, j ≤ R.n → ∀ k ∈ R.row j, k < R.all.length
  to_ : ∀ k ∈ R.row 0, ∀ p, R.all[k]? = some p → 0 ≤ p.to ∧ p.to < (R.n : Int)
  way : (R.row 0).length ≤ 256
  box : ∀ j, j < R.n → (R.row (j + 1)).length ≤ 32
  few : R.all.length < 9000
def Rf.get (R : Rf) (k : Nat) : Pk := (R.all[k]?).getD ⟨0, 0, []⟩
/-- A letter goes into its box. -/
def Rf.boxes (R : Rf) (k : Nat) : Rf := if (R.row ((R.get k).to.toNat + 1)).length < 32 then R.set ((R.get k).to.toNat + 1) (R.row ((R.get k).to.toNat + 1) ++ [k]) else R
def Rf.deliver (R : Rf) (i : Int) : Int × Rf := (if (R.off i).1.2 = true then 0 else 5, if (R.off i).1.2 = true then (R.off i).2.boxes (R.off i).1.1 else (R.off i).2)
theorem off_mem {R : Rf} {i : Int} (h : (R.off i).1.2 = true) : (R.off i).1.1 ∈ R.row 0 := by
  unfold Rf.off at h ⊢
  split
  · rename_i ht
    obtain ⟨z, rfl, hz⟩ := Rf.there_nat ht
    simp only [Int.toNat_natCast, List.getElem?_eq_getElem hz, Option.getD_some]
    exact List.getElem_mem _
  · rename_i ht
    rw [if_neg ht] at h
    cases h
theorem off_all (R : Rf) (i : Int) : (R.off i).2.all = R.all ∧ (R.off i).2.n = R.n ∧ ∀ j, (R.off i).2.row (j + 1) = R.row (j + 1) := by
  unfold Rf.off
  split
  · exact ⟨rfl, rfl, fun j => by show (if j + 1 = 0 then (R.row 0).eraseIdx i.toNat else R.row (j + 1)) = _; rw [if_neg (by omega)]⟩
  · exact ⟨rfl, rfl, fun j => rfl⟩

set_option maxRecDepth 100000 in
set_option maxHeartbeats 8000000 in
theorem rdeliver_at (T : Nat → Prop) (m : Nat) (R : Rf) (i : Int) (w : World) (h : RefAt w T m R) (ho : R.OK) :
    Calls Try.prog 34 #[.pointer (some ⟨m, 0, none⟩), .int .i64 i] w fun e w' => e = .returned (.int .i64 (R.deliver i).1) ∧ ∃ T', RefAt w' T' m (R.deliver i).2 ∧ RTurn T T' w w' := by
  have HO := Lib.hid (roff_at T m R i w h ho.way)
  have hmem := off_mem (R := R) (i := i)
  have hall := off_all R i
  unfold Rf.deliver
  generalize R.off i = of at HO hmem hall
  obtain ⟨⟨k, b⟩, R'⟩ := of
  dsimp only at HO hmem hall ⊢
  have HMEM : Hid (b = true → k ∈ R.row 0) := hmem
  have HALL : Hid (R'.all = R.all ∧ R'.n = R.n ∧ ∀ j, R'.row (j + 1) = R.row (j + 1)) := hall
  have HOK := Lib.hid ho
  clear h ho hmem hall
  go_enter Try.func34, Try.ntmps34
  go_wp2_with fail
  refine HO.out.mono ?_
  rintro e w1 ⟨rfl, T1, hn, ht⟩
  have HT1 := Lib.hid ht
  have HN1 := Lib.hid hn
  clear hn ht HO
  cases b with
  | false =>
    go_upto_region 2 with fail
    refine wp_region_noPanic ?_
    refine wp_region_held_drew (S := fun w' => w' = w1.drew) (by kernel_rfl) ?hSb (fun hHeld => ?_)
    case hSb => exact rfl
    refine wpAnyH_take (i := 0) (oi := ⟨_, _, _, _, _, _⟩) (v := ?vb0) rfl (by kernel_rfl) (by kernel_rfl) (by kernel_rfl) (fun _ _ _ h => h) (Or.inl ⟨by rfl, ?hyb0⟩) hHeld ?_
    case hyb0 => (intro wS hSw; (try dsimp only at hSw); go_simp; (first | done | with_reducible rfl))
    try simp only [Act.put, List.setIfInBounds_toArray, List.set_cons_zero, List.set_cons_succ]
    refine wpAnyH_take (i := 1) (oi := ⟨_, _, _, _, _, _⟩) (v := ?vb1) rfl (by kernel_rfl) (by kernel_rfl) (by kernel_rfl) (fun _ _ _ h => h) (Or.inl ⟨by rfl, ?hyb1⟩) hHeld ?_
    case hyb1 => (intro wS hSw; (try dsimp only at hSw); go_simp; (first | done | with_reducible rfl))
    try simp only [Act.put, List.setIfInBounds_toArray, List.set_cons_zero, List.set_cons_succ]
    refine wpAnyH_take (i := 2) (oi := ⟨_, _, _, _, _, _⟩) (v := undef) rfl (by kernel_rfl) (by kernel_rfl) (by kernel_rfl) (fun _ _ _ h => h) (Or.inr ⟨by rfl, rfl⟩) hHeld ?_
    try simp only [Act.put, List.setIfInBounds_toArray, List.set_cons_zero, List.set_cons_succ]
    refine wpAnyH_take (i := 3) (oi := ⟨_, _, _, _, _, _⟩) (v := undef) rfl (by kernel_rfl) (by kernel_rfl) (by kernel_rfl) (fun _ _ _ h => h) (Or.inr ⟨by rfl, rfl⟩) hHeld ?_
    try simp only [Act.put, List.setIfInBounds_toArray, List.set_cons_zero, List.set_cons_succ]
    refine wpAnyH_take (i := 4) (oi := ⟨_, _, _, _, _, _⟩) (v := undef) rfl (by kernel_rfl) (by kernel_rfl) (by kernel_rfl) (fun _ _ _ h => h) (Or.inr ⟨by rfl, rfl⟩) hHeld ?_
    try simp only [Act.put, List.setIfInBounds_toArray, List.set_cons_zero, List.set_cons_succ]
    refine wpAnyH_take (i := 5) (oi := ⟨_, _, _, _, _, _⟩) (v := undef) rfl (by kernel_rfl) (by kernel_rfl) (by kernel_rfl) (fun _ _ _ h => h) (Or.inr ⟨by rfl, rfl⟩) hHeld ?_
    try simp only [Act.put, List.setIfInBounds_toArray, List.set_cons_zero, List.set_cons_succ]
    refine wpAnyH_take (i := 6) (oi := ⟨_, _, _, _, _, _⟩) (v := undef) rfl (by kernel_rfl) (by kernel_rfl) (by kernel_rfl) (fun _ _ _ h => h) (Or.inr ⟨by rfl, rfl⟩) hHeld ?_
    try simp only [Act.put, List.setIfInBounds_toArray, List.set_cons_zero, List.set_cons_succ]
    refine wpAnyH_take (i := 7) (oi := ⟨_, _, _, _, _, _⟩) (v := undef) rfl (by kernel_rfl) (by kernel_rfl) (by kernel_rfl) (fun _ _ _ h => h) (Or.inr ⟨by rfl, rfl⟩) hHeld ?_
    try simp only [Act.put, List.setIfInBounds_toArray, List.set_cons_zero, List.set_cons_succ]
    refine wpAnyH_take (i := 8) (oi := ⟨_, _, _, _, _, _⟩) (v := undef) rfl (by kernel_rfl) (by kernel_rfl) (by kernel_rfl) (fun _ _ _ h => h) (Or.inr ⟨by rfl, rfl⟩) hHeld ?_
    try simp only [Act.put, List.setIfInBounds_toArray, List.set_cons_zero, List.set_cons_succ]
    refine wpAnyH_take (i := 9) (oi := ⟨_, _, _, _, _, _⟩) (v := undef) rfl (by kernel_rfl) (by kernel_rfl) (by kernel_rfl) (fun _ _ _ h => h) (Or.inr ⟨by rfl, rfl⟩) hHeld ?_
    try simp only [Act.put, List.setIfInBounds_toArray, List.set_cons_zero, List.set_cons_succ]
    refine wpAnyH_take (i := 10) (oi := ⟨_, _, _, _, _, _⟩) (v := undef) rfl (by kernel_rfl) (by kernel_rfl) (by kernel_rfl) (fun _ _ _ h => h) (Or.inr ⟨by rfl, rfl⟩) hHeld ?_
    try simp only [Act.put, List.setIfInBounds_toArray, List.set_cons_zero, List.set_cons_succ]
    refine wpAnyH_take (i := 11) (oi := ⟨_, _, _, _, _, _⟩) (v := undef) rfl (by kernel_rfl) (by kernel_rfl) (by kernel_rfl) (fun _ _ _ h => h) (Or.inr ⟨by rfl, rfl⟩) hHeld ?_
    try simp only [Act.put, List.setIfInBounds_toArray, List.set_cons_zero, List.set_cons_succ]
    refine wpAnyH_take (i := 12) (oi := ⟨_, _, _, _, _, _⟩) (v := undef) rfl (by kernel_rfl) (by kernel_rfl) (by kernel_rfl) (fun _ _ _ h => h) (Or.inr ⟨by rfl, rfl⟩) hHeld ?_
    try simp only [Act.put, List.setIfInBounds_toArray, List.set_cons_zero, List.set_cons_succ]
    refine wpAnyH_take (i := 13) (oi := ⟨_, _, _, _, _, _⟩) (v := undef) rfl (by kernel_rfl) (by kernel_rfl) (by kernel_rfl) (fun _ _ _ h => h) (Or.inr ⟨by rfl, rfl⟩) hHeld ?_
    try simp only [Act.put, List.setIfInBounds_toArray, List.set_cons_zero, List.set_cons_succ]
    refine wpAnyH_take (i := 14) (oi := ⟨_, _, _, _, _, _⟩) (v := undef) rfl (by kernel_rfl) (by kernel_rfl) (by kernel_rfl) (fun _ _ _ h => h) (Or.inr ⟨by rfl, rfl⟩) hHeld ?_
    try simp only [Act.put, List.setIfInBounds_toArray, List.set_cons_zero, List.set_cons_succ]
    refine wpAnyH_take (i := 15) (oi := ⟨_, _, _, _, _, _⟩) (v := undef) rfl (by kernel_rfl) (by kernel_rfl) (by kernel_rfl) (fun _ _ _ h => h) (Or.inr ⟨by rfl, rfl⟩) hHeld ?_
    try simp only [Act.put, List.setIfInBounds_toArray, List.set_cons_zero, List.set_cons_succ]
    refine wpAnyH_take (i := 16) (oi := ⟨_, _, _, _, _, _⟩) (v := undef) rfl (by kernel_rfl) (by kernel_rfl) (by kernel_rfl) (fun _ _ _ h => h) (Or.inr ⟨by rfl, rfl⟩) hHeld ?_
    try simp only [Act.put, List.setIfInBounds_toArray, List.set_cons_zero, List.set_cons_succ]
    refine wpAnyH_take (i := 17) (oi := ⟨_, _, _, _, _, _⟩) (v := undef) rfl (by kernel_rfl) (by kernel_rfl) (by kernel_rfl) (fun _ _ _ h => h) (Or.inr ⟨by rfl, rfl⟩) hHeld ?_
    try simp only [Act.put, List.setIfInBounds_toArray, List.set_cons_zero, List.set_cons_succ]
    refine wpAnyH_take (i := 18) (oi := ⟨_, _, _, _, _, _⟩) (v := ?vb18) rfl (by kernel_rfl) (by kernel_rfl) (by kernel_rfl) (fun _ _ _ h => h) (Or.inl ⟨by rfl, ?hyb18⟩) hHeld ?_
    case hyb18 => (intro wS hSw; (try dsimp only at hSw); go_simp; (first | done | with_reducible rfl))
    try simp only [Act.put, List.setIfInBounds_toArray, List.set_cons_zero, List.set_cons_succ]
    refine wpAnyH_done (by kernel_rfl) ?_ _
    refine NoPanic.normal ?_
    clear hHeld
    go_wp2_with fail
    refine (errno_at false _).mono ?_
    rintro e wq ⟨rfl, hq⟩
    have hq := hq.symm
    subst hq
    go_wp2_with fail
    go_ret
    exact ⟨rfl, T1, HN1.out.grown (drew_grown w1 none), HT1.out.trans (RTurn.grown HT1.out.lt (drew_grown w1 none))⟩
  | true =>
    obtain ⟨xb, va, V, hI⟩ := HN1.out
    have hkm := HMEM.out rfl
    have hklt : k < R'.all.length := by rw [HALL.out.1]; exact HOK.out.all 0 (Nat.zero_le _) k hkm
    obtain ⟨p, hp⟩ : ∃ p, R'.all[k]? = some p := ⟨_, List.getElem?_eq_getElem hklt⟩
    have hto := HOK.out.to_ k hkm p (by rw [← HALL.out.1]; exact hp)
    obtain ⟨kt, hkt⟩ : ∃ kt : Nat, p.to = (kt : Int) := ⟨p.to.toNat, by omega⟩
    have hktn : kt < R'.n := by rw [HALL.out.2.1]; omega
    have hget : R'.get k = p := by unfold Rf.get; rw [hp]; rfl
    have hboxes : R'.boxes k = if (R'.row (kt + 1)).length < 32 then R'.set (kt + 1) (R'.row (kt + 1) ++ [k]) else R' := by
      unfold Rf.boxes
      rw [hget, hkt, Int.toNat_natCast]
    have HBOXES := Lib.hid hboxes
    have hbl : (R'.row (kt + 1)).length ≤ 32 := by rw [HALL.out.2.2]; exact HOK.out.box kt (by rw [← HALL.out.2.1]; exact hktn)
    have hcells : ∀ y : World, RefIn y T1 m xb va V R' → ∃ capx capa gA Ab capb, (y.cell? ⟨m, 2, none⟩ = some (.slice (some ⟨xb, 0, none⟩) R'.n capx) ∧ y.cell? ⟨m, 0, none⟩ = some (.slice (some ⟨gA, 0, none⟩) R'.all.length capa) ∧ y.cell? ⟨gA, k * 3 + 1, none⟩ = some (.int .i64 (kt : Int))) ∧ y.cell? ⟨xb, kt, none⟩ = some (.slice Ab (R'.row (kt + 1)).length capb) ∧ va = .slice (some ⟨gA, 0, none⟩) R'.all.length capa ∧ V (kt + 1) = .slice Ab (R'.row (kt + 1)).length capb ∧ (∃ capx', y.heap[m]? = some (.cells #[va, V 0, .slice (some ⟨xb, 0, none⟩) R'.n capx'] 76) ∧ capx' = capx) ∧ R'.n ≤ capx := by
      intro y hy
      obtain ⟨capx, hnet, hcx⟩ := hy.net
      obtain ⟨Aa, capa, hva, hcell⟩ := all_row hy.all
      obtain ⟨gA, rfl, _, c1, _⟩ := hcell k p hp
      obtain ⟨Ab, capb, hvb, _⟩ := int_row (hy.rows (kt + 1) hktn).1
      have cb := (hy.cell (j := kt + 1) hktn).1
      simp only [rb, ro] at cb
      rw [hvb] at cb
      rw [hkt] at c1
      refine ⟨capx, capa, gA, Ab, capb, ⟨by simp only [World.cell?, hnet]; rfl, by simp only [World.cell?, hnet]; rw [hva]; rfl, c1⟩, cb, hva, hvb, ⟨capx, hnet, rfl⟩, hcx⟩
    have hId : RefIn w1.drew T1 m xb va V R' := hI.other (U := fun _ => False) (Off.of_grown (drew_grown w1 none) (by simp)) (fun _ _ x => x)
    obtain ⟨capx, capa, gA, Ab, capb, s1, s2, hva, hvb, hnetm, hcx⟩ := hcells _ hId
    have HS2 := Lib.hid (show _ ∧ _ ∧ _ ∧ _ from ⟨s1.1, s1.2.1, s1.2.2, s2⟩)
    have HV := Lib.hid hvb
    have HVA := Lib.hid hva
    have HI := Lib.hid hI
    have k0 : (0 : Int) ≤ (k : Int) := by omega
    have k1 : (k : Int) < (R'.all.length : Int) := by omega
    have t0 : (0 : Int) ≤ (kt : Int) := by omega
    have t1 : (kt : Int) < (R'.n : Int) := by omega
    have HKT := Lib.hid (And.intro hktn hbl)
    have HP0 := Lib.hid (And.intro hp hkt)
    clear s1 s2 hva hvb hnetm hI hkm hklt hto hget hboxes hcells hId hp hkt hktn
    by_cases hlt : (R'.row (kt + 1)).length < 32
    · have hd : decide (((R'.row (kt + 1)).length : Int) < 32) = true := decide_eq_true (by omega)
      have hd2 : decide ((R'.row (kt + 1)).length < 32) = true := decide_eq_true hlt
      have HLT := Lib.hid hlt
      clear hlt hbl
      go_upto_region 2 with fail
      refine wp_region_noPanic ?_
      refine wp_region_held_drew (S := fun w' => w'.cell? ⟨m, 2, none⟩ = some (.slice (some ⟨xb, 0, none⟩) R'.n capx) ∧ w'.cell? ⟨m, 0, none⟩ = some (.slice (some ⟨gA, 0, none⟩) R'.all.length capa) ∧ w'.cell? ⟨gA, k * 3 + 1, none⟩ = some (.int .i64 (kt : Int)) ∧ w'.cell? ⟨xb, kt, none⟩ = some (.slice Ab (R'.row (kt + 1)).length capb)) (by kernel_rfl) ?hSa (fun hHeld => ?_)
      case hSa => exact HS2.out
      refine wpAnyH_take (i := 0) (oi := ⟨_, _, _, _, _, _⟩) (v := ?va0) rfl (by kernel_rfl) (by kernel_rfl) (by kernel_rfl) (fun _ _ _ h => h) (Or.inl ⟨by rfl, ?hya0⟩) hHeld ?_
      case hya0 => (intro wS hSw; (try dsimp only at hSw); go_simp; (first | done | with_reducible rfl))
      try simp only [Act.put, List.setIfInBounds_toArray, List.set_cons_zero, List.set_cons_succ]
      refine wpAnyH_take (i := 1) (oi := ⟨_, _, _, _, _, _⟩) (v := ?va1) rfl (by kernel_rfl) (by kernel_rfl) (by kernel_rfl) (fun _ _ _ h => h) (Or.inl ⟨by rfl, ?hya1⟩) hHeld ?_
      case hya1 => (intro wS hSw; (try dsimp only at hSw); go_simp; (first | done | with_reducible rfl))
      try simp only [Act.put, List.setIfInBounds_toArray, List.set_cons_zero, List.set_cons_succ]
      refine wpAnyH_take (i := 2) (oi := ⟨_, _, _, _, _, _⟩) (v := ?va2) rfl (by kernel_rfl) (by kernel_rfl) (by kernel_rfl) (fun _ _ _ h => h) (Or.inl ⟨by rfl, ?hya2⟩) hHeld ?_
      case hya2 => (intro wS hSw; (try dsimp only at hSw); go_simp; (first | done | with_reducible rfl))
      try simp only [Act.put, List.setIfInBounds_toArray, List.set_cons_zero, List.set_cons_succ]
      refine wpAnyH_take (i := 3) (oi := ⟨_, _, _, _, _, _⟩) (v := ?va3) rfl (by kernel_rfl) (by kernel_rfl) (by kernel_rfl) (fun _ _ _ h => h) (Or.inl ⟨by rfl, ?hya3⟩) hHeld ?_
      case hya3 => (intro wS hSw; (try dsimp only at hSw); go_simp; (first | done | with_reducible rfl))
      try simp only [Act.put, List.setIfInBounds_toArray, List.set_cons_zero, List.set_cons_succ]
      refine wpAnyH_take (i := 4) (oi := ⟨_, _, _, _, _, _⟩) (v := ?va4) rfl (by kernel_rfl) (by kernel_rfl) (by kernel_rfl) (fun _ _ _ h => h) (Or.inl ⟨by rfl, ?hya4⟩) hHeld ?_
      case hya4 => (intro wS hSw; (try dsimp only at hSw); go_simp; (first | done | with_reducible rfl))
      try simp only [Act.put, List.setIfInBounds_toArray, List.set_cons_zero, List.set_cons_succ]
      refine wpAnyH_take (i := 5) (oi := ⟨_, _, _, _, _, _⟩) (v := ?va5) rfl (by kernel_rfl) (by kernel_rfl) (by kernel_rfl) (fun _ _ _ h => h) (Or.inl ⟨by rfl, ?hya5⟩) hHeld ?_
      case hya5 => (intro wS hSw; (try dsimp only at hSw); go_simp; (first | done | with_reducible rfl))
      try simp only [Act.put, List.setIfInBounds_toArray, List.set_cons_zero, List.set_cons_succ]
      refine wpAnyH_take (i := 6) (oi := ⟨_, _, _, _, _, _⟩) (v := ?va6) rfl (by kernel_rfl) (by kernel_rfl) (by kernel_rfl) (fun _ _ _ h => h) (Or.inl ⟨by rfl, ?hya6⟩) hHeld ?_
      case hya6 => (intro wS hSw; (try dsimp only at hSw); go_simp; (first | done | with_reducible rfl))
      try simp only [Act.put, List.setIfInBounds_toArray, List.set_cons_zero, List.set_cons_succ]
      refine wpAnyH_take (i := 7) (oi := ⟨_, _, _, _, _, _⟩) (v := ?va7) rfl (by kernel_rfl) (by kernel_rfl) (by kernel_rfl) (fun _ _ _ h => h) (Or.inl ⟨by rfl, ?hya7⟩) hHeld ?_
      case hya7 => (intro wS hSw; (try dsimp only at hSw); go_simp; (first | done | with_reducible rfl))
      try simp only [Act.put, List.setIfInBounds_toArray, List.set_cons_zero, List.set_cons_succ]
      refine wpAnyH_take (i := 8) (oi := ⟨_, _, _, _, _, _⟩) (v := ?va8) rfl (by kernel_rfl) (by kernel_rfl) (by kernel_rfl) (fun _ _ _ h => h) (Or.inl ⟨by rfl, ?hya8⟩) hHeld ?_
      case hya8 => (intro wS hSw; (try dsimp only at hSw); go_simp; (first | done | with_reducible rfl))
      try simp only [Act.put, List.setIfInBounds_toArray, List.set_cons_zero, List.set_cons_succ]
      refine wpAnyH_take (i := 9) (oi := ⟨_, _, _, _, _, _⟩) (v := ?va9) rfl (by kernel_rfl) (by kernel_rfl) (by kernel_rfl) (fun _ _ _ h => h) (Or.inl ⟨by rfl, ?hya9⟩) hHeld ?_
      case hya9 => (intro wS hSw; (try dsimp only at hSw); go_simp; (first | done | with_reducible rfl))
      try simp only [Act.put, List.setIfInBounds_toArray, List.set_cons_zero, List.set_cons_succ]
      refine wpAnyH_take (i := 10) (oi := ⟨_, _, _, _, _, _⟩) (v := ?va10) rfl (by kernel_rfl) (by kernel_rfl) (by kernel_rfl) (fun _ _ _ h => h) (Or.inl ⟨by rfl, ?hya10⟩) hHeld ?_
      case hya10 => (intro wS hSw; (try dsimp only at hSw); go_simp; (first | done | with_reducible rfl))
      try simp only [Act.put, List.setIfInBounds_toArray, List.set_cons_zero, List.set_cons_succ]
      refine wpAnyH_take (i := 11) (oi := ⟨_, _, _, _, _, _⟩) (v := ?va11) rfl (by kernel_rfl) (by kernel_rfl) (by kernel_rfl) (fun _ _ _ h => h) (Or.inl ⟨by rfl, ?hya11⟩) hHeld ?_
      case hya11 => (intro wS hSw; (try dsimp only at hSw); go_simp; (first | done | with_reducible rfl))
      try simp only [Act.put, List.setIfInBounds_toArray, List.set_cons_zero, List.set_cons_succ]
      refine wpAnyH_take (i := 12) (oi := ⟨_, _, _, _, _, _⟩) (v := ?va12) rfl (by kernel_rfl) (by kernel_rfl) (by kernel_rfl) (fun _ _ _ h => h) (Or.inl ⟨by rfl, ?hya12⟩) hHeld ?_
      case hya12 => (intro wS hSw; (try dsimp only at hSw); go_simp; (first | done | with_reducible rfl))
      try simp only [Act.put, List.setIfInBounds_toArray, List.set_cons_zero, List.set_cons_succ]
      refine wpAnyH_take (i := 13) (oi := ⟨_, _, _, _, _, _⟩) (v := ?va13) rfl (by kernel_rfl) (by kernel_rfl) (by kernel_rfl) (fun _ _ _ h => h) (Or.inl ⟨by rfl, ?hya13⟩) hHeld ?_
      case hya13 => (intro wS hSw; (try dsimp only at hSw); go_simp; (first | done | with_reducible rfl))
      try simp only [Act.put, List.setIfInBounds_toArray, List.set_cons_zero, List.set_cons_succ]
      refine wpAnyH_take (i := 14) (oi := ⟨_, _, _, _, _, _⟩) (v := ?va14) rfl (by kernel_rfl) (by kernel_rfl) (by kernel_rfl) (fun _ _ _ h => h) (Or.inl ⟨by rfl, ?hya14⟩) hHeld ?_
      case hya14 => (intro wS hSw; (try dsimp only at hSw); go_simp; (first | done | with_reducible rfl))
      try simp only [Act.put, List.setIfInBounds_toArray, List.set_cons_zero, List.set_cons_succ]
      refine wpAnyH_take (i := 15) (oi := ⟨_, _, _, _, _, _⟩) (v := ?va15) rfl (by kernel_rfl) (by kernel_rfl) (by kernel_rfl) (fun _ _ _ h => h) (Or.inl ⟨by rfl, ?hya15⟩) hHeld ?_
      case hya15 => (intro wS hSw; (try dsimp only at hSw); go_simp; (first | done | with_reducible rfl))
      try simp only [Act.put, List.setIfInBounds_toArray, List.set_cons_zero, List.set_cons_succ]
      refine wpAnyH_take (i := 16) (oi := ⟨_, _, _, _, _, _⟩) (v := ?va16) rfl (by kernel_rfl) (by kernel_rfl) (by kernel_rfl) (fun _ _ _ h => h) (Or.inl ⟨by rfl, ?hya16⟩) hHeld ?_
      case hya16 => (intro wS hSw; (try dsimp only at hSw); go_simp; (first | done | with_reducible rfl))
      try simp only [Act.put, List.setIfInBounds_toArray, List.set_cons_zero, List.set_cons_succ]
      refine wpAnyH_take (i := 17) (oi := ⟨_, _, _, _, _, _⟩) (v := ?va17) rfl (by kernel_rfl) (by kernel_rfl) (by kernel_rfl) (fun _ _ _ h => h) (Or.inl ⟨by rfl, ?hya17⟩) hHeld ?_
      case hya17 => (intro wS hSw; (try dsimp only at hSw); go_simp; (first | done | with_reducible rfl))
      try simp only [Act.put, List.setIfInBounds_toArray, List.set_cons_zero, List.set_cons_succ]
      refine wpAnyH_take (i := 18) (oi := ⟨_, _, _, _, _, _⟩) (v := ?va18) rfl (by kernel_rfl) (by kernel_rfl) (by kernel_rfl) (fun _ _ _ h => h) (Or.inl ⟨by rfl, ?hya18⟩) hHeld ?_
      case hya18 => (intro wS hSw; (try dsimp only at hSw); go_simp; (first | done | with_reducible rfl))
      try simp only [Act.put, List.setIfInBounds_toArray, List.set_cons_zero, List.set_cons_succ]
      refine wpAnyH_done (by kernel_rfl) ?_ _
      refine NoPanic.normal ?_
      clear hHeld
      go_upto_region 3 with fail
      obtain ⟨w2, hw2⟩ : ∃ w2, w2 = w1.drew := ⟨_, rfl⟩
      rw [← hw2]
      have hI2 : RefIn w2 T1 m xb va V R' := by rw [hw2]; exact HI.out.other (U := fun _ => False) (Off.of_grown (drew_grown w1 none) (by simp)) (fun _ _ x => x)
      have HT2 : Hid (RTurn T T1 w w2) := by show RTurn _ _ _ _; rw [hw2]; exact HT1.out.trans (RTurn.grown HT1.out.lt (drew_grown w1 none))
      have hS2 : w2.cell? ⟨m, 2, none⟩ = some (.slice (some ⟨xb, 0, none⟩) R'.n capx) ∧ w2.cell? ⟨m, 0, none⟩ = some (.slice (some ⟨gA, 0, none⟩) R'.all.length capa) ∧ w2.cell? ⟨gA, k * 3 + 1, none⟩ = some (.int .i64 (kt : Int)) ∧ w2.cell? ⟨xb, kt, none⟩ = some (.slice Ab (R'.row (kt + 1)).length capb) := by rw [hw2]; exact HS2.out
      clear hw2
      have hd3 : w2.grownBy w2.drew none := drew_grown w2 none
      have hIx : RefIn w2.drew T1 m xb va V R' := hI2.other (U := fun _ => False) (Off.of_grown hd3 (by simp)) (fun _ _ x => x)
      have hgA := World.grownBy_alloc w2.drew (.cells #[.int .i64 (k : Int)] 3) none
      have hbA := (MapKept.heap_alloc w2.drew (.cells #[.int .i64 (k : Int)] 3)).1
      have hIA : RefIn (w2.drew.alloc (.cells #[.int .i64 (k : Int)] 3)) T1 m xb va V R' := hIx.other (U := fun _ => False) (Off.of_grown hgA (by simp)) (fun _ _ x => x)
      have HROW : Hid ((w2.drew.alloc (.cells #[.int .i64 (k : Int)] 3)).ownsRow 0 3 1 (V (kt + 1)) (R'.row (kt + 1)).length ((R'.row (kt + 1)).map fun (n : Nat) => Value.int .i64 (n : Int))) := (hIA.rows (kt + 1) HKT.out.1).1
      have HBA := Lib.hid hbA
      have HFEW : Hid ((R'.row (kt + 1)).length < 100000) := by have := HKT.out.2; show _ < _; omega
      have HS3 : Hid (w2.drew.cell? ⟨m, 2, none⟩ = some (.slice (some ⟨xb, 0, none⟩) R'.n capx) ∧ w2.drew.cell? ⟨m, 0, none⟩ = some (.slice (some ⟨gA, 0, none⟩) R'.all.length capa) ∧ w2.drew.cell? ⟨gA, k * 3 + 1, none⟩ = some (.int .i64 (kt : Int))) := ⟨hS2.1, hS2.2.1, hS2.2.2.1⟩
      have HS3A : Hid ((w2.drew.alloc (.cells #[.int .i64 (k : Int)] 3)).cell? ⟨m, 2, none⟩ = some (.slice (some ⟨xb, 0, none⟩) R'.n capx) ∧ (w2.drew.alloc (.cells #[.int .i64 (k : Int)] 3)).cell? ⟨m, 0, none⟩ = some (.slice (some ⟨gA, 0, none⟩) R'.all.length capa) ∧ (w2.drew.alloc (.cells #[.int .i64 (k : Int)] 3)).cell? ⟨gA, k * 3 + 1, none⟩ = some (.int .i64 (kt : Int))) := ⟨hgA.cell HS3.out.1 (by simp), hgA.cell HS3.out.2.1 (by simp), hgA.cell HS3.out.2.2 (by simp)⟩
      have C1 : Hid (w2.cell? ⟨xb, kt, none⟩ = some (.slice Ab (R'.row (kt + 1)).length capb)) := hS2.2.2.2
      have C1A : Hid ((w2.alloc (.cells #[.int .i64 (k : Int)] 3)).cell? ⟨xb, kt, none⟩ = some (.slice Ab (R'.row (kt + 1)).length capb)) := (World.grownBy_alloc w2 (.cells #[.int .i64 (k : Int)] 3) none).cell C1.out (by simp)
      have HPUT : Hid (∀ (v2 : Value) (w5 : World), w5.ownsRow 0 3 1 v2 (R'.row (kt + 1) ++ [k]).length ((R'.row (kt + 1) ++ [k]).map fun (n : Nat) => Value.int .i64 (n : Int)) → (w2.drew.alloc (.cells #[.int .i64 (k : Int)] 3)).grownBy w5 (V (kt + 1)).ownBlock → (v2.ownBlock = (V (kt + 1)).ownBlock ∨ v2.ownBlock = some (w2.drew.alloc (.cells #[.int .i64 (k : Int)] 3)).heap.size) →
          w5.cell? ⟨xb, kt, none⟩ = some (.slice Ab (R'.row (kt + 1)).length capb) ∧ w5.frozen? ⟨xb, kt, none⟩ = false ∧
          (w5.cell? ⟨m, 2, none⟩ = some (.slice (some ⟨xb, 0, none⟩) R'.n capx) ∧ w5.cell? ⟨m, 0, none⟩ = some (.slice (some ⟨gA, 0, none⟩) R'.all.length capa) ∧ w5.cell? ⟨gA, k * 3 + 1, none⟩ = some (.int .i64 (kt : Int))) ∧
          ((w5.setCell ⟨xb, kt, none⟩ v2).cell? ⟨m, 2, none⟩ = some (.slice (some ⟨xb, 0, none⟩) R'.n capx) ∧ (w5.setCell ⟨xb, kt, none⟩ v2).cell? ⟨m, 0, none⟩ = some (.slice (some ⟨gA, 0, none⟩) R'.all.length capa) ∧ (w5.setCell ⟨xb, kt, none⟩ v2).cell? ⟨gA, k * 3 + 1, none⟩ = some (.int .i64 (kt : Int))) ∧
          ∃ T', RefIn (w5.setCell ⟨xb, kt, none⟩ v2) T' m xb va (updV V (kt + 1) v2) (R'.set (kt + 1) (R'.row (kt + 1) ++ [k])) ∧ RTurn T1 T' w2 (w5.setCell ⟨xb, kt, none⟩ v2) ∧ True) := by
        intro v2 w5 h5 hg5 hob5
        obtain ⟨p1, p2, T', p3, p4, p5⟩ := hIx.append (j := kt + 1) HKT.out.1 h5 hg5 hob5
        simp only [rb, ro] at p1 p2 p3 p4
        rw [HV.out] at p1
        obtain ⟨capz, hnA, _⟩ := hIA.net
        have hrt := (hIA.rows (kt + 1) HKT.out.1).1.typed
        have hne : some m ≠ (V (kt + 1)).ownBlock := fun e => ((hrt m e.symm).ne (show Typed _ m 76 from ⟨_, _, hnA⟩) (by decide)) rfl
        have hAt : Typed (w2.drew.alloc (.cells #[.int .i64 (k : Int)] 3)) gA 48 := hIA.all.typed gA (by rw [HVA.out]; rfl)
        have hneA : some gA ≠ (V (kt + 1)).ownBlock := fun e => ((hrt gA e.symm).ne hAt (by decide)) rfl
        obtain ⟨cx, hbx, _⟩ := hIA.box
        have hxA : gA ≠ xb := hAt.ne (show Typed _ xb 56 from ⟨_, _, hbx⟩) (by decide)
        have hmx : m ≠ xb := hI2.mx
        have q0 := hg5.cell HS3A.out.1 hne
        have q1 := hg5.cell HS3A.out.2.1 hne
        have q2 := hg5.cell HS3A.out.2.2 hneA
        have hs : ∀ b o v, b ≠ xb → w5.cell? ⟨b, o, none⟩ = some v → (w5.setCell ⟨xb, kt, none⟩ v2).cell? ⟨b, o, none⟩ = some v := fun b o v hb hv => (World.cell?_of_block (a := ⟨b, o, none⟩) (heap_setCell_other w5 ⟨xb, kt, none⟩ b v2 hb)).trans hv
        exact ⟨p1, p2, ⟨q0, q1, q2⟩, ⟨hs _ _ _ hmx q0, hs _ _ _ hmx q1, hs _ _ _ hxA q2⟩, T', p3, ⟨⟨p4.off.os, p4.off.tape, p4.off.output, p4.off.size, p4.off.block⟩, p4.sub, p4.lt⟩, trivial⟩
      clear hI2 hS2 hd3 hIx hgA hbA hIA HS2 HI HT1 HN1
      refine wp_region_noPanic ?_
      refine wp_region_held_drew (S := fun w' => w'.cell? ⟨m, 2, none⟩ = some (.slice (some ⟨xb, 0, none⟩) R'.n capx) ∧ w'.cell? ⟨m, 0, none⟩ = some (.slice (some ⟨gA, 0, none⟩) R'.all.length capa) ∧ w'.cell? ⟨gA, k * 3 + 1, none⟩ = some (.int .i64 (kt : Int))) (by kernel_rfl) ?hSc (fun hHeld => ?_)
      case hSc => exact HS3.out
      refine wpAnyH_take (i := 0) (oi := ⟨_, _, _, _, _, _⟩) (v := ?vc0) rfl (by kernel_rfl) (by kernel_rfl) (by kernel_rfl) (fun _ _ _ h => h) (Or.inl ⟨by rfl, ?hyc0⟩) hHeld ?_
      case hyc0 => (intro wS hSw; (try dsimp only at hSw); go_simp; (first | done | with_reducible rfl))
      try simp only [Act.put, List.setIfInBounds_toArray, List.set_cons_zero, List.set_cons_succ]
      refine wpAnyH_take (i := 1) (oi := ⟨_, _, _, _, _, _⟩) (v := ?vc1) rfl (by kernel_rfl) (by kernel_rfl) (by kernel_rfl) (fun _ _ _ h => h) (Or.inl ⟨by rfl, ?hyc1⟩) hHeld ?_
      case hyc1 => (intro wS hSw; (try dsimp only at hSw); go_simp; (first | done | with_reducible rfl))
      try simp only [Act.put, List.setIfInBounds_toArray, List.set_cons_zero, List.set_cons_succ]
      refine wpAnyH_take (i := 2) (oi := ⟨_, _, _, _, _, _⟩) (v := ?vc2) rfl (by kernel_rfl) (by kernel_rfl) (by kernel_rfl) (fun _ _ _ h => h) (Or.inl ⟨by rfl, ?hyc2⟩) hHeld ?_
      case hyc2 => (intro wS hSw; (try dsimp only at hSw); go_simp; (first | done | with_reducible rfl))
      try simp only [Act.put, List.setIfInBounds_toArray, List.set_cons_zero, List.set_cons_succ]
      refine wpAnyH_take (i := 3) (oi := ⟨_, _, _, _, _, _⟩) (v := ?vc3) rfl (by kernel_rfl) (by kernel_rfl) (by kernel_rfl) (fun _ _ _ h => h) (Or.inl ⟨by rfl, ?hyc3⟩) hHeld ?_
      case hyc3 => (intro wS hSw; (try dsimp only at hSw); go_simp; (first | done | with_reducible rfl))
      try simp only [Act.put, List.setIfInBounds_toArray, List.set_cons_zero, List.set_cons_succ]
      refine wpAnyH_take (i := 4) (oi := ⟨_, _, _, _, _, _⟩) (v := ?vc4) rfl (by kernel_rfl) (by kernel_rfl) (by kernel_rfl) (fun _ _ _ h => h) (Or.inl ⟨by rfl, ?hyc4⟩) hHeld ?_
      case hyc4 => (intro wS hSw; (try dsimp only at hSw); go_simp; (first | done | with_reducible rfl))
      try simp only [Act.put, List.setIfInBounds_toArray, List.set_cons_zero, List.set_cons_succ]
      refine wpAnyH_take (i := 5) (oi := ⟨_, _, _, _, _, _⟩) (v := ?vc5) rfl (by kernel_rfl) (by kernel_rfl) (by kernel_rfl) (fun _ _ _ h => h) (Or.inl ⟨by rfl, ?hyc5⟩) hHeld ?_
      case hyc5 => (intro wS hSw; (try dsimp only at hSw); go_simp; (first | done | with_reducible rfl))
      try simp only [Act.put, List.setIfInBounds_toArray, List.set_cons_zero, List.set_cons_succ]
      refine wpAnyH_take (i := 6) (oi := ⟨_, _, _, _, _, _⟩) (v := ?vc6) rfl (by kernel_rfl) (by kernel_rfl) (by kernel_rfl) (fun _ _ _ h => h) (Or.inl ⟨by rfl, ?hyc6⟩) hHeld ?_
      case hyc6 => (intro wS hSw; (try dsimp only at hSw); go_simp; (first | done | with_reducible rfl))
      try simp only [Act.put, List.setIfInBounds_toArray, List.set_cons_zero, List.set_cons_succ]
      refine wpAnyH_take (i := 7) (oi := ⟨_, _, _, _, _, _⟩) (v := ?vc7) rfl (by kernel_rfl) (by kernel_rfl) (by kernel_rfl) (fun _ _ _ h => h) (Or.inl ⟨by rfl, ?hyc7⟩) hHeld ?_
      case hyc7 => (intro wS hSw; (try dsimp only at hSw); go_simp; (first | done | with_reducible rfl))
      try simp only [Act.put, List.setIfInBounds_toArray, List.set_cons_zero, List.set_cons_succ]
      refine wpAnyH_take (i := 8) (oi := ⟨_, _, _, _, _, _⟩) (v := ?vc8) rfl (by kernel_rfl) (by kernel_rfl) (by kernel_rfl) (fun _ _ _ h => h) (Or.inl ⟨by rfl, ?hyc8⟩) hHeld ?_
      case hyc8 => (intro wS hSw; (try dsimp only at hSw); go_simp; (first | done | with_reducible rfl))
      try simp only [Act.put, List.setIfInBounds_toArray, List.set_cons_zero, List.set_cons_succ]
      refine wpAnyH_take (i := 9) (oi := ⟨_, _, _, _, _, _⟩) (v := ?vc9) rfl (by kernel_rfl) (by kernel_rfl) (by kernel_rfl) (fun _ _ _ h => h) (Or.inl ⟨by rfl, ?hyc9⟩) hHeld ?_
      case hyc9 => (intro wS hSw; (try dsimp only at hSw); go_simp; (first | done | with_reducible rfl))
      try simp only [Act.put, List.setIfInBounds_toArray, List.set_cons_zero, List.set_cons_succ]
      refine wpAnyH_take (i := 10) (oi := ⟨_, _, _, _, _, _⟩) (v := ?vc10) rfl (by kernel_rfl) (by kernel_rfl) (by kernel_rfl) (fun _ _ _ h => h) (Or.inl ⟨by rfl, ?hyc10⟩) hHeld ?_
      case hyc10 => (intro wS hSw; (try dsimp only at hSw); go_simp; (first | done | with_reducible rfl))
      try simp only [Act.put, List.setIfInBounds_toArray, List.set_cons_zero, List.set_cons_succ]
      refine wpAnyH_take (i := 11) (oi := ⟨_, _, _, _, _, _⟩) (v := ?vc11) rfl (by kernel_rfl) (by kernel_rfl) (by kernel_rfl) (fun _ _ _ h => h) (Or.inl ⟨by rfl, ?hyc11⟩) hHeld ?_
      case hyc11 => (intro wS hSw; (try dsimp only at hSw); go_simp; (first | done | with_reducible rfl))
      try simp only [Act.put, List.setIfInBounds_toArray, List.set_cons_zero, List.set_cons_succ]
      refine wpAnyH_take (i := 12) (oi := ⟨_, _, _, _, _, _⟩) (v := ?vc12) rfl (by kernel_rfl) (by kernel_rfl) (by kernel_rfl) (fun _ _ _ h => h) (Or.inl ⟨by rfl, ?hyc12⟩) hHeld ?_
      case hyc12 => (intro wS hSw; (try dsimp only at hSw); go_simp; (first | done | with_reducible rfl))
      try simp only [Act.put, List.setIfInBounds_toArray, List.set_cons_zero, List.set_cons_succ]
      refine wpAnyH_take (i := 13) (oi := ⟨_, _, _, _, _, _⟩) (v := ?vc13) rfl (by kernel_rfl) (by kernel_rfl) (by kernel_rfl) (fun _ _ _ h => h) (Or.inl ⟨by rfl, ?hyc13⟩) hHeld ?_
      case hyc13 => (intro wS hSw; (try dsimp only at hSw); go_simp; (first | done | with_reducible rfl))
      try simp only [Act.put, List.setIfInBounds_toArray, List.set_cons_zero, List.set_cons_succ]
      refine wpAnyH_take (i := 14) (oi := ⟨_, _, _, _, _, _⟩) (v := ?vc14) rfl (by kernel_rfl) (by kernel_rfl) (by kernel_rfl) (fun _ _ _ h => h) (Or.inl ⟨by rfl, ?hyc14⟩) hHeld ?_
      case hyc14 => (intro wS hSw; (try dsimp only at hSw); go_simp; (first | done | with_reducible rfl))
      try simp only [Act.put, List.setIfInBounds_toArray, List.set_cons_zero, List.set_cons_succ]
      refine wpAnyH_take (i := 15) (oi := ⟨_, _, _, _, _, _⟩) (v := ?vc15) rfl (by kernel_rfl) (by kernel_rfl) (by kernel_rfl) (fun _ _ _ h => h) (Or.inl ⟨by rfl, ?hyc15⟩) hHeld ?_
      case hyc15 => (intro wS hSw; (try dsimp only at hSw); go_simp; (first | done | with_reducible rfl))
      try simp only [Act.put, List.setIfInBounds_toArray, List.set_cons_zero, List.set_cons_succ]
      refine wpAnyH_take (i := 16) (oi := ⟨_, _, _, _, _, _⟩) (v := ?vc16) rfl (by kernel_rfl) (by kernel_rfl) (by kernel_rfl) (fun _ _ _ h => h) (Or.inl ⟨by rfl, ?hyc16⟩) hHeld ?_
      case hyc16 => (intro wS hSw; (try dsimp only at hSw); go_simp; (first | done | with_reducible rfl))
      try simp only [Act.put, List.setIfInBounds_toArray, List.set_cons_zero, List.set_cons_succ]
      refine wpAnyH_take (i := 17) (oi := ⟨_, _, _, _, _, _⟩) (v := ?vc17) rfl (by kernel_rfl) (by kernel_rfl) (by kernel_rfl) (fun _ _ _ h => h) (Or.inl ⟨by rfl, ?hyc17⟩) hHeld ?_
      case hyc17 => (intro wS hSw; (try dsimp only at hSw); go_simp; (first | done | with_reducible rfl))
      try simp only [Act.put, List.setIfInBounds_toArray, List.set_cons_zero, List.set_cons_succ]
      refine wpAnyH_take (i := 18) (oi := ⟨_, _, _, _, _, _⟩) (v := ?vc18) rfl (by kernel_rfl) (by kernel_rfl) (by kernel_rfl) (fun _ _ _ h => h) (Or.inl ⟨by rfl, ?hyc18⟩) hHeld ?_
      case hyc18 => (intro wS hSw; (try dsimp only at hSw); go_simp; (first | done | with_reducible rfl))
      try simp only [Act.put, List.setIfInBounds_toArray, List.set_cons_zero, List.set_cons_succ]
      refine wpAnyH_take (i := 19) (oi := ⟨_, _, _, _, _, _⟩) (v := ?vc19) rfl (by kernel_rfl) (by kernel_rfl) (by kernel_rfl) (fun _ _ _ h => h) (Or.inl ⟨by rfl, ?hyc19⟩) hHeld ?_
      case hyc19 => (intro wS hSw; (try dsimp only at hSw); go_simp; (first | done | with_reducible rfl))
      try simp only [Act.put, List.setIfInBounds_toArray, List.set_cons_zero, List.set_cons_succ]
      refine wpAnyH_take (i := 20) (oi := ⟨_, _, _, _, _, _⟩) (v := ?vc20) rfl (by kernel_rfl) (by kernel_rfl) (by kernel_rfl) (fun _ _ _ h => h) (Or.inl ⟨by rfl, ?hyc20⟩) hHeld ?_
      case hyc20 => (intro wS hSw; (try dsimp only at hSw); go_simp; (first | done | with_reducible rfl))
      try simp only [Act.put, List.setIfInBounds_toArray, List.set_cons_zero, List.set_cons_succ]
      refine wpAnyH_take (i := 21) (oi := ⟨_, _, _, _, _, _⟩) (v := ?vc21) rfl (by kernel_rfl) (by kernel_rfl) (by kernel_rfl) (fun _ _ _ h => h) (Or.inl ⟨by rfl, ?hyc21⟩) hHeld ?_
      case hyc21 => (intro wS hSw; (try dsimp only at hSw); go_simp; (first | done | with_reducible rfl))
      try simp only [Act.put, List.setIfInBounds_toArray, List.set_cons_zero, List.set_cons_succ]
      refine wpAnyH_take (i := 22) (oi := ⟨_, _, _, _, _, _⟩) (v := ?vc22) rfl (by kernel_rfl) (by kernel_rfl) (by kernel_rfl) (fun _ _ _ h => h) (Or.inl ⟨by rfl, ?hyc22⟩) hHeld ?_
      case hyc22 => (intro wS hSw; (try dsimp only at hSw); go_simp; (first | done | with_reducible rfl))
      try simp only [Act.put, List.setIfInBounds_toArray, List.set_cons_zero, List.set_cons_succ]
      refine wpAnyH_take (i := 23) (oi := ⟨_, _, _, _, _, _⟩) (v := ?vc23) rfl (by kernel_rfl) (by kernel_rfl) (by kernel_rfl) (fun _ _ _ h => h) (Or.inl ⟨by rfl, ?hyc23⟩) hHeld ?_
      case hyc23 => (intro wS hSw; (try dsimp only at hSw); go_simp; (first | done | with_reducible rfl))
      try simp only [Act.put, List.setIfInBounds_toArray, List.set_cons_zero, List.set_cons_succ]
      refine wpAnyH_take (i := 24) (oi := ⟨_, _, _, _, _, _⟩) (v := ?vc24) rfl (by kernel_rfl) (by kernel_rfl) (by kernel_rfl) (fun _ _ _ h => h) (Or.inl ⟨by rfl, ?hyc24⟩) hHeld ?_
      case hyc24 => (intro wS hSw; (try dsimp only at hSw); go_simp; (first | done | with_reducible rfl))
      try simp only [Act.put, List.setIfInBounds_toArray, List.set_cons_zero, List.set_cons_succ]
      refine wpAnyH_take (i := 26) (oi := ⟨_, _, _, _, _, _⟩) (v := ?vc26) rfl (by kernel_rfl) (by kernel_rfl) (by kernel_rfl) (fun _ _ _ h => h) (Or.inl ⟨by rfl, ?hyc26⟩) hHeld ?_
      case hyc26 => (intro wS hSw; (try dsimp only at hSw); go_simp; (first | done | with_reducible rfl))
      try simp only [Act.put, List.setIfInBounds_toArray, List.set_cons_zero, List.set_cons_succ]
      refine wpAnyH_ready (rs := [25, 27]) (by kernel_rfl) (by simp) ?_
      refine AllReadyH.cons (o := ⟨_, _, _, _, _, _⟩) rfl (fun K hK => ?_) (AllReadyH.cons (o := ⟨_, _, _, _, _, _⟩) rfl (fun K hK => ?_) AllReadyH.nil)
      · have c1 := C1.out
        have c1a := C1A.out
        go_simp
        clear c1 c1a
        refine hK.out _ _ ?kcx25 (fun hNew => ?_)
        case kcx25 => (try dsimp only); exact hHeld
        clear hK K hHeld
        have hHeld := hNew
        clear hNew
        try simp only [Act.put, List.setIfInBounds_toArray, List.set_cons_zero, List.set_cons_succ]
        refine wpAnyH_ready (rs := [27]) (by kernel_rfl) (by simp) ?_
        refine AllReadyH.cons (o := ⟨_, _, _, _, _, _⟩) rfl (fun K hK => ?_) AllReadyH.nil
        go_simp
        refine hK.out _ _ ?kcx27 (fun hNew => ?_)
        case kcx27 => (try dsimp only); exact HS3A.out
        clear hK K hHeld
        have hHeld := hNew
        clear hNew
        try simp only [Act.put, List.setIfInBounds_toArray, List.set_cons_zero, List.set_cons_succ]
        refine wpAnyH_ready (rs := [28]) (by kernel_rfl) (by simp) ?_
        refine AllReadyH.cons (o := ⟨_, _, _, _, _, _⟩) rfl (fun K hK => ?_) AllReadyH.nil
        refine step_append_int rfl (.tmp 57) (.tmp 59) rfl 0 (V (kt + 1)) (R'.row (kt + 1)) k (by exact HV.out.symm) HROW.out w2.heap.size rfl HBA.out HFEW.out (Nat.zero_le _) ?_
        intro v2 w5 h5 hg5 hob5
        obtain ⟨A2, n2, cap2, rfl⟩ := row_any h5
        have hp := HPUT.out _ w5 h5 hg5 hob5
        have HP := Lib.hid hp
        clear hp h5 hg5 hob5
        refine hK.out _ _ ?kcx28 (fun hNew => ?_)
        case kcx28 => (try dsimp only); exact HP.out.2.2.1
        clear hK K hHeld
        have hHeld := hNew
        clear hNew
        try simp only [Act.put, List.setIfInBounds_toArray, List.set_cons_zero, List.set_cons_succ]
        refine wpAnyH_take (i := 29) (oi := ⟨_, _, _, _, _, _⟩) (v := ?vcx29) rfl (by kernel_rfl) (by kernel_rfl) (by kernel_rfl) (fun _ _ _ h => h) (Or.inl ⟨by rfl, ?hycx29⟩) hHeld ?_
        case hycx29 => (intro wS hSw; (try dsimp only at hSw); go_simp; (first | done | with_reducible rfl))
        try simp only [Act.put, List.setIfInBounds_toArray, List.set_cons_zero, List.set_cons_succ]
        refine wpAnyH_ready (rs := [30]) (by kernel_rfl) (by simp) ?_
        refine AllReadyH.cons (o := ⟨_, _, _, _, _, _⟩) rfl (fun K hK => ?_) AllReadyH.nil
        have c5 := HP.out.1
        have z5 := HP.out.2.1
        go_simp
        clear c5 z5
        refine hK.out _ _ ?kcx30 (fun hNew => ?_)
        case kcx30 => (try dsimp only); exact HP.out.2.2.2.1
        clear hK K hHeld
        have hHeld := hNew
        clear hNew
        try simp only [Act.put, List.setIfInBounds_toArray, List.set_cons_zero, List.set_cons_succ]
        refine wpAnyH_done (by kernel_rfl) ?_ _
        refine NoPanic.normal ?_
        clear hHeld
        go_wp2_with fail
        refine (errno_at true _).mono ?_
        rintro e wq ⟨rfl, hq⟩
        have hq := hq.symm
        subst hq
        go_wp2_with fail
        go_ret
        obtain ⟨T', q1, q2, _⟩ := HP.out.2.2.2.2
        rw [HBOXES.out, if_pos HLT.out]
        exact ⟨rfl, T', ⟨xb, va, _, q1⟩, HT2.out.trans q2⟩
      · go_simp
        refine hK.out _ _ ?kcy27 (fun hNew => ?_)
        case kcy27 => (try dsimp only); exact HS3A.out
        clear hK K hHeld
        have hHeld := hNew
        clear hNew
        try simp only [Act.put, List.setIfInBounds_toArray, List.set_cons_zero, List.set_cons_succ]
        refine wpAnyH_ready (rs := [25]) (by kernel_rfl) (by simp) ?_
        refine AllReadyH.cons (o := ⟨_, _, _, _, _, _⟩) rfl (fun K hK => ?_) AllReadyH.nil
        have c1 := C1.out
        have c1a := C1A.out
        go_simp
        clear c1 c1a
        refine hK.out _ _ ?kcy25 (fun hNew => ?_)
        case kcy25 => (try dsimp only); exact hHeld
        clear hK K hHeld
        have hHeld := hNew
        clear hNew
        try simp only [Act.put, List.setIfInBounds_toArray, List.set_cons_zero, List.set_cons_succ]
        refine wpAnyH_ready (rs := [28]) (by kernel_rfl) (by simp) ?_
        refine AllReadyH.cons (o := ⟨_, _, _, _, _, _⟩) rfl (fun K hK => ?_) AllReadyH.nil
        refine step_append_int rfl (.tmp 57) (.tmp 59) rfl 0 (V (kt + 1)) (R'.row (kt + 1)) k (by exact HV.out.symm) HROW.out w2.heap.size rfl HBA.out HFEW.out (Nat.zero_le _) ?_
        intro v2 w5 h5 hg5 hob5
        obtain ⟨A2, n2, cap2, rfl⟩ := row_any h5
        have hp := HPUT.out _ w5 h5 hg5 hob5
        have HP := Lib.hid hp
        clear hp h5 hg5 hob5
        refine hK.out _ _ ?kcy28 (fun hNew => ?_)
        case kcy28 => (try dsimp only); exact HP.out.2.2.1
        clear hK K hHeld
        have hHeld := hNew
        clear hNew
        try simp only [Act.put, List.setIfInBounds_toArray, List.set_cons_zero, List.set_cons_succ]
        refine wpAnyH_take (i := 29) (oi := ⟨_, _, _, _, _, _⟩) (v := ?vcy29) rfl (by kernel_rfl) (by kernel_rfl) (by kernel_rfl) (fun _ _ _ h => h) (Or.inl ⟨by rfl, ?hycy29⟩) hHeld ?_
        case hycy29 => (intro wS hSw; (try dsimp only at hSw); go_simp; (first | done | with_reducible rfl))
        try simp only [Act.put, List.setIfInBounds_toArray, List.set_cons_zero, List.set_cons_succ]
        refine wpAnyH_ready (rs := [30]) (by kernel_rfl) (by simp) ?_
        refine AllReadyH.cons (o := ⟨_, _, _, _, _, _⟩) rfl (fun K hK => ?_) AllReadyH.nil
        have c5 := HP.out.1
        have z5 := HP.out.2.1
        go_simp
        clear c5 z5
        refine hK.out _ _ ?kcy30 (fun hNew => ?_)
        case kcy30 => (try dsimp only); exact HP.out.2.2.2.1
        clear hK K hHeld
        have hHeld := hNew
        clear hNew
        try simp only [Act.put, List.setIfInBounds_toArray, List.set_cons_zero, List.set_cons_succ]
        refine wpAnyH_done (by kernel_rfl) ?_ _
        refine NoPanic.normal ?_
        clear hHeld
        go_wp2_with fail
        refine (errno_at true _).mono ?_
        rintro e wq ⟨rfl, hq⟩
        have hq := hq.symm
        subst hq
        go_wp2_with fail
        go_ret
        obtain ⟨T', q1, q2, _⟩ := HP.out.2.2.2.2
        rw [HBOXES.out, if_pos HLT.out]
        exact ⟨rfl, T', ⟨xb, va, _, q1⟩, HT2.out.trans q2⟩
    · have hd : decide (((R'.row (kt + 1)).length : Int) < 32) = false := decide_eq_false (by omega)
      have hd2 : decide ((R'.row (kt + 1)).length < 32) = false := decide_eq_false hlt
      have HLT := Lib.hid hlt
      clear hlt hbl
      go_upto_region 2 with fail
      refine wp_region_noPanic ?_
      refine wp_region_held_drew (S := fun w' => w'.cell? ⟨m, 2, none⟩ = some (.slice (some ⟨xb, 0, none⟩) R'.n capx) ∧ w'.cell? ⟨m, 0, none⟩ = some (.slice (some ⟨gA, 0, none⟩) R'.all.length capa) ∧ w'.cell? ⟨gA, k * 3 + 1, none⟩ = some (.int .i64 (kt : Int)) ∧ w'.cell? ⟨xb, kt, none⟩ = some (.slice Ab (R'.row (kt + 1)).length capb)) (by kernel_rfl) ?hSe (fun hHeld => ?_)
      case hSe => exact HS2.out
      refine wpAnyH_take (i := 0) (oi := ⟨_, _, _, _, _, _⟩) (v := ?ve0) rfl (by kernel_rfl) (by kernel_rfl) (by kernel_rfl) (fun _ _ _ h => h) (Or.inl ⟨by rfl, ?hye0⟩) hHeld ?_
      case hye0 => (intro wS hSw; (try dsimp only at hSw); go_simp; (first | done | with_reducible rfl))
      try simp only [Act.put, List.setIfInBounds_toArray, List.set_cons_zero, List.set_cons_succ]
      refine wpAnyH_take (i := 1) (oi := ⟨_, _, _, _, _, _⟩) (v := ?ve1) rfl (by kernel_rfl) (by kernel_rfl) (by kernel_rfl) (fun _ _ _ h => h) (Or.inl ⟨by rfl, ?hye1⟩) hHeld ?_
      case hye1 => (intro wS hSw; (try dsimp only at hSw); go_simp; (first | done | with_reducible rfl))
      try simp only [Act.put, List.setIfInBounds_toArray, List.set_cons_zero, List.set_cons_succ]
      refine wpAnyH_take (i := 2) (oi := ⟨_, _, _, _, _, _⟩) (v := ?ve2) rfl (by kernel_rfl) (by kernel_rfl) (by kernel_rfl) (fun _ _ _ h => h) (Or.inl ⟨by rfl, ?hye2⟩) hHeld ?_
      case hye2 => (intro wS hSw; (try dsimp only at hSw); go_simp; (first | done | with_reducible rfl))
      try simp only [Act.put, List.setIfInBounds_toArray, List.set_cons_zero, List.set_cons_succ]
      refine wpAnyH_take (i := 3) (oi := ⟨_, _, _, _, _, _⟩) (v := ?ve3) rfl (by kernel_rfl) (by kernel_rfl) (by kernel_rfl) (fun _ _ _ h => h) (Or.inl ⟨by rfl, ?hye3⟩) hHeld ?_
      case hye3 => (intro wS hSw; (try dsimp only at hSw); go_simp; (first | done | with_reducible rfl))
      try simp only [Act.put, List.setIfInBounds_toArray, List.set_cons_zero, List.set_cons_succ]
      refine wpAnyH_take (i := 4) (oi := ⟨_, _, _, _, _, _⟩) (v := ?ve4) rfl (by kernel_rfl) (by kernel_rfl) (by kernel_rfl) (fun _ _ _ h => h) (Or.inl ⟨by rfl, ?hye4⟩) hHeld ?_
      case hye4 => (intro wS hSw; (try dsimp only at hSw); go_simp; (first | done | with_reducible rfl))
      try simp only [Act.put, List.setIfInBounds_toArray, List.set_cons_zero, List.set_cons_succ]
      refine wpAnyH_take (i := 5) (oi := ⟨_, _, _, _, _, _⟩) (v := ?ve5) rfl (by kernel_rfl) (by kernel_rfl) (by kernel_rfl) (fun _ _ _ h => h) (Or.inl ⟨by rfl, ?hye5⟩) hHeld ?_
      case hye5 => (intro wS hSw; (try dsimp only at hSw); go_simp; (first | done | with_reducible rfl))
      try simp only [Act.put, List.setIfInBounds_toArray, List.set_cons_zero, List.set_cons_succ]
      refine wpAnyH_take (i := 6) (oi := ⟨_, _, _, _, _, _⟩) (v := ?ve6) rfl (by kernel_rfl) (by kernel_rfl) (by kernel_rfl) (fun _ _ _ h => h) (Or.inl ⟨by rfl, ?hye6⟩) hHeld ?_
      case hye6 => (intro wS hSw; (try dsimp only at hSw); go_simp; (first | done | with_reducible rfl))
      try simp only [Act.put, List.setIfInBounds_toArray, List.set_cons_zero, List.set_cons_succ]
      refine wpAnyH_take (i := 7) (oi := ⟨_, _, _, _, _, _⟩) (v := ?ve7) rfl (by kernel_rfl) (by kernel_rfl) (by kernel_rfl) (fun _ _ _ h => h) (Or.inl ⟨by rfl, ?hye7⟩) hHeld ?_
      case hye7 => (intro wS hSw; (try dsimp only at hSw); go_simp; (first | done | with_reducible rfl))
      try simp only [Act.put, List.setIfInBounds_toArray, List.set_cons_zero, List.set_cons_succ]
      refine wpAnyH_take (i := 8) (oi := ⟨_, _, _, _, _, _⟩) (v := ?ve8) rfl (by kernel_rfl) (by kernel_rfl) (by kernel_rfl) (fun _ _ _ h => h) (Or.inl ⟨by rfl, ?hye8⟩) hHeld ?_
      case hye8 => (intro wS hSw; (try dsimp only at hSw); go_simp; (first | done | with_reducible rfl))
      try simp only [Act.put, List.setIfInBounds_toArray, List.set_cons_zero, List.set_cons_succ]
      refine wpAnyH_take (i := 9) (oi := ⟨_, _, _, _, _, _⟩) (v := ?ve9) rfl (by kernel_rfl) (by kernel_rfl) (by kernel_rfl) (fun _ _ _ h => h) (Or.inl ⟨by rfl, ?hye9⟩) hHeld ?_
      case hye9 => (intro wS hSw; (try dsimp only at hSw); go_simp; (first | done | with_reducible rfl))
      try simp only [Act.put, List.setIfInBounds_toArray, List.set_cons_zero, List.set_cons_succ]
      refine wpAnyH_take (i := 10) (oi := ⟨_, _, _, _, _, _⟩) (v := ?ve10) rfl (by kernel_rfl) (by kernel_rfl) (by kernel_rfl) (fun _ _ _ h => h) (Or.inl ⟨by rfl, ?hye10⟩) hHeld ?_
      case hye10 => (intro wS hSw; (try dsimp only at hSw); go_simp; (first | done | with_reducible rfl))
      try simp only [Act.put, List.setIfInBounds_toArray, List.set_cons_zero, List.set_cons_succ]
      refine wpAnyH_take (i := 11) (oi := ⟨_, _, _, _, _, _⟩) (v := ?ve11) rfl (by kernel_rfl) (by kernel_rfl) (by kernel_rfl) (fun _ _ _ h => h) (Or.inl ⟨by rfl, ?hye11⟩) hHeld ?_
      case hye11 => (intro wS hSw; (try dsimp only at hSw); go_simp; (first | done | with_reducible rfl))
      try simp only [Act.put, List.setIfInBounds_toArray, List.set_cons_zero, List.set_cons_succ]
      refine wpAnyH_take (i := 12) (oi := ⟨_, _, _, _, _, _⟩) (v := ?ve12) rfl (by kernel_rfl) (by kernel_rfl) (by kernel_rfl) (fun _ _ _ h => h) (Or.inl ⟨by rfl, ?hye12⟩) hHeld ?_
      case hye12 => (intro wS hSw; (try dsimp only at hSw); go_simp; (first | done | with_reducible rfl))
      try simp only [Act.put, List.setIfInBounds_toArray, List.set_cons_zero, List.set_cons_succ]
      refine wpAnyH_take (i := 13) (oi := ⟨_, _, _, _, _, _⟩) (v := ?ve13) rfl (by kernel_rfl) (by kernel_rfl) (by kernel_rfl) (fun _ _ _ h => h) (Or.inl ⟨by rfl, ?hye13⟩) hHeld ?_
      case hye13 => (intro wS hSw; (try dsimp only at hSw); go_simp; (first | done | with_reducible rfl))
      try simp only [Act.put, List.setIfInBounds_toArray, List.set_cons_zero, List.set_cons_succ]
      refine wpAnyH_take (i := 14) (oi := ⟨_, _, _, _, _, _⟩) (v := ?ve14) rfl (by kernel_rfl) (by kernel_rfl) (by kernel_rfl) (fun _ _ _ h => h) (Or.inl ⟨by rfl, ?hye14⟩) hHeld ?_
      case hye14 => (intro wS hSw; (try dsimp only at hSw); go_simp; (first | done | with_reducible rfl))
      try simp only [Act.put, List.setIfInBounds_toArray, List.set_cons_zero, List.set_cons_succ]
      refine wpAnyH_take (i := 15) (oi := ⟨_, _, _, _, _, _⟩) (v := ?ve15) rfl (by kernel_rfl) (by kernel_rfl) (by kernel_rfl) (fun _ _ _ h => h) (Or.inl ⟨by rfl, ?hye15⟩) hHeld ?_
      case hye15 => (intro wS hSw; (try dsimp only at hSw); go_simp; (first | done | with_reducible rfl))
      try simp only [Act.put, List.setIfInBounds_toArray, List.set_cons_zero, List.set_cons_succ]
      refine wpAnyH_take (i := 16) (oi := ⟨_, _, _, _, _, _⟩) (v := ?ve16) rfl (by kernel_rfl) (by kernel_rfl) (by kernel_rfl) (fun _ _ _ h => h) (Or.inl ⟨by rfl, ?hye16⟩) hHeld ?_
      case hye16 => (intro wS hSw; (try dsimp only at hSw); go_simp; (first | done | with_reducible rfl))
      try simp only [Act.put, List.setIfInBounds_toArray, List.set_cons_zero, List.set_cons_succ]
      refine wpAnyH_take (i := 17) (oi := ⟨_, _, _, _, _, _⟩) (v := ?ve17) rfl (by kernel_rfl) (by kernel_rfl) (by kernel_rfl) (fun _ _ _ h => h) (Or.inl ⟨by rfl, ?hye17⟩) hHeld ?_
      case hye17 => (intro wS hSw; (try dsimp only at hSw); go_simp; (first | done | with_reducible rfl))
      try simp only [Act.put, List.setIfInBounds_toArray, List.set_cons_zero, List.set_cons_succ]
      refine wpAnyH_take (i := 18) (oi := ⟨_, _, _, _, _, _⟩) (v := ?ve18) rfl (by kernel_rfl) (by kernel_rfl) (by kernel_rfl) (fun _ _ _ h => h) (Or.inl ⟨by rfl, ?hye18⟩) hHeld ?_
      case hye18 => (intro wS hSw; (try dsimp only at hSw); go_simp; (first | done | with_reducible rfl))
      try simp only [Act.put, List.setIfInBounds_toArray, List.set_cons_zero, List.set_cons_succ]
      refine wpAnyH_done (by kernel_rfl) ?_ _
      refine NoPanic.normal ?_
      clear hHeld
      go_wp2_with fail
      refine (errno_at true _).mono ?_
      rintro e wq ⟨rfl, hq⟩
      have hq := hq.symm
      subst hq
      go_wp2_with fail
      go_ret
      rw [HBOXES.out, if_neg HLT.out]
      exact ⟨rfl, T1, HN1.out.grown (drew_grown w1 none), HT1.out.trans (RTurn.grown HT1.out.lt (drew_grown w1 none))⟩
end Go.Proofs.Ytonfpifikblnjaa.Net
