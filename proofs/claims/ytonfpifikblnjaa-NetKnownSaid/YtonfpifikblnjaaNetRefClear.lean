/- The document's net: Clear, New. -/
import Derived.Test.YtonfpifikblnjaaNetRefRecv
namespace Go.Proofs.Ytonfpifikblnjaa.Net
open Go.RowKit

def Rf.clear (R : Rf) (x : Int) : Rf := if R.is x = true then R.set (x.toNat + 1) [] else R
theorem Rf.OK.sub {R : Rf} (h : R.OK) (j : Nat) (l : List Nat) (hl : l.Sublist (R.row j)) : (R.set j l).OK := by
  have hs : ∀ x, ((R.set j l).row x).Sublist (R.row x) := fun x => by
    show (if x = j then l else R.row x).Sublist (R.row x)
    split
    · rename_i e; rw [e]; exact hl
    · exact List.Sublist.refl _
  exact ⟨fun x hx k hk => h.all x hx k ((hs x).subset hk), fun k hk p hp => h.to_ k ((hs 0).subset hk) p hp, Nat.le_trans (hs 0).length_le h.way, fun x hx => Nat.le_trans (hs (x + 1)).length_le (h.box x hx), h.few⟩
theorem rset_row (R : Rf) (j : Nat) (l : List Nat) : (R.set j l).row j = l := if_pos rfl
theorem rset_set (R : Rf) (j : Nat) (l l' : List Nat) : (R.set j l).set j l' = R.set j l' := by
  unfold Rf.set
  congr 1
  funext x
  dsimp only
  by_cases e : x = j
  · rw [if_pos e, if_pos e]
  · rw [if_neg e, if_neg e, if_neg e]
theorem rset_self (R : Rf) (j : Nat) : R.set j (R.row j) = R := by
  cases R
  unfold Rf.set
  congr 1
  funext x
  dsimp only
  by_cases e : x = j
  · rw [if_pos e, e]
  · rw [if_neg e]
theorem rwaits_nat (R : Rf) (j : Nat) (hj : j < R.n) : R.waits (j : Int) = ((R.row (j + 1)).length : Int) := by
  unfold Rf.waits
  rw [if_pos, Int.toNat_natCast]
  unfold Rf.is
  rw [decide_eq_true (by omega : (0 : Int) ≤ (j : Int)), decide_eq_true (by omega)]
  rfl
def held (b o : Nat) (w : World) : Nat := match w.cell? ⟨b, o, none⟩ with
  | some v => lenOf v
  | none => 0
theorem RefIn.held {w : World} {T : Nat → Prop} {m xb z : Nat} {va : Value} {V : Nat → Value} {R : Rf} (h : RefIn w T m xb va V R) (hz : z < R.n) : held xb z w = (R.row (z + 1)).length := by
  have hc := (h.cell (j := z + 1) hz).1
  obtain ⟨A, cap, hv, _⟩ := int_row (h.rows (z + 1) hz).1
  simp only [rb, ro] at hc
  unfold Net.held
  rw [hc, hv]
  rfl

set_option maxRecDepth 100000 in
set_option maxHeartbeats 4000000 in
theorem rclear_at (T : Nat → Prop) (m : Nat) (R : Rf) (i : Int) (w : World) (h : RefAt w T m R) (ho : R.OK) :
    Calls Try.prog 39 #[.pointer (some ⟨m, 0, none⟩), .int .i64 i] w fun e w' => e = .returned (.tuple #[]) ∧ ∃ T', RefAt w' T' m (R.clear i) ∧ RTurn T T' w w' := by
  unfold Rf.clear
  by_cases his : R.is i = true
  · rw [if_pos his]
    obtain ⟨z, rfl, hz⟩ := Rf.is_nat his
    obtain ⟨xb, va, V, hI⟩ := h
    rw [Int.toNat_natCast]
    have HI := Lib.hid hI
    have HO := Lib.hid ho
    have HZ := Lib.hid hz
    clear his hI ho hz
    go_enter Try.func39, Try.ntmps39
    go_wp2_with fail
    go_loopw [] (fun wr => ∃ (j : Nat) (T' : Nat → Prop) (V' : Nat → Value), RefIn wr T' m xb va V' (R.set (z + 1) ((R.row (z + 1)).drop j)) ∧ RTurn T T' w wr) (fun wr => held xb z wr)
    case atStart => exact ⟨0, T, V, by rw [List.drop_zero, rset_self]; exact HI.out, ⟨Off.refl _ _, fun _ hb => .inl hb, HI.out.lt⟩⟩
    case round =>
      obtain ⟨j, T1, V1, hI1, ht1⟩ := hrel
      have hw := rwaits_at T1 m _ (z : Int) wr ⟨xb, va, V1, hI1⟩
      rw [rwaits_nat (R.set (z + 1) ((R.row (z + 1)).drop j)) z HZ.out, rset_row] at hw
      have hrc := rreceive_at T1 m xb va V1 _ (z : Int) wr hI1 (HO.out.sub (z + 1) _ (List.drop_sublist _ _))
      have HW := Lib.hid hw
      have HI1 := Lib.hid hI1
      have HT1 := Lib.hid ht1
      obtain ⟨ml, hml⟩ : ∃ ml : Int, ml = (((R.row (z + 1)).drop j).length : Int) := ⟨_, rfl⟩
      rw [← hml] at HW
      by_cases h0 : 0 < ml
      · have hd : decide (0 < ml) = true := decide_eq_true h0
        have hrcv : ((R.set (z + 1) ((R.row (z + 1)).drop j)).receive (z : Int)).2 = R.set (z + 1) ((R.row (z + 1)).drop (j + 1)) := by
          unfold Rf.receive
          rw [rwaits_nat (R.set (z + 1) ((R.row (z + 1)).drop j)) z HZ.out, rset_row, if_neg (by omega), Int.toNat_natCast, rset_row]
          show Rf.set _ _ _ = _
          rw [rset_set]
          congr 1
          rw [List.eraseIdx_zero, List.tail_drop]
        rw [hrcv] at hrc
        have HRC := Lib.hid hrc
        have HM : Hid (held xb z wr = ((R.row (z + 1)).drop j).length ∧ ((R.row (z + 1)).drop (j + 1)).length < ((R.row (z + 1)).drop j).length) := by
          refine ⟨by rw [hI1.held HZ.out, rset_row], ?_⟩
          rw [List.length_drop, List.length_drop]
          rw [List.length_drop] at hml
          omega
        clear hw hrc hrcv hml h0 hI1 ht1
        go_wp2_with fail
        refine HW.out.mono ?_
        rintro e w' ⟨rfl, hw⟩
        have hw := hw.symm
        subst hw
        go_wp2_with fail
        refine HRC.out.mono ?_
        rintro e w2 ⟨rfl, T2, V2, hI2, ht2⟩
        have HI2 := Lib.hid hI2
        have HT2 := Lib.hid ht2
        clear hI2 ht2 HRC
        go_wp2_with fail
        go_roundw
        case rel => exact ⟨j + 1, T2, V2, HI2.out, HT1.out.trans HT2.out⟩
        case measure =>
          have h2 := HI2.out.held HZ.out
          rw [rset_row] at h2
          have h1 := HM.out
          omega
      · have hd : decide (0 < ml) = false := decide_eq_false h0
        have hnil : (R.row (z + 1)).drop j = [] := List.eq_nil_of_length_eq_zero (by omega)
        have hI3 := hI1
        rw [hnil] at hI3
        have HI3 := Lib.hid hI3
        clear hw hrc hml h0 hnil hI3 hI1 ht1
        go_wp2_with fail
        refine HW.out.mono ?_
        rintro e w' ⟨rfl, hw⟩
        have hw := hw.symm
        subst hw
        go_wp2_with fail
        go_end0
        exact ⟨rfl, T1, ⟨xb, va, V1, HI3.out⟩, HT1.out⟩
  · rw [if_neg his]
    have hw := rwaits_at T m R i w h
    have h0 : R.waits i = 0 := by unfold Rf.waits; rw [if_neg his]
    rw [h0] at hw
    have HW := Lib.hid hw
    have HH := Lib.hid h
    clear hw h0 his h ho
    go_enter Try.func39, Try.ntmps39
    go_wp2_with fail
    go_loopw [] (fun wr => wr = w) (fun _ => 0)
    case atStart => exact rfl
    case round =>
      obtain rfl := hrel
      go_wp2_with fail
      refine HW.out.mono ?_
      rintro e w' ⟨rfl, hw⟩
      have hw := hw.symm
      subst hw
      go_wp2_with fail
      go_end0
      exact ⟨rfl, T, HH.out, ⟨Off.refl _ _, fun _ hb => .inl hb, HH.out.lt⟩⟩
end Go.Proofs.Ytonfpifikblnjaa.Net
