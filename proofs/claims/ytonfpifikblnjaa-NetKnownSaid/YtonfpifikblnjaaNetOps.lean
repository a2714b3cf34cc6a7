/- The net's functions that only look. -/
import Derived.OwnWalk
import Derived.Test.YtonfpifikblnjaaNetTakeAt
namespace Go.Proofs.Ytonfpifikblnjaa.Net
open Go.RowKit

/-- Is a number one of an end? -/
def Nt.is (D : Nt) (i : Int) : Bool := decide (0 ≤ i) && decide (i < (D.n : Int))
def Nt.waits (D : Nt) (i : Int) : Int := if D.is i = true then ((D.row (i.toNat + 1)).length : Int) else 0
def Nt.there (D : Nt) (i : Int) : Int := if i < 0 ∨ ((D.row 0).length : Int) ≤ i then 5 else 0
theorem Nt.is_nat {D : Nt} {i : Int} (h : D.is i = true) : ∃ k : Nat, i = (k : Int) ∧ k < D.n := by
  unfold Nt.is at h
  rw [Bool.and_eq_true, decide_eq_true_eq, decide_eq_true_eq] at h
  exact ⟨i.toNat, by omega, by omega⟩

set_option maxHeartbeats 1000000 in
theorem ends_at (S : Nat → Prop) (nb : Nat) (D : Nt) (w : World) (h : NetAt w S nb D) :
    Calls Try.prog 12 #[.pointer (some ⟨nb, 0, none⟩)] w fun e w' => e = .returned (.int .i64 (D.n : Int)) ∧ w' = w := by
  obtain ⟨bb, L, h⟩ := h
  have c2 := h.boxes
  clear h
  go_enter Try.func12, Try.ntmps12
  go_wp2
  go_ret
  exact ⟨rfl, rfl⟩

set_option maxHeartbeats 1000000 in
theorem end_at (S : Nat → Prop) (nb : Nat) (D : Nt) (i : Int) (w : World) (h : NetAt w S nb D) :
    Calls Try.prog 29 #[.pointer (some ⟨nb, 0, none⟩), .int .i64 i] w fun e w' => e = .returned (.bool (D.is i)) ∧ w' = w := by
  have HE := Lib.hid (ends_at S nb D w h)
  have HD : Hid (D.is i = (decide (0 ≤ i) && decide (i < (D.n : Int)))) := rfl
  clear h
  go_enter Try.func29, Try.ntmps29
  by_cases h0 : 0 ≤ i
  · have hd : decide (0 ≤ i) = true := decide_eq_true h0
    go_wp2_with fail
    refine HE.out.mono ?_
    rintro e w' ⟨rfl, rfl⟩
    go_wp2_with fail
    go_ret
    rw [HD.out, hd]
    exact ⟨rfl, rfl⟩
  · have hd : decide (0 ≤ i) = false := decide_eq_false h0
    go_wp2_with fail
    go_ret
    rw [HD.out, hd]
    exact ⟨rfl, rfl⟩

set_option maxHeartbeats 1000000 in
theorem waits_at (S : Nat → Prop) (nb : Nat) (D : Nt) (i : Int) (w : World) (h : NetAt w S nb D) :
    Calls Try.prog 24 #[.pointer (some ⟨nb, 0, none⟩), .int .i64 i] w fun e w' => e = .returned (.int .i64 (D.waits i)) ∧ w' = w := by
  have HE := Lib.hid (end_at S nb D i w h)
  obtain ⟨bb, L, h⟩ := h
  obtain ⟨b, hb⟩ : ∃ b, b = D.is i := ⟨_, rfl⟩
  rw [← hb] at HE
  cases b with
  | true =>
    obtain ⟨k, rfl, hk⟩ := Nt.is_nat hb.symm
    have hw : D.waits (k : Int) = ((D.row (k + 1)).length : Int) := by
      unfold Nt.waits
      rw [if_pos hb.symm]
      rfl
    rw [hw]
    obtain ⟨hr, hrow⟩ := h.rows (k + 1) (by omega)
    have c2 := h.boxes
    have cn : w.cell? ⟨bb, k * 2 + 1, none⟩ = some (.int .i64 ((D.row (k + 1)).length : Int)) := by
      have := hr.n
      simp only [pb, po] at this
      rw [hrow, List.length_map, Nat.mul_comm k 2]
      exact this
    have k0 : (0 : Int) ≤ (k : Int) := by omega
    have k1 : (k : Int) < (D.n : Int) := by omega
    clear h hr hrow hw hb
    go_enter Try.func24, Try.ntmps24
    go_wp2_with fail
    refine HE.out.mono ?_
    rintro e w' ⟨rfl, rfl⟩
    go_wp2_with fail
    go_ret
    exact ⟨rfl, rfl⟩
  | false =>
    have hw : D.waits i = 0 := by
      unfold Nt.waits
      rw [if_neg (by rw [← hb]; decide)]
    rw [hw]
    clear h hw hb
    go_enter Try.func24, Try.ntmps24
    go_wp2_with fail
    refine HE.out.mono ?_
    rintro e w' ⟨rfl, rfl⟩
    go_wp2_with fail
    go_ret
    exact ⟨rfl, rfl⟩

set_option maxHeartbeats 1000000 in
theorem there_at (S : Nat → Prop) (nb : Nat) (D : Nt) (i : Int) (w : World) (h : NetAt w S nb D) :
    Calls Try.prog 32 #[.pointer (some ⟨nb, 0, none⟩), .int .i64 i] w fun e w' => e = .returned (.int .i64 (D.there i)) ∧ w' = w := by
  obtain ⟨bb, L, h⟩ := h
  obtain ⟨hr, hrow⟩ := h.rows 0 (Nat.zero_le _)
  have cn : w.cell? ⟨nb, 1, none⟩ = some (.int .i64 ((D.row 0).length : Int)) := by
    have := hr.n
    simp only [pb, po] at this
    rw [hrow, List.length_map]
    exact this
  have HD : Hid (D.there i = if i < 0 ∨ ((D.row 0).length : Int) ≤ i then 5 else 0) := rfl
  clear h hr hrow
  generalize (D.row 0).length = m at cn HD
  by_cases h0 : i < 0
  · have hd : decide (i < 0) = true := decide_eq_true h0
    rw [HD.out, if_pos (.inl h0)]
    clear HD
    go_enter Try.func32, Try.ntmps32
    go_wp2_with fail
    go_ret
    exact ⟨rfl, rfl⟩
  · have hd : decide (i < 0) = false := decide_eq_false h0
    by_cases h1 : (m : Int) ≤ i
    · have hd1 : decide ((m : Int) ≤ i) = true := decide_eq_true h1
      rw [HD.out, if_pos (.inr h1)]
      clear HD h0
      go_enter Try.func32, Try.ntmps32
      go_wp2_with fail
      go_ret
      exact ⟨rfl, rfl⟩
    · have hd1 : decide ((m : Int) ≤ i) = false := decide_eq_false h1
      rw [HD.out, if_neg (by omega)]
      clear HD h0
      go_enter Try.func32, Try.ntmps32
      go_wp2_with fail
      go_ret
      exact ⟨rfl, rfl⟩
end Go.Proofs.Ytonfpifikblnjaa.Net
