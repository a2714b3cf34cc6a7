/- NetCount: how many letters; the law's helper all. -/
import Derived.Test.YtonfpifikblnjaaNetTurnsData
namespace Go.Proofs.Ytonfpifikblnjaa.Net
open Go.RowKit

/-- How many letters lie in the first j boxes. -/
def inbox (D : Nt) : Nat → Nat
  | 0 => 0
  | j + 1 => inbox D j + (D.row (j + 1)).length
def Nt.all (D : Nt) : Nat := (D.row 0).length + inbox D D.n
theorem inbox_le {D : Nt} (h : D.OK) : ∀ j, j ≤ D.n → inbox D j ≤ 32 * j
  | 0, _ => Nat.le_refl _
  | j + 1, hj => by
    have h1 := inbox_le h j (by omega)
    have h2 := h.box j hj
    show inbox D j + (D.row (j + 1)).length ≤ _
    omega
theorem all_le {D : Nt} (h : D.OK) : D.all ≤ 2304 := by
  have h1 := inbox_le h D.n (Nat.le_refl _)
  have := h.way
  have := h.most
  unfold Nt.all
  omega
theorem inbox_congr {D E : Nt} : ∀ j, (∀ x, x < j → (D.row (x + 1)).length = (E.row (x + 1)).length) → inbox D j = inbox E j
  | 0, _ => rfl
  | j + 1, h => by
    show inbox D j + _ = inbox E j + _
    rw [inbox_congr j (fun x hx => h x (by omega)), h j (by omega)]
/-- One box is otherwise. -/
theorem inbox_one {D E : Nt} {k : Nat} : ∀ j, (∀ x, x < j → x ≠ k → (D.row (x + 1)).length = (E.row (x + 1)).length) → k < j → (inbox E j : Int) = (inbox D j : Int) + ((E.row (k + 1)).length : Int) - ((D.row (k + 1)).length : Int)
  | 0, _, h => by omega
  | j + 1, h, hk => by
    show ((inbox E j + (E.row (j + 1)).length : Nat) : Int) = ((inbox D j + (D.row (j + 1)).length : Nat) : Int) + _ - _
    by_cases e : k = j
    · subst e
      have := inbox_congr (D := D) (E := E) k (fun x hx => h x (by omega) (by omega))
      omega
    · have h1 := inbox_one j (fun x hx hne => h x (by omega) hne) (by omega)
      have h2 := h j (by omega) (fun x => e x.symm)
      omega
theorem waits_nat (D : Nt) (j : Nat) (hj : j < D.n) : D.waits (j : Int) = ((D.row (j + 1)).length : Int) := by
  unfold Nt.waits
  rw [if_pos, Int.toNat_natCast]
  unfold Nt.is
  rw [decide_eq_true (by omega : (0 : Int) ≤ (j : Int)), decide_eq_true (by omega)]
  rfl

set_option maxRecDepth 100000 in
set_option maxHeartbeats 4000000 in
theorem all_at (S : Nat → Prop) (nb : Nat) (D : Nt) (w : World) (h : NetAt w S nb D) :
    Calls Try.prog 23 #[.pointer (some ⟨nb, 0, none⟩)] w fun e w' => e = .returned (.int .i64 (D.all : Int)) ∧ w.grownBy w' none := by
  have HH := Lib.hid h
  have HW := Lib.hid (way_at S nb D w h)
  have HB := Lib.hid (And.intro (inbox_le h.ok) (And.intro h.ok.way h.ok.most))
  have HA : Hid (D.all = (D.row 0).length + inbox D D.n) := rfl
  clear h
  go_enter Try.func23, Try.ntmps23
  go_wp2_with fail
  refine HW.out.mono ?_
  rintro e w1 ⟨v, cs, rfl, hcs, hL, hg⟩
  obtain ⟨Av, capv, rfl⟩ := hL.shape hcs
  have HG := Lib.hid hg
  have HN := Lib.hid (HH.out.grown hg)
  clear hcs hL hg HW HH
  go_wp2_with fail
  go_loopw [3, 4] (fun kv iv wr => ∃ j : Nat, j ≤ D.n ∧ iv = .int .i64 (j : Int) ∧ kv = .int .i64 (((D.row 0).length + inbox D j : Nat) : Int) ∧ wr = w1) (fun _ iv _ => D.n - (intOf iv).toNat)
  case atStart => exact ⟨0, Nat.zero_le _, rfl, by simp [inbox], rfl⟩
  case round =>
    obtain ⟨j, hj, rfl, rfl, rfl⟩ := hrel
    have HE := Lib.hid (ends_at S nb D _ HN.out)
    by_cases hjn : j < D.n
    · have hjd : decide ((j : Int) < (D.n : Int)) = true := by simp; omega
      have hjd2 : decide (j < D.n) = true := by simpa using hjn
      have hwt := waits_at S nb D (j : Int) _ HN.out
      rw [waits_nat D j hjn] at hwt
      have HWT := Lib.hid hwt
      have HJN := Lib.hid hjn
      clear hjn hwt
      go_wp2_with fail
      refine HE.out.mono ?_
      rintro e w' ⟨rfl, rfl⟩
      go_wp2_with fail
      refine HWT.out.mono ?_
      rintro e w' ⟨rfl, rfl⟩
      go_wp2_with fail
      go_roundw
      case rel =>
        refine ⟨j + 1, HJN.out, nxt_num j (by have := HJN.out; have := HB.out.2.2; omega), ?_, by first | rfl | trivial⟩
        have h1 := HB.out.1 j (by have := HJN.out; omega)
        have h2 := HB.out.1 (j + 1) HJN.out
        have h3 := HB.out.2
        have h4 : inbox D (j + 1) = inbox D j + (D.row (j + 1)).length := rfl
        congr 1
        unfold wrap64
        omega
      case measure => exact nxt_meas _ j HJN.out (by have := HJN.out; have := HB.out.2.2; omega)
    · have hjd : decide ((j : Int) < (D.n : Int)) = false := by simp; omega
      have hjd2 : decide (j < D.n) = false := by simpa using hjn
      have HJ : Hid (j = D.n) := by show _ = _; omega
      clear hjn
      go_wp2_with fail
      refine HE.out.mono ?_
      rintro e w' ⟨rfl, rfl⟩
      go_wp2_with fail
      go_ret
      rw [HA.out, ← HJ.out]
      exact ⟨rfl, HG.out⟩
end Go.Proofs.Ytonfpifikblnjaa.Net
