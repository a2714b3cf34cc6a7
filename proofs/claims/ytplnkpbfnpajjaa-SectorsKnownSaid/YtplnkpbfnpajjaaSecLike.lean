/- The law's helper like. -/
import Derived.BigQuiet
import Derived.Test.YtplnkpbfnpajjaaSecTell
namespace Go.Proofs.Ytplnkpbfnpajjaa.Sec
open Go.RowKit Go.Maps

theorem str_row {w : World} {B n : Nat} {v : Value} {f : Nat → List UInt8} (h : StrRow w B v (tellV f (n + 1))) : ∃ g cap, v = .slice (some ⟨g, 0, none⟩) (n + 1) cap ∧ B ≤ g ∧ ∀ i, i < n + 1 → w.cell? ⟨g, i, none⟩ = some (strV (f i)) := by
  unfold StrRow at h
  rw [tellV_length] at h
  obtain ⟨_, ⟨_, e⟩ | ⟨g, cap, cur, rfl, hB, hb, _, _, _, ht⟩⟩ := h
  · cases e
  · refine ⟨g, cap, rfl, hB, fun i hi => ?_⟩
    have h1 : (tellV f (n + 1))[i]? = some (strV (f i)) := by simp [tellV, hi]
    rw [← ht, List.getElem?_take] at h1
    rw [cell_blk hb]
    split at h1
    · simpa using h1
    · cases h1

set_option maxRecDepth 100000 in
set_option maxHeartbeats 4000000 in
theorem like_at (B1 B2 : Nat) (va vb : Value) (f g : Nat → List UInt8) (but : Int) (w : World) (ha : StrRow w B1 va (tellV f 8)) (hb : StrRow w B2 vb (tellV g 8)) (hall : ∀ i : Nat, i < 8 → (i : Int) ≠ but → f i = g i) :
    Calls Try.prog 13 #[va, vb, .int .i64 but] w fun e w' => e = .returned (.bool true) ∧ Off (fun _ => False) w w' := by
  obtain ⟨ga, ca, rfl, _, hca⟩ := str_row ha
  obtain ⟨gb, cb, rfl, _, hcb⟩ := str_row hb
  have HA := Lib.hid hca
  have HB := Lib.hid hcb
  have HALL := Lib.hid hall
  clear ha hb hca hcb hall
  go_enter Try.func13, Try.ntmps13
  go_wp2
  go_loopw [7] (fun iv wr => ∃ k : Nat, k ≤ 8 ∧ iv = .int .i64 (k : Int) ∧ ∃ q, wr = w.drewN q) (fun iv _ => 8 - (intOf iv).toNat)
  case atStart => exact ⟨0, Nat.zero_le _, rfl, 0, rfl⟩
  case round =>
    obtain ⟨k, hk, rfl, q, rfl⟩ := hrel
    by_cases hlt : k < 8
    · have hkd : decide ((k : Int) < 8) = true := by simp; omega
      have k0 : (0 : Int) ≤ (k : Int) := by omega
      have k1 : (k : Int) < 8 := by omega
      have c1 := HA.out k hlt
      have c2 := HB.out k hlt
      by_cases he : (k : Int) = but
      · subst he
        go_wp2
        go_quiet (fail)
        go_wp2
        go_roundw
        case rel => exact ⟨k + 1, by omega, by go_num, _, rfl⟩
        case measure => simp [intOf]; omega
      · have hd : decide ((k : Int) = but) = false := by simpa using he
        have hd1 : ((k : Int) == but) = false := by simpa using he
        have hd2 : ((k : Int) != but) = true := by simpa using he
        have hfg := HALL.out k hlt he
        rw [hfg] at c1
        clear he hfg
        go_wp2
        go_quiet (fail)
        go_wp2
        go_roundw
        case rel => exact ⟨k + 1, by omega, by go_num, _, rfl⟩
        case measure => simp [intOf]; omega
    · have hkd : decide ((k : Int) < 8) = false := by simp; omega
      clear hlt hk
      go_wp2
      go_ret
      exact ⟨rfl, ⟨rfl, rfl, rfl, Nat.le_refl _, fun _ _ _ => rfl⟩⟩
end Go.Proofs.Ytplnkpbfnpajjaa.Sec
