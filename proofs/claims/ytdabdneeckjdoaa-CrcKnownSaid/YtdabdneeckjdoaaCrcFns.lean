/- The walks of the small functions of the check of bytes: halved, doubled (the program's and the document's), eight. -/
import Derived.WalkKit
import Derived.WalkSpells
import Derived.WalkLawsBesides
import Derived.WalkMore
import Derived.ScopeJumps
import Derived.Lib.Hide
import Derived.Deep.QuietTactic
import Derived.BigQuiet
import Derived.Test.YtdabdneeckjdoaaCrcBits
import Derived.Test.YtdabdneeckjdoaaProg
namespace Go.Proofs.Ytdabdneeckjdoaa.Crc
open Go.RowKit

theorem ret_int {k : IntKind} {a b : Int} (h : a = b) : Ending.returned (.int k a) = .returned (.int k b) := by rw [h]

theorem halved_any (r : BitVec 32) (w : World) :
    Calls Try.prog 21 #[.int .u32 (u r)] w fun e w' => e = .returned (.int .u32 (u (hv r))) ∧ w = w' := by
  have h0 := u_lo r
  have h1 := u_hi r
  go_enter Try.func21, Try.ntmps21
  go_wp2
  go_ret
  exact ⟨ret_int (halved_form r), rfl⟩
theorem rhalved_any (r : BitVec 32) (w : World) :
    Calls Try.prog 22 #[.int .u32 (u r)] w fun e w' => e = .returned (.int .u32 (u (hv r))) ∧ w = w' := by
  have h0 := u_lo r
  have h1 := u_hi r
  go_enter Try.func22, Try.ntmps22
  go_wp2
  · go_ret
    exact ⟨ret_int (rhalved_yes r ‹_›), rfl⟩
  · go_ret
    exact ⟨ret_int (rhalved_no r ‹_›), rfl⟩
theorem doubled_any (r : BitVec 32) (w : World) :
    Calls Try.prog 24 #[.int .u32 (u r)] w fun e w' => e = .returned (.int .u32 (u (dbl r))) ∧ w = w' := by
  have h0 := u_lo r
  have h1 := u_hi r
  go_enter Try.func24, Try.ntmps24
  go_wp2
  go_ret
  exact ⟨ret_int (doubled_form r), rfl⟩
theorem rhalved_at (x : Int) (r : BitVec 32) (hx : x = u r) (w : World) :
    Calls Try.prog 22 #[.int .u32 x] w fun e w' => e = .returned (.int .u32 (u (hv r))) ∧ w = w' := by
  rw [hx]; exact rhalved_any r w
theorem rdoubled_any (r : BitVec 32) (w : World) :
    Calls Try.prog 25 #[.int .u32 (u r)] w fun e w' => e = .returned (.int .u32 (u (dbl r))) ∧ w = w' := by
  have h0 := u_lo r
  have h1 := u_hi r
  have h2 := u_lo (hv (r <<< 1))
  have h3 := u_hi (hv (r <<< 1))
  go_enter Try.func25, Try.ntmps25
  go_wp2_with fail
  refine (rhalved_at _ (r <<< 1) (twice_u r) _).mono ?_
  rintro e w' ⟨rfl, rfl⟩
  go_wp2_with fail
  · have h : (u (hv (r <<< 1)) == u r) = true := by assumption
    go_ret
    exact ⟨ret_int (rdoubled_yes r h), rfl⟩
  · have h : (u (hv (r <<< 1)) == u r) = false := by assumption
    go_ret
    exact ⟨ret_int (rdoubled_no r h), rfl⟩
theorem eight_h (r : BitVec 32) (w : World) :
    Calls Try.prog 20 #[.func (.func 21) #[] #[], .int .u32 (u r)] w fun e w' => e = .returned (.int .u32 (u (h8 r))) ∧ w = w' := by
  have h0 := u_lo r
  have h1 := u_hi r
  go_enter Try.func20, Try.ntmps20
  go_wp2
  refine wp_scope_jumps 0 (fun a' w' => w = w' ∧ ∃ (m : Nat) (s : BitVec 32) (u6 u7 u8 u9 u10 u11 u12 : Value), a' = { tmps := #[.func (.func 21) #[] #[], .int .u32 (u s), undef, undef, .int .u32 0, .int .i64 m, u6, u7, u8, u9, u10, u11, u12, undef], defers := [] } ∧ times hv m s = h8 r ∧ 1 ≤ m ∧ m ≤ 7) (fun a' _ => (intOf (a'.tmps.getD 5 undef)).toNat) rfl ?_ ?_
  · go_wp2
    go_step3
    go_wp2_with (go_at_call 21; refine (halved_any _ _).mono ?_; rintro e w' ⟨rfl, rfl⟩)
    go_step3
    exact ⟨rfl, rfl, 7, hv r, _, _, _, _, _, _, _, rfl, rfl, by omega, by omega⟩
  · rintro a' w' ⟨rfl, m, s, u6, u7, u8, u9, u10, u11, u12, rfl, hs, hm, hm7⟩
    have Hs := Lib.hid hs
    clear hs
    by_cases h : 2 ≤ m
    · go_wp2_with (go_at_call 21; refine (halved_any _ _).mono ?_; rintro e w' ⟨rfl, rfl⟩)
      go_step3
      have e : (m : Int) - 1 = ((m - 1 : Nat) : Int) := by omega
      rw [e]
      refine ⟨rfl, ⟨rfl, m - 1, hv s, _, _, _, _, _, _, _, rfl, ?_, by omega, by omega⟩, ?_⟩
      · rw [← Hs.out]; obtain ⟨k, rfl⟩ : ∃ k, m = k + 1 := ⟨m - 1, by omega⟩; rfl
      · simp [intOf]; omega
    · obtain rfl : m = 1 := by omega
      go_wp2_with (go_at_call 21; refine (halved_any _ _).mono ?_; rintro e w' ⟨rfl, rfl⟩)
      simp only [Exit.jump]
      go_ret
      exact ⟨ret_int (by rw [← Hs.out]; rfl), rfl⟩
theorem eight_d (r : BitVec 32) (w : World) :
    Calls Try.prog 20 #[.func (.func 24) #[] #[], .int .u32 (u r)] w fun e w' => e = .returned (.int .u32 (u (d8 r))) ∧ w = w' := by
  have h0 := u_lo r
  have h1 := u_hi r
  go_enter Try.func20, Try.ntmps20
  go_wp2
  refine wp_scope_jumps 0 (fun a' w' => w = w' ∧ ∃ (m : Nat) (s : BitVec 32) (u6 u7 u8 u9 u10 u11 u12 : Value), a' = { tmps := #[.func (.func 24) #[] #[], .int .u32 (u s), undef, undef, .int .u32 0, .int .i64 m, u6, u7, u8, u9, u10, u11, u12, undef], defers := [] } ∧ times dbl m s = d8 r ∧ 1 ≤ m ∧ m ≤ 7) (fun a' _ => (intOf (a'.tmps.getD 5 undef)).toNat) rfl ?_ ?_
  · go_wp2
    go_step3
    go_wp2_with (go_at_call 24; refine (doubled_any _ _).mono ?_; rintro e w' ⟨rfl, rfl⟩)
    go_step3
    exact ⟨rfl, rfl, 7, dbl r, _, _, _, _, _, _, _, rfl, rfl, by omega, by omega⟩
  · rintro a' w' ⟨rfl, m, s, u6, u7, u8, u9, u10, u11, u12, rfl, hs, hm, hm7⟩
    have Hs := Lib.hid hs
    clear hs
    by_cases h : 2 ≤ m
    · go_wp2_with (go_at_call 24; refine (doubled_any _ _).mono ?_; rintro e w' ⟨rfl, rfl⟩)
      go_step3
      have e : (m : Int) - 1 = ((m - 1 : Nat) : Int) := by omega
      rw [e]
      refine ⟨rfl, ⟨rfl, m - 1, dbl s, _, _, _, _, _, _, _, rfl, ?_, by omega, by omega⟩, ?_⟩
      · rw [← Hs.out]; obtain ⟨k, rfl⟩ : ∃ k, m = k + 1 := ⟨m - 1, by omega⟩; rfl
      · simp [intOf]; omega
    · obtain rfl : m = 1 := by omega
      go_wp2_with (go_at_call 24; refine (doubled_any _ _).mono ?_; rintro e w' ⟨rfl, rfl⟩)
      simp only [Exit.jump]
      go_ret
      exact ⟨ret_int (by rw [← Hs.out]; rfl), rfl⟩
end Go.Proofs.Ytdabdneeckjdoaa.Crc
