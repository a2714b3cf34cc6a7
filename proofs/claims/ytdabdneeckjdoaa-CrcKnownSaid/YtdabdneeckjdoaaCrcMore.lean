/- The walks of the program's and the document's More, Sum, and of the document's Less. -/
import Derived.Test.YtdabdneeckjdoaaCrcRow
import Derived.Test.YtdabdneeckjdoaaCrcFns
namespace Go.Proofs.Ytdabdneeckjdoaa.Crc
open Go.RowKit
attribute [local go_sem] u32_signed not_max_u xor_u xor_at8

theorem more_any (s : BitVec 32) (A : Option Addr) (l : List UInt8) (cap B : Nat) (w : World) (hl : l.length ≤ 9223372036854775807) (h : Row8 w B A l) :
    Calls Try.prog 13 #[.int .u32 (u s), .slice A l.length cap] w fun e w' => e = .returned (.int .u32 (u (more s l))) ∧ w = w' := by
  have H := Lib.hid h
  clear h
  go_enter Try.func13, Try.ntmps13
  go_wp2
  go_loop [5, 12] (fun r i => ∃ k : Nat, k ≤ l.length ∧ i = .int .i64 k ∧ r = .int .u32 (u (ink (~~~ s) l k))) (fun _ i => l.length - (intOf i).toNat)
  case atStart => exact ⟨0, Nat.zero_le _, rfl, rfl⟩
  case round =>
    obtain ⟨k, hk, rfl, rfl⟩ := hrel
    by_cases hlt : k < l.length
    · obtain ⟨b, off, rfl, _, hc⟩ := H.out.at_ (by omega)
      have hck := hc k hlt
      have hb0 := at8_lo l k
      have hb1 := at8_hi l k
      clear hc H
      go_wp2_with (go_at_call 20; refine (eight_h _ _).mono ?_; rintro e w' ⟨rfl, rfl⟩)
      go_round
      case rel => exact ⟨k + 1, by omega, by go_num, by rw [ink_succ _ _ _ hlt]⟩
      case measure => simp [intOf]; omega
    · obtain rfl : k = l.length := by omega
      go_wp2
      go_ret
      exact ⟨ret_int (by rw [ink_full]; rfl), rfl⟩
theorem sum_any (A : Option Addr) (l : List UInt8) (cap B : Nat) (w : World) (hl : l.length ≤ 9223372036854775807) (h : Row8 w B A l) :
    Calls Try.prog 11 #[.slice A l.length cap] w fun e w' => e = .returned (.int .u32 (u (sum l))) ∧ w = w' := by
  have H := Lib.hid h
  clear h
  go_enter Try.func11, Try.ntmps11
  go_wp2_with fail
  refine (more_any 0#32 A l cap B _ hl H.out).mono ?_
  rintro e w' ⟨rfl, rfl⟩
  go_wp2_with fail
  go_ret
  exact ⟨rfl, rfl⟩
theorem rmore_any (s : BitVec 32) (A : Option Addr) (l : List UInt8) (cap B : Nat) (w : World) (hl : l.length ≤ 9223372036854775807) (h : Row8 w B A l) :
    Calls Try.prog 14 #[.int .u32 (u s), .slice A l.length cap] w fun e w' => e = .returned (.int .u32 (u (more s l))) ∧ w = w' := by
  have H := Lib.hid h
  clear h
  go_enter Try.func14, Try.ntmps14
  go_wp2
  go_loop [5, 6] (fun r i => ∃ k : Nat, k ≤ l.length ∧ i = .int .i64 k ∧ r = .int .u32 (u (ink (~~~ s) l k))) (fun _ i => l.length - (intOf i).toNat)
  case atStart => exact ⟨0, Nat.zero_le _, rfl, rfl⟩
  case round =>
    obtain ⟨k, hk, rfl, rfl⟩ := hrel
    by_cases hlt : k < l.length
    · obtain ⟨b, off, rfl, _, hc⟩ := H.out.at_ (by omega)
      have hck := hc k hlt
      have hb0 := at8_lo l k
      have hb1 := at8_hi l k
      clear hc H
      go_wp2
      go_loop [5, 7] (fun r i => ∃ j : Nat, j ≤ 8 ∧ i = .int .i64 j ∧ r = .int .u32 (u (times hv j (ink (~~~ s) l k ^^^ by8 l k)))) (fun _ i => 8 - (intOf i).toNat)
      case atStart => exact ⟨0, Nat.zero_le _, rfl, rfl⟩
      case round =>
        obtain ⟨j, hj, rfl, rfl⟩ := hrel
        by_cases hj8 : j < 8
        · go_wp2_with (go_at_call 22; refine (rhalved_any _ _).mono ?_; rintro e w' ⟨rfl, rfl⟩)
          go_round
          case rel => exact ⟨j + 1, by omega, by go_num, by rw [times_succ']⟩
          case measure => simp [intOf]; omega
        · obtain rfl : j = 8 := by omega
          go_wp2
          go_round
          case rel => exact ⟨k + 1, by omega, by go_num, by rw [← ink_succ _ _ _ hlt]; rfl⟩
          case measure => simp [intOf]; omega
    · obtain rfl : k = l.length := by omega
      go_wp2
      go_ret
      exact ⟨ret_int (by rw [ink_full]; rfl), rfl⟩
theorem rsum_any (A : Option Addr) (l : List UInt8) (cap B : Nat) (w : World) (hl : l.length ≤ 9223372036854775807) (h : Row8 w B A l) :
    Calls Try.prog 12 #[.slice A l.length cap] w fun e w' => e = .returned (.int .u32 (u (sum l))) ∧ w = w' := by
  have H := Lib.hid h
  clear h
  go_enter Try.func12, Try.ntmps12
  go_wp2_with fail
  refine (rmore_any 0#32 A l cap B _ hl H.out).mono ?_
  rintro e w' ⟨rfl, rfl⟩
  go_wp2_with fail
  go_ret
  exact ⟨rfl, rfl⟩
theorem rless_any (s : BitVec 32) (A : Option Addr) (l : List UInt8) (cap B : Nat) (w : World) (hl : l.length ≤ 9223372036854775807) (h : Row8 w B A l) :
    Calls Try.prog 16 #[.int .u32 (u s), .slice A l.length cap] w fun e w' => e = .returned (.int .u32 (u (less s l))) ∧ w = w' := by
  have H := Lib.hid h
  clear h
  go_enter Try.func16, Try.ntmps16
  go_wp2
  go_loop [5, 6] (fun r i => ∃ k : Nat, k ≤ l.length ∧ i = .int .i64 ((k : Int) - 1) ∧ r = .int .u32 (u (outk (~~~ s) l k))) (fun _ i => (intOf i + 1).toNat)
  case atStart => exact ⟨l.length, Nat.le_refl _, rfl, by rw [outk_full]⟩
  case round =>
    obtain ⟨k, hk, rfl, rfl⟩ := hrel
    by_cases hlt : 0 < k
    · obtain ⟨m, rfl⟩ : ∃ m, k = m + 1 := ⟨k - 1, by omega⟩
      have hm : m < l.length := by omega
      obtain ⟨b, off, rfl, _, hc⟩ := H.out.at_ (by omega)
      have hck := hc m hm
      have hb0 := at8_lo l m
      have hb1 := at8_hi l m
      clear hc H
      rw [show (((m + 1 : Nat) : Int) - 1) = (m : Int) by omega]
      go_wp2
      go_loop [5, 7] (fun r i => ∃ j : Nat, j ≤ 8 ∧ i = .int .i64 j ∧ r = .int .u32 (u (times dbl j (outk (~~~ s) l (m + 1))))) (fun _ i => 8 - (intOf i).toNat)
      case atStart => exact ⟨0, Nat.zero_le _, rfl, rfl⟩
      case round =>
        obtain ⟨j, hj, rfl, rfl⟩ := hrel
        by_cases hj8 : j < 8
        · go_wp2_with (go_at_call 25; refine (rdoubled_any _ _).mono ?_; rintro e w' ⟨rfl, rfl⟩)
          go_round
          case rel => exact ⟨j + 1, by omega, by go_num, by rw [times_succ']⟩
          case measure => simp [intOf]; omega
        · obtain rfl : j = 8 := by omega
          go_wp2
          go_round
          case rel => exact ⟨m, by omega, by go_num, by rw [← outk_succ _ _ _ hm]; rfl⟩
          case measure => simp [intOf]
    · obtain rfl : k = 0 := by omega
      rw [show (((0 : Nat) : Int) - 1) = -1 by omega]
      go_wp2
      go_ret
      exact ⟨ret_int (by rw [outk_zero, less]), rfl⟩
end Go.Proofs.Ytdabdneeckjdoaa.Crc
