/- The walk of the statement CrcHalves. -/
import Derived.Test.YtdabdneeckjdoaaCrcTool
namespace Go.Proofs.Ytdabdneeckjdoaa.Crc
open Go.RowKit
attribute [local go_sem] u32_signed not_max_u xor_u xor_at8

theorem rmore_at (s : BitVec 32) (A : Option Addr) (l : List UInt8) (n cap B : Nat) (w : World) (hn : l.length = n) (hl : n ≤ 9223372036854775807) (h : Row8 w B A l) :
    Calls Try.prog 14 #[.int .u32 (u s), .slice A n cap] w fun e w' => e = .returned (.int .u32 (u (more s l))) ∧ w = w' := by
  subst hn; exact rmore_any s A l cap B w hl h
theorem rless_at (s : BitVec 32) (A : Option Addr) (l : List UInt8) (n cap B : Nat) (w : World) (hn : l.length = n) (hl : n ≤ 9223372036854775807) (h : Row8 w B A l) :
    Calls Try.prog 16 #[.int .u32 (u s), .slice A n cap] w fun e w' => e = .returned (.int .u32 (u (less s l))) ∧ w = w' := by
  subst hn; exact rless_any s A l cap B w hl h
theorem less_at (s : BitVec 32) (A : Option Addr) (l : List UInt8) (n cap : Nat) (w : World) (hn : l.length = n) (hl : n ≤ 9223372036854775807) (h : Row8 w w.heap.size A l) :
    Calls Try.prog 15 #[.int .u32 (u s), .slice A n cap] w fun e w' => e = .returned (.int .u32 (u (less s l))) ∧ Below w.heap.size w w' := by
  subst hn; exact less_any s A l cap w hl h

set_option maxRecDepth 100000 in
set_option maxHeartbeats 1000000 in
theorem halves_walk (s : BitVec 32) (A : Option Addr) (l : List UInt8) (n cap : Nat) (w : World) (hn : l.length = n) (hl : n ≤ 9223372036854775807) (h : Row8 w w.heap.size A l) :
    Calls Try.prog 3 #[.int .u32 (u s), .slice A n cap] w fun e w' => e = .returned (.bool true) ∧ Below w.heap.size w w' := by
  have HN := Lib.hid hn
  have H := Lib.hid h
  clear hn h
  by_cases hlong : 3000 < n
  · go_enter Try.func3, Try.ntmps3
    go_wp2_with fail
    refine (works_true _).mono ?_
    rintro e w1 ⟨rfl, hB⟩
    go_wp2_with fail
    go_ret
    exact ⟨rfl, hB⟩
  · obtain ⟨w2, c2, hr, hcc, hrow, hB2, hsz⟩ := run_row8_str (P := Try.prog) w l 9 23 5 Try.underlying9 Try.underlying23 Try.underlying5
    rw [HN.out] at hr
    have hs := run_str_row8 (P := Try.prog) 23 9 5 Try.underlying23 Try.underlying5 Try.underlying9 H.out HN.out cap
    have HR := Lib.hid hrow
    have HB2 := Lib.hid hB2
    have hsz' := hB2.size
    clear hrow hB2 hsz
    go_enter Try.func3, Try.ntmps3
    go_wp2_with fail
    clear hr hs
    refine (sum_at _ l n c2 _ w2 HN.out hl HR.out).mono ?_
    rintro e w' ⟨rfl, rfl⟩
    go_wp2_with fail
    refine (rsum_at _ l n cap w.heap.size w2 HN.out hl (H.out.below HB2.out)).mono ?_
    rintro e w' ⟨rfl, rfl⟩
    go_wp2_with fail
    refine (more_at _ s rfl _ l n c2 _ w2 HN.out hl HR.out).mono ?_
    rintro e w' ⟨rfl, rfl⟩
    go_wp2_with fail
    refine (rmore_at s _ l n cap w.heap.size w2 HN.out hl (H.out.below HB2.out)).mono ?_
    rintro e w' ⟨rfl, rfl⟩
    go_wp2_with fail
    refine (less_at s _ l n c2 w2 HN.out hl HR.out).mono ?_
    rintro e w3 ⟨rfl, hB3⟩
    have HR3 : Hid (Row8 w3 w2.heap.size _ l) := HR.out.below hB3
    have HA3 : Hid (Row8 w3 w.heap.size A l) := (H.out.below HB2.out).below (hB3.mono hsz')
    have HB3 : Hid (Below w.heap.size w w3) := HB2.out.trans (hB3.mono hsz')
    clear hB3
    go_wp2_with fail
    refine (rless_at s _ l n cap w.heap.size w3 HN.out hl HA3.out).mono ?_
    rintro e w' ⟨rfl, rfl⟩
    have e1 := run_str_row8 (P := Try.prog) 23 9 5 Try.underlying23 Try.underlying5 Try.underlying9 HA3.out HN.out cap
    have e2 := run_str_row8 (P := Try.prog) 23 9 5 Try.underlying23 Try.underlying5 Try.underlying9 HR3.out HN.out c2
    go_wp2_with fail
    clear e1 e2
    refine (works_true _).mono ?_
    rintro e w4 ⟨rfl, hB4⟩
    have hsz3 := HB3.out.size
    go_wp2_with fail
    go_ret
    exact ⟨rfl, HB3.out.trans (hB4.mono hsz3)⟩
end Go.Proofs.Ytdabdneeckjdoaa.Crc
