/- The walk of the statement CrcBack. -/
import Derived.Test.YtdabdneeckjdoaaCrcApp
import Derived.Test.YtdabdneeckjdoaaCrcHalvesW
namespace Go.Proofs.Ytdabdneeckjdoaa.Crc
open Go.RowKit
attribute [local go_sem] u32_signed not_max_u xor_u xor_at8

theorem more_in (s : BitVec 32) (A : Option Addr) (l : List UInt8) (n cap B : Nat) (w : World) (hn : l.length = n) (hl : n ≤ 9223372036854775807) (h : Row8 w B A l) :
    Calls Try.prog 13 #[.int .u32 (u s), .slice A n cap] w fun e w' => e = .returned (.int .u32 (u (more s l))) ∧ w = w' := more_at _ s rfl A l n cap B w hn hl h

set_option maxRecDepth 100000 in
set_option maxHeartbeats 2000000 in
theorem back_walk (s : BitVec 32) (A : Option Addr) (l : List UInt8) (n cap : Nat) (A' : Option Addr) (l' : List UInt8) (n' cap' : Nat) (w : World) (hn : l.length = n) (hz : A = none → cap = 0) (h : Row8 w w.heap.size A l)
    (hn' : l'.length = n') (hz' : A' = none → cap' = 0) (h' : Row8 w w.heap.size A' l') (hl : n ≤ 9223372036854775807) (hl' : n' ≤ 9223372036854775807) :
    Calls Try.prog 6 #[.int .u32 (u s), .slice A n cap, .slice A' n' cap'] w fun e w' => e = .returned (.bool true) ∧ Below w.heap.size w w' := by
  have HN := Lib.hid hn
  have H := Lib.hid h
  have HZ := Lib.hid hz
  have HN' := Lib.hid hn'
  have H' := Lib.hid h'
  have HZ' := Lib.hid hz'
  clear hn h hz hn' h' hz'
  by_cases hlong : 1500 < n ∨ 1500 < n'
  · by_cases h1 : 1500 < n
    · go_enter Try.func6, Try.ntmps6
      go_wp2_with fail
      refine (works_true _).mono ?_
      rintro e w1 ⟨rfl, hB⟩
      go_wp2_with fail
      go_ret
      exact ⟨rfl, hB⟩
    · have h2 : 1500 < n' := hlong.resolve_left h1
      go_enter Try.func6, Try.ntmps6
      go_wp2_with fail
      refine (works_true _).mono ?_
      rintro e w1 ⟨rfl, hB⟩
      go_wp2_with fail
      go_ret
      exact ⟨rfl, hB⟩
  · have h1 : n ≤ 1500 := by omega
    have h2 : n' ≤ 1500 := by omega
    clear hlong
    go_enter Try.func6, Try.ntmps6
    go_wp2_with (first
      | (at_builtin; refine wpList_append_row8 rfl (.tmp 19) (.tmp 20) rfl w.heap.size w.heap.size (.slice none 0 0) [] l rfl (Own8.nil _ _) A n cap rfl HN.out H.out HZ.out (by rw [HN.out]; simp; omega) (Nat.le_refl _) ?_; intro v1 w1 hown1 hg1 _)
      | (at_builtin; refine wpList_append_row8 rfl (.tmp 21) (.tmp 22) rfl w.heap.size w.heap.size v1 ([] ++ l) l' rfl hown1 A' n' cap' rfl HN'.out (H'.out.keep fun p hp => World.cell?_of_block (hg1.block p.block hp (by simp [Value.ownBlock]))) HZ'.out (by rw [List.nil_append, HN.out, HN'.out]; omega) hg1.size ?_; intro v2 w2 hown2 hg2 _))
    have hB2 : Below w.heap.size w w2 := ((Below.refl _ w).grown hg1 (Nat.le_refl _) (by simp [Value.ownBlock])).grown hg2 hg1.size hown1.base
    obtain ⟨Ab, cb, rfl, _, _, _, hrb⟩ := hown2.len
    have hlen : ([] ++ l ++ l').length = n + n' := by rw [List.nil_append, List.length_append, HN.out, HN'.out]
    have f1 : less (more (more s l) l') (l ++ l') = s := by rw [less_append, less_more, less_more]
    have f2 : more (less (less s l') l) (l ++ l') = s := by rw [more_append, more_less, more_less]
    have f3 : more s (l ++ l') = more (more s l) l' := more_append _ _ _
    have f4 : less s (l ++ l') = less (less s l') l := less_append _ _ _
    rw [List.nil_append] at hrb hlen
    have HL := Lib.hid hlen
    have HB := Lib.hid hB2
    have HR := Lib.hid hrb
    have hsz := hB2.size
    rw [List.nil_append, hlen]
    clear hown1 hown2 hg1 hg2 hB2 hrb hlen
    generalize hL : l ++ l' = L at *
    clear hL
    refine (more_in s A l n cap w.heap.size w2 HN.out hl (H.out.below HB.out)).mono ?_
    rintro e w' ⟨rfl, rfl⟩
    go_wp2_with fail
    refine (more_in _ A' l' n' cap' w.heap.size w2 HN'.out hl' (H'.out.below HB.out)).mono ?_
    rintro e w' ⟨rfl, rfl⟩
    go_wp2_with fail
    refine (less_at s A' l' n' cap' w2 HN'.out hl' ((H'.out.below HB.out).more hsz)).mono ?_
    rintro e w3 ⟨rfl, hB3⟩
    have HB3 : Hid (Below w.heap.size w w3) := HB.out.trans (hB3.mono hsz)
    have HR3 : Hid (Row8 w3 w2.heap.size Ab L) := HR.out.below hB3
    have hsz3 := HB3.out.size
    have hsz32 := hB3.size
    clear hB3
    go_wp2_with fail
    refine (less_at _ A l n cap w3 HN.out hl ((H.out.below HB3.out).more hsz3)).mono ?_
    rintro e w4 ⟨rfl, hB4⟩
    have HB4 : Hid (Below w.heap.size w w4) := HB3.out.trans (hB4.mono hsz3)
    have HR4 : Hid (Row8 w4 w2.heap.size Ab L) := HR3.out.below (hB4.mono hsz32)
    have hsz4 := HB4.out.size
    have hsz43 := hB4.size
    clear hB4
    go_wp2_with fail
    refine (less_at _ Ab L _ cb w4 HL.out (by omega) (HR4.out.more (by omega))).mono ?_
    rintro e w5 ⟨rfl, hB5⟩
    have HB5 : Hid (Below w.heap.size w w5) := HB4.out.trans (hB5.mono hsz4)
    have HR5 : Hid (Row8 w5 w2.heap.size Ab L) := HR4.out.below (hB5.mono (by omega))
    have hsz5 := HB5.out.size
    have hsz54 := hB5.size
    clear hB5
    go_wp2_with fail
    refine (more_in _ Ab L _ cb _ w5 HL.out (by omega) HR5.out).mono ?_
    rintro e w' ⟨rfl, rfl⟩
    go_wp2_with fail
    refine (more_in _ Ab L _ cb _ w5 HL.out (by omega) HR5.out).mono ?_
    rintro e w' ⟨rfl, rfl⟩
    go_wp2_with fail
    refine (less_at _ Ab L _ cb w5 HL.out (by omega) (HR5.out.more (by omega))).mono ?_
    rintro e w6 ⟨rfl, hB6⟩
    have HB6 : Hid (Below w.heap.size w w6) := HB5.out.trans (hB6.mono hsz5)
    have hsz6 := HB6.out.size
    clear hB6
    go_wp2_with fail
    refine (works_true _).mono ?_
    rintro e w7 ⟨rfl, hB7⟩
    go_wp2_with fail
    go_ret
    exact ⟨rfl, HB6.out.trans (hB7.mono hsz6)⟩
end Go.Proofs.Ytdabdneeckjdoaa.Crc
