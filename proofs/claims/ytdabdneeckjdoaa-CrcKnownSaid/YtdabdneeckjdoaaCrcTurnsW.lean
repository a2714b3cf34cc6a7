/- The walk of the statement CrcTurns. -/
import Derived.Test.YtdabdneeckjdoaaCrcSlidesW
namespace Go.Proofs.Ytdabdneeckjdoaa.Crc
open Go.RowKit
attribute [local go_sem] u32_signed not_max_u xor_u xor_at8

theorem win_ahead (a r : List UInt8) (w i : Nat) : win (a ++ r) w (a.length + i) = win r w i := by
  unfold win
  rw [List.drop_append, List.drop_eq_nil_of_le (by omega), List.nil_append, show a.length + i - a.length = i by omega]
theorem win_round (b : List UInt8) (w i : Nat) (h1 : b.length ≤ i) (h2 : i + w ≤ 3 * b.length) : win (b ++ b ++ b) w i = win (b ++ b ++ b) w (i - b.length) := by
  unfold win
  have e1 : (b ++ b ++ b).drop i = (b ++ b).drop (i - b.length) := by
    rw [List.append_assoc, List.drop_append, List.drop_eq_nil_of_le h1, List.nil_append]
  have e2 : ((b ++ b ++ b).drop (i - b.length)).take w = ((b ++ b).drop (i - b.length)).take w := by
    rw [List.drop_append, List.take_append]
    have hl : ((b ++ b).drop (i - b.length)).length = 2 * b.length - (i - b.length) := by rw [List.length_drop, List.length_append]; omega
    rw [hl, show w - (2 * b.length - (i - b.length)) = 0 by omega]
    simp
  rw [e1, e2]

set_option maxRecDepth 100000 in
set_option maxHeartbeats 2000000 in
theorem turns_short (A : Option Addr) (n cap : Nat) (A' : Option Addr) (m cap' : Nat) (d : Nat) (w : World) (h : n = 0 ∨ 40 < n ∨ 100 < m) :
    Calls Try.prog 8 #[.slice A n cap, .slice A' m cap', .int .u8 d] w fun e w' => e = .returned (.bool true) ∧ Below w.heap.size w w' := by
  by_cases h0 : n = 0
  · subst h0
    go_enter Try.func8, Try.ntmps8
    go_wp2_with fail
    refine (works_true _).mono ?_
    rintro e w1 ⟨rfl, hB⟩
    go_wp2_with fail
    go_ret
    exact ⟨rfl, hB⟩
  · have hn0 : ((n : Int) == 0) = false := by simp; omega
    by_cases h1 : 40 < n
    · go_enter Try.func8, Try.ntmps8
      go_wp2_with fail
      refine (works_true _).mono ?_
      rintro e w1 ⟨rfl, hB⟩
      go_wp2_with fail
      go_ret
      exact ⟨rfl, hB⟩
    · have h2 : 100 < m := by omega
      have h3 : n ≤ 40 := by omega
      go_enter Try.func8, Try.ntmps8
      go_wp2_with fail
      refine (works_true _).mono ?_
      rintro e w1 ⟨rfl, hB⟩
      go_wp2_with fail
      go_ret
      exact ⟨rfl, hB⟩

theorem nil_own (w : World) (B : Nat) : Own8 w B (.slice none 0 0) [] := Own8.nil w B

set_option maxRecDepth 100000 in
set_option maxHeartbeats 4000000 in
theorem turns_long (A : Option Addr) (l : List UInt8) (n cap : Nat) (A' : Option Addr) (l' : List UInt8) (m cap' : Nat) (d : Nat) (w : World) (hn : l.length = n) (hz : A = none → cap = 0) (h : Row8 w w.heap.size A l)
    (hn' : l'.length = m) (hz' : A' = none → cap' = 0) (h' : Row8 w w.heap.size A' l') (hd : d ≤ 255) (h0 : 1 ≤ n) (h6 : n ≤ 40) (h7 : m ≤ 100) :
    Calls Try.prog 8 #[.slice A n cap, .slice A' m cap', .int .u8 d] w fun e w' => e = .returned (.bool true) ∧ Below w.heap.size w w' := by
  have HN := Lib.hid hn
  have HZ := Lib.hid hz
  have H := Lib.hid h
  have HN' := Lib.hid hn'
  have HZ' := Lib.hid hz'
  have H' := Lib.hid h'
  clear hn hz h hn' hz' h'
  obtain ⟨W, hW⟩ : ∃ W, W = 1 + d % (2 * n) := ⟨_, rfl⟩
  have hWi : (1 : Int) + (d : Int) % (2 * (n : Int)) = (W : Int) := by rw [hW]; simp
  have hW1 : 1 ≤ W := by omega
  have hW2 : W ≤ 2 * n := by have := Nat.mod_lt d (show 2 * n > 0 by omega); omega
  have hm0 : 0 ≤ (d : Int) % (2 * (n : Int)) := by omega
  have hm1 : (d : Int) % (2 * (n : Int)) < 2 * n := by omega
  clear hW
  have hn0 : ((n : Int) == 0) = false := by simp; omega
  have hd1 : decide (40 < (n : Int)) = false := by simp; omega
  have hd2 : decide (100 < (m : Int)) = false := by simp; omega
  go_enter Try.func8, Try.ntmps8
  go_wp2_with (first
    | (at_builtin
       refine wpList_append_row8 rfl (.tmp 27) (.tmp 28) rfl w.heap.size w.heap.size (.slice none 0 0) [] l rfl (Own8.nil _ _) A n cap rfl HN.out H.out HZ.out (by rw [HN.out]; simp; omega) (Nat.le_refl _) ?_
       intro v1 w1 hown1 hg1 _
       have HB1 : Hid (Below w.heap.size w w1) := (Below.refl _ w).grown hg1 (Nat.le_refl _) (by simp [Value.ownBlock])
       have HO1 : Hid (Own8 w1 w.heap.size v1 l) := hown1
       have hs1 := HB1.out.size
       clear hown1 hg1)
    | (at_builtin
       refine wpList_append_row8 rfl (.tmp 29) (.tmp 30) rfl w.heap.size w.heap.size v1 l l rfl HO1.out A n cap rfl HN.out (H.out.below HB1.out) HZ.out (by rw [HN.out]; omega) hs1 ?_
       intro v2 w2 hown2 hg2 _
       have HB2 : Hid (Below w.heap.size w w2) := HB1.out.grown hg2 hs1 HO1.out.base
       have HO2 : Hid (Own8 w2 w.heap.size v2 (l ++ l)) := hown2
       have hs2 := HB2.out.size
       clear hown2 hg2)
    | (at_builtin
       refine wpList_append_row8 rfl (.tmp 31) (.tmp 32) rfl w.heap.size w.heap.size v2 (l ++ l) l rfl HO2.out A n cap rfl HN.out (H.out.below HB2.out) HZ.out (by rw [List.length_append, HN.out]; omega) hs2 ?_
       intro v3 w3 hown3 hg3 _
       have HB3 : Hid (Below w.heap.size w w3) := HB2.out.grown hg3 hs2 HO2.out.base
       have HO3 : Hid (Own8 w3 w.heap.size v3 (l ++ l ++ l)) := hown3
       have hs3 := HB3.out.size
       clear hown3 hg3
       obtain ⟨Ar, cr, hvr, hcr1, hcr2, hcr3, hrr⟩ := HO3.out.len
       rw [show (l ++ l ++ l).length = 3 * n by simp [HN.out]; omega] at hvr hcr1
       have HVR := Lib.hid hvr
       have HRR := Lib.hid hrr
       have HCR := Lib.hid hcr3
       clear hvr hrr hcr3
       rw [HVR.out])
    | (at_builtin
       refine wpList_append_row8 rfl (.tmp 34) (.tmp 35) rfl w3.heap.size w.heap.size (.slice none 0 0) [] l' rfl (Own8.nil _ _) A' m cap' rfl HN'.out (H'.out.below HB3.out) HZ'.out (by rw [HN'.out]; simp; omega) (Nat.le_refl _) ?_
       intro v4 w4 hown4 hg4 _
       have HB4 : Hid (Below w3.heap.size w3 w4) := (Below.refl _ w3).grown hg4 (Nat.le_refl _) (by simp [Value.ownBlock])
       have HO4 : Hid (Own8 w4 w3.heap.size v4 l') := hown4
       have hs4 := HB4.out.size
       clear hown4 hg4)
    | (at_builtin
       refine wpList_append_row8 rfl (.tmp 36) (.tmp 37) rfl w3.heap.size w3.heap.size v4 l' (l ++ l ++ l) rfl HO4.out Ar (3 * n) cr rfl (by simp [HN.out]; omega) (HRR.out.below HB4.out) HCR.out (by simp [HN.out, HN'.out]; omega) hs4 ?_
       intro v5 w5 hown5 hg5 _
       have HB5 : Hid (Below w3.heap.size w3 w5) := HB4.out.grown hg5 hs4 HO4.out.base
       have HO5 : Hid (Own8 w5 w3.heap.size v5 (l' ++ (l ++ l ++ l))) := hown5
       have hs5 := HB5.out.size
       clear hown5 hg5
       obtain ⟨Af, cf, hvf, hcf1, hcf2, _, hrf⟩ := HO5.out.len
       rw [show (l' ++ (l ++ l ++ l)).length = m + 3 * n by simp [HN.out, HN'.out]; omega] at hvf hcf1
       have HVF := Lib.hid hvf
       have HRF := Lib.hid hrf
       clear hvf hrf
       rw [HVF.out]))
  have hRr : Row8 w5 w3.heap.size Ar (l ++ l ++ l) := HRR.out.below HB5.out
  have HRr := Lib.hid hRr
  have HF1 : Hid ((l ++ l ++ l).length = 3 * n) := (by simp [HN.out]; omega : (l ++ l ++ l).length = 3 * n)
  have HF2 : Hid ((l' ++ (l ++ l ++ l)).length = m + 3 * n) := (by simp [HN.out, HN'.out]; omega : (l' ++ (l ++ l ++ l)).length = m + 3 * n)
  have HB05 : Hid (Below w.heap.size w w5) := HB3.out.trans (HB5.out.mono hs3)
  have hs05 := HB05.out.size
  clear hRr HVR HVF HRR HO1 HO2 HO3 HO4 HO5 HB1 HB2 HB4 HCR
  refine (windows_at _ (l ++ l ++ l) (3 * n) cr (W : Int) w5 HF1.out hcr1 (by omega) (HRr.out.more hs5)).mono ?_
  rintro e w6 ⟨vl, rfl, hown6, hB6⟩
  rw [winCount_some hW1, Int.toNat_natCast] at hown6
  obtain ⟨c1, hc1⟩ : ∃ c, c = 3 * n + 1 - W := ⟨_, rfl⟩
  rw [← hc1] at hown6
  have hc11 : c1 + W ≤ 3 * n + 1 := by omega
  have hc12 : 3 * n + 1 ≤ c1 + W := by omega
  clear hc1
  obtain ⟨Al, cl, hv⟩ := hown6.len
  rw [hv] at hown6 ⊢
  clear hv
  obtain ⟨gl, rfl, hgl, _, hcl⟩ := row32_cell hown6.row (by rw [wins_length]; omega)
  rw [wins_length] at hcl ⊢
  have hs6 := hB6.size
  have HCL := Lib.hid hcl
  have HB6 := Lib.hid hB6
  clear hown6 hcl hB6
  go_wp2_with fail
  refine (windows_at _ (l' ++ (l ++ l ++ l)) (m + 3 * n) cf (W : Int) w6 HF2.out hcf1 (by omega) ((HRF.out.below HB6.out).more hs6)).mono ?_
  rintro e w7 ⟨vm, rfl, hown7, hB7⟩
  rw [winCount_some hW1, Int.toNat_natCast] at hown7
  obtain ⟨c2, hc2⟩ : ∃ c, c = m + 3 * n + 1 - W := ⟨_, rfl⟩
  rw [← hc2] at hown7
  have hc21 : c2 + W ≤ m + 3 * n + 1 := by omega
  have hc22 : m + 3 * n + 1 ≤ c2 + W := by omega
  clear hc2
  obtain ⟨Am, cm, hv⟩ := hown7.len
  rw [hv] at hown7 ⊢
  clear hv
  obtain ⟨gm, rfl, hgm, _, hcm⟩ := row32_cell hown7.row (by rw [wins_length]; omega)
  rw [wins_length] at hcm ⊢
  have hs7 := hB7.size
  have HCM := Lib.hid hcm
  have HB7 := Lib.hid hB7
  clear hown7 hcm hB7
  have hcb1 : ((c1 : Int) != 3 * (n : Int) - (W : Int) + 1) = false := by simp; omega
  have hcb2 : ((c2 : Int) != (m : Int) + 3 * (n : Int) - (W : Int) + 1) = false := by simp; omega
  go_wp2_with fail
  go_loopw [12] (fun i wr => ∃ k : Nat, k ≤ c1 ∧ i = .int .i64 k ∧ Below w7.heap.size w7 wr) (fun i _ => c1 - (intOf i).toNat)
  case atStart => exact ⟨0, Nat.zero_le _, rfl, Below.refl _ _⟩
  case round =>
    obtain ⟨k, hk, rfl, hnx⟩ := hrel
    have hszr : w7.heap.size ≤ wr.heap.size := hnx.size
    have HX : Hid (Below w7.heap.size w7 wr) := hnx
    have HBr : Hid (Below w.heap.size w wr) := ((HB05.out.trans (HB6.out.mono hs05)).trans (HB7.out.mono (by omega))).trans (hnx.mono (by omega))
    clear hnx
    by_cases hlt : k < c1
    · obtain ⟨W0, hW0⟩ : ∃ W0, W0 = win (l ++ l ++ l) W k := ⟨_, rfl⟩
      have a1 : wr.cell? ⟨gl, k, none⟩ = some (.int .u32 (u W0)) := by
        rw [HX.out.cell (p := ⟨gl, k, none⟩) (by show gl < _; omega), HB7.out.cell (p := ⟨gl, k, none⟩) hgl, HCL.out k (by omega), wins_get _ W c1 k hlt, hW0]
      have a2 : wr.cell? ⟨gm, m + k, none⟩ = some (.int .u32 (u W0)) := by
        rw [HX.out.cell (p := ⟨gm, m + k, none⟩) hgm, HCM.out (m + k) (by omega), wins_get _ W c2 (m + k) (by omega), ← HN'.out, win_ahead, hW0]
      have a3 : n ≤ k → wr.cell? ⟨gl, k - n, none⟩ = some (.int .u32 (u W0)) := fun hnk => by
        rw [HX.out.cell (p := ⟨gl, k - n, none⟩) (by show gl < _; omega), HB7.out.cell (p := ⟨gl, k - n, none⟩) hgl, HCL.out (k - n) (by omega), wins_get _ W c1 (k - n) (by omega), hW0, win_round l W k (by rw [HN.out]; omega) (by rw [HN.out]; omega), HN.out]
      clear hW0
      have k0 : 0 ≤ (k : Int) := by omega
      have k1 : (k : Int) < (c1 : Int) := by omega
      have k2 : IntKind.i64.wrap ((m : Int) + (k : Int)) = (m : Int) + (k : Int) := IntWalk.i64_in _ (by omega)
      have k3 : 0 ≤ (m : Int) + (k : Int) := by omega
      have k4 : (m : Int) + (k : Int) < (c2 : Int) := by omega
      have k5 : ((m : Int) + (k : Int)).toNat = m + k := by omega
      have hkc : decide ((k : Int) < (c1 : Int)) = true := by simp; omega
      by_cases hnk : n ≤ k
      · have a3' := a3 hnk
        have n1 : decide ((n : Int) ≤ (k : Int)) = true := by simp; omega
        have n2 : IntKind.i64.wrap ((k : Int) - (n : Int)) = (k : Int) - (n : Int) := IntWalk.i64_in _ (by omega)
        have n3 : 0 ≤ (k : Int) - (n : Int) := by omega
        have n4 : (k : Int) - (n : Int) < (c1 : Int) := by omega
        have n5 : ((k : Int) - (n : Int)).toNat = k - n := by omega
        clear a3
        go_wp2
        go_quiet (fail)
        go_wp2
        go_roundw
        case rel => exact ⟨k + 1, by omega, by go_num, HX.out.os, HX.out.tape, HX.out.output, HX.out.size, HX.out.block⟩
        case measure => simp [intOf]; omega
      · have n1 : decide ((n : Int) ≤ (k : Int)) = false := by simp; omega
        clear a3
        go_wp2
        go_quiet (fail)
        go_wp2
        go_roundw
        case rel => exact ⟨k + 1, by omega, by go_num, HX.out.os, HX.out.tape, HX.out.output, HX.out.size, HX.out.block⟩
        case measure => simp [intOf]; omega
    · obtain rfl : c1 = k := by omega
      go_wp2_with fail
      refine (works_true _).mono ?_
      rintro e w8 ⟨rfl, hB8⟩
      go_wp2_with fail
      go_ret
      exact ⟨rfl, HBr.out.trans (hB8.mono HBr.out.size)⟩
end Go.Proofs.Ytdabdneeckjdoaa.Crc
