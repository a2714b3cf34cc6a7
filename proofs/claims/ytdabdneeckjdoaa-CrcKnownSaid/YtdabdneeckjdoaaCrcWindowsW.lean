/- The walk of the statement CrcWindows. -/
import Derived.Test.YtdabdneeckjdoaaCrcHalvesW
namespace Go.Proofs.Ytdabdneeckjdoaa.Crc
open Go.RowKit
attribute [local go_sem] u32_signed not_max_u xor_u xor_at8

theorem rwindows_at (A : Option Addr) (l : List UInt8) (n cap : Nat) (W : Int) (w : World) (hn : l.length = n) (hcap : n ≤ cap) (hW : (Lit.int .i64 W).wf = true) (hb : n * 4 ≤ 140737488355000) (h : Row8 w w.heap.size A l) :
    Calls Try.prog 17 #[.slice A n cap, .int .i64 W] w fun e w' => ∃ v, e = .returned v ∧ Row32 w' w'.heap.size v (wins l W.toNat (winCount n W)) ∧ Below w.heap.size w w' := by
  have hb' : -9223372036854775808 ≤ W ∧ W ≤ 9223372036854775807 := by
    simp [Lit.wf, IntKind.min, IntKind.max, IntKind.bits, IntKind.signed] at hW
    simpa using hW
  refine (rwindows_any A l n cap W w hn hcap hb'.1 hb'.2 hb h).mono ?_
  rintro e w' ⟨v, rfl, hown, hB⟩
  refine ⟨v, rfl, row32_of_own (base := w.heap.size) (t := 22) ?_, hB⟩
  rw [wins_length, ← winsV_wins]
  exact hown
/-- A row of 32-bit numbers that the call itself made, and may write. -/
def Own32 (w : World) (B : Nat) (v : Value) (xs : List (BitVec 32)) : Prop := w.ownsRow B 22 1 v xs.length (xs.map fun x => .int .u32 (u x))
theorem windows_at (A : Option Addr) (l : List UInt8) (n cap : Nat) (W : Int) (w : World) (hn : l.length = n) (hcap : n ≤ cap) (hb : n * 4 ≤ 140737488355000) (h : Row8 w w.heap.size A l) :
    Calls Try.prog 18 #[.slice A n cap, .int .i64 W] w fun e w' => ∃ v, e = .returned v ∧ Own32 w' w.heap.size v (wins l W.toNat (winCount n W)) ∧ Below w.heap.size w w' := by
  refine (windows_any A l n cap W w hn hcap hb h).mono ?_
  rintro e w' ⟨v, rfl, hown, hB⟩
  refine ⟨v, rfl, ?_, hB⟩
  unfold Own32
  rw [wins_length, ← winsV_wins]
  exact hown
theorem Own32.row {w : World} {B : Nat} {v : Value} {xs : List (BitVec 32)} (h : Own32 w B v xs) : Row32 w w.heap.size v xs := row32_of_own h
theorem Row32.more {w : World} {B B' : Nat} {v : Value} {xs : List (BitVec 32)} (h : Row32 w B v xs) (hB : B ≤ B') : Row32 w B' v xs := by
  obtain ⟨A, cap, e, h⟩ := h
  refine ⟨A, cap, e, ?_⟩
  rcases h with h | ⟨b, e2, hb2, hc⟩
  · exact .inl h
  · exact .inr ⟨b, e2, by omega, hc⟩
theorem Own32.form {w : World} {B : Nat} {v : Value} {xs : List (BitVec 32)} (h : Own32 w B v xs) (h0 : 0 < xs.length) : ∃ g cap, v = .slice (some ⟨g, 0, none⟩) xs.length cap ∧ B ≤ g := by
  obtain ⟨_, h2⟩ := h
  rcases h2 with ⟨rfl, hn⟩ | ⟨g, cap, cur, rfl, hg, _⟩
  · omega
  · exact ⟨g, cap, rfl, hg⟩
theorem Own32.below {w w' : World} {B : Nat} {v : Value} {xs : List (BitVec 32)} (h : Own32 w B v xs) (hb : Below w.heap.size w w') : Own32 w' B v xs := by
  obtain ⟨h1, h2⟩ := h
  refine ⟨h1, ?_⟩
  rcases h2 with h2 | ⟨g, cap, cur, e, hg, hh, r⟩
  · exact .inl h2
  · exact .inr ⟨g, cap, cur, e, hg, (hb.block g (Array.getElem?_eq_some_iff.1 hh).1).trans hh, r⟩
theorem Own32.len {w : World} {B : Nat} {v : Value} {xs : List (BitVec 32)} (h : Own32 w B v xs) : ∃ A cap, v = .slice A xs.length cap := by
  obtain ⟨_, h2⟩ := h
  rcases h2 with ⟨rfl, hn⟩ | ⟨g, cap, cur, rfl, hg, _⟩
  · exact ⟨none, 0, by rw [hn]⟩
  · exact ⟨_, _, rfl⟩
theorem Own32.cell {w : World} {B g cap : Nat} {xs : List (BitVec 32)} (h : Own32 w B (.slice (some ⟨g, 0, none⟩) xs.length cap) xs) (j : Nat) (hj : j < xs.length) : w.cell? ⟨g, j, none⟩ = some (.int .u32 (at32 xs j)) := by
  have := h.cellAt j (by omega)
  rw [this]
  unfold at32
  simp [hj]
theorem Own32.set {w : World} {B g cap : Nat} {xs : List (BitVec 32)} (h : Own32 w B (.slice (some ⟨g, 0, none⟩) xs.length cap) xs) (j : Nat) (x : BitVec 32) :
    Own32 (w.setCell ⟨g, j, none⟩ (.int .u32 (u x))) B (.slice (some ⟨g, 0, none⟩) xs.length cap) (xs.set j x) := by
  have := World.ownsRow.stored h j (.int .u32 (u x))
  unfold Own32
  rw [List.length_set, List.map_set]
  exact this.1

theorem not_max_at (xs : List (BitVec 32)) (j : Nat) : bits .xor .u32 IntKind.u32.max (at32 xs j) = u (~~~ (xs.getD j 0#32)) := not_max_u _

set_option maxRecDepth 100000 in
set_option maxHeartbeats 2000000 in
theorem windows_walk (A : Option Addr) (l : List UInt8) (n cap : Nat) (W : Int) (w : World) (hn : l.length = n) (hcap : n ≤ cap) (hW : (Lit.int .i64 W).wf = true) (h : Row8 w w.heap.size A l) :
    Calls Try.prog 4 #[.slice A n cap, .int .i64 W] w fun e w' => e = .returned (.bool true) ∧ Below w.heap.size w w' := by
  have HN := Lib.hid hn
  have H := Lib.hid h
  have HW := Lib.hid hW
  clear hn h hW
  by_cases hlong : 300 < n
  · go_enter Try.func4, Try.ntmps4
    go_wp2_with fail
    refine (works_true _).mono ?_
    rintro e w1 ⟨rfl, hB⟩
    go_wp2_with fail
    go_ret
    exact ⟨rfl, hB⟩
  · obtain ⟨w2, c2, hr, hcc, hrow, hB2, hsz⟩ := run_row8_str (P := Try.prog) w l 9 23 5 Try.underlying9 Try.underlying23 Try.underlying5
    rw [HN.out] at hr hcc
    have hs := run_str_row8 (P := Try.prog) 23 9 5 Try.underlying23 Try.underlying5 Try.underlying9 H.out HN.out cap
    have HR := Lib.hid hrow
    have HB2 := Lib.hid hB2
    have hsz' := hB2.size
    clear hrow hB2 hsz
    go_enter Try.func4, Try.ntmps4
    go_wp2_with fail
    clear hr hs
    refine (rwindows_at _ l n cap W w2 HN.out hcap HW.out (by omega) ((H.out.below HB2.out).more hsz')).mono ?_
    rintro e w3 ⟨vw, rfl, hwant, hB3⟩
    have hsz3 := hB3.size
    have HWN := Lib.hid hwant
    have HB3 := Lib.hid hB3
    clear hwant hB3
    go_wp2_with fail
    go_loopw [7] (fun i wr => ∃ t : Nat, t ≤ 2 ∧ i = .int .i64 t ∧ Below w3.heap.size w3 wr) (fun i _ => 2 - (intOf i).toNat)
    case atStart => exact ⟨0, Nat.zero_le _, rfl, Below.refl _ _⟩
    case round =>
      obtain ⟨t, ht, rfl, hnx⟩ := hrel
      by_cases hlt : t < 2
      · have hszr := hnx.size
        have HX := Lib.hid hnx
        have ht2 : decide ((t : Int) < 2) = true := by simp; omega
        clear hnx
        obtain ⟨wo, hwo⟩ : ∃ wo : World, wo = wr := ⟨_, rfl⟩
        rw [← hwo] at HX hszr ⊢
        clear hwo
        have hRo : Hid (Row8 wo w2.heap.size (some ⟨w.heap.size, 0, none⟩) l) := (HR.out.below HB3.out).below (HX.out.mono hsz3)
        have hAo : Hid (Row8 wo w.heap.size A l) := ((H.out.below HB2.out).below (HB3.out.mono hsz')).below (HX.out.mono (by omega))
        go_wp2_with fail
        refine (windows_at _ l n c2 W wo HN.out hcc (by omega) (hRo.out.more (by omega))).mono ?_
        rintro e w4 ⟨v, rfl, hown, hB4⟩
        have hsz4 := hB4.size
        have HO := Lib.hid hown
        have HB4 := Lib.hid hB4
        clear hown hB4
        obtain ⟨Av, cv, rfl⟩ := HO.out.len
        have hsz5 : w3.heap.size ≤ w4.heap.size := by omega
        have hlx : (wins l W.toNat (winCount n W)).length ≤ 9223372036854775807 := by
          rw [wins_length]; unfold winCount; split <;> omega
        generalize hxs : wins l W.toNat (winCount n W) = xs at *
        clear hxs
        go_wp2_with fail
        refine (same_yes _ vw xs w4.heap.size w4 hlx HO.out.row (((HWN.out.below HX.out).below (HB4.out.mono hszr)).more hsz5)).mono ?_
        rintro e w5 ⟨rfl, hB5⟩
        have hsz6 := hB5.size
        have HO5 : Hid (Own32 w5 wo.heap.size _ xs) := HO.out.below hB5
        have HB5 : Hid (Below wo.heap.size wo w5) := HB4.out.trans (hB5.mono hsz4)
        clear hB5 HO HB4
        have e1 := run_str_row8 (P := Try.prog) 23 9 5 Try.underlying23 Try.underlying5 Try.underlying9 (hRo.out.below (HB5.out.mono (by omega))) HN.out c2
        have e2 := run_str_row8 (P := Try.prog) 23 9 5 Try.underlying23 Try.underlying5 Try.underlying9 (hAo.out.below (HB5.out.mono (by omega))) HN.out cap
        go_wp2_with fail
        clear e1 e2
        go_loopw [9] (fun i wr => ∃ (j : Nat) (ys : List (BitVec 32)), j ≤ xs.length ∧ ys.length = xs.length ∧ i = .int .i64 j ∧ Own32 wr wo.heap.size (.slice Av xs.length cv) ys ∧ Below wo.heap.size w5 wr) (fun i _ => xs.length - (intOf i).toNat)
        case atStart => exact ⟨0, xs, Nat.zero_le _, rfl, rfl, HO5.out, Below.refl _ _⟩
        case round =>
          obtain ⟨j, ys, hj, hys, rfl, hown, hnx⟩ := hrel
          by_cases hjl : j < xs.length
          · rw [← hys] at hown hjl hj ⊢
            obtain ⟨g, cg, hv, hg⟩ := hown.form (by omega)
            simp only [Value.slice.injEq] at hv
            obtain ⟨rfl, _, rfl⟩ := hv
            have hc := hown.cell j hjl
            have hf := hown.frozenAt j
            have hm := not_max_at ys j
            have HO6 := Lib.hid hown
            have HB6 := Lib.hid hnx
            clear hown hnx
            go_wp2
            go_roundw
            case rel => exact ⟨j + 1, ys.set j _, by omega, by simp, by go_num, HO6.out.set j _, HB6.out.setCell (p := ⟨g, j, none⟩) hg _⟩
            case measure => simp [intOf]; omega
          · obtain rfl : j = xs.length := by omega
            have HB6 := Lib.hid hnx
            clear hown hnx
            go_wp2
            go_roundw
            case rel => exact ⟨t + 1, by omega, by go_num, HX.out.trans ((HB5.out.trans HB6.out).mono hszr)⟩
            case measure => simp [intOf]; omega
      · obtain rfl : t = 2 := by omega
        have HX := Lib.hid hnx
        have hszr := hnx.size
        clear hnx
        go_wp2_with fail
        refine (works_true _).mono ?_
        rintro e w6 ⟨rfl, hB6⟩
        go_wp2_with fail
        go_ret
        exact ⟨rfl, ((HB2.out.trans (HB3.out.mono hsz')).trans (HX.out.mono (by omega))).trans (hB6.mono (by omega))⟩
end Go.Proofs.Ytdabdneeckjdoaa.Crc
