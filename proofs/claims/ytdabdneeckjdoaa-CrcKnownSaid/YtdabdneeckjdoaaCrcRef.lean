/- The walks of the document's Windows, and of the statement's look at two rows. -/
import Derived.Test.YtdabdneeckjdoaaCrcWin
namespace Go.Proofs.Ytdabdneeckjdoaa.Crc
open Go.RowKit
attribute [local go_sem] u32_signed not_max_u xor_u xor_at8

/-- How many windows of W bytes n bytes have. -/
def winCount (n : Nat) (W : Int) : Nat := if W < 1 then 0 else n + 1 - W.toNat
theorem winCount_none {n : Nat} {W : Int} (h : W < 1) : winCount n W = 0 := if_pos h
theorem winCount_some {n m : Nat} (h : 1 ≤ m) : winCount n (m : Int) = n + 1 - m := by unfold winCount; rw [if_neg (by omega), Int.toNat_natCast]
theorem winCount_more {n : Nat} {W : Int} (h : (n : Int) < W) : winCount n W = 0 := by
  unfold winCount; split
  · rfl
  · omega

theorem rsum_at (A : Option Addr) (l : List UInt8) (n cap B : Nat) (w : World) (hn : l.length = n) (hl : n ≤ 9223372036854775807) (h : Row8 w B A l) :
    Calls Try.prog 12 #[.slice A n cap] w fun e w' => e = .returned (.int .u32 (u (sum l))) ∧ w = w' := by
  subst hn; exact rsum_any A l cap B w hl h

set_option maxRecDepth 100000 in
set_option maxHeartbeats 1000000 in
theorem rwindows_any (A : Option Addr) (l : List UInt8) (n cap : Nat) (W : Int) (w : World) (hn : l.length = n) (hcap : n ≤ cap) (hW1 : -9223372036854775808 ≤ W) (hW2 : W ≤ 9223372036854775807) (hb : n * 4 ≤ 140737488355000) (h : Row8 w w.heap.size A l) :
    Calls Try.prog 17 #[.slice A n cap, .int .i64 W] w fun e w' => ∃ v, e = .returned v ∧
      w'.ownsRow w.heap.size 22 1 v (winCount n W) (winsV l W.toNat (winCount n W)) ∧ Below w.heap.size w w' := by
  have HN := Lib.hid hn
  clear hn
  have H := Lib.hid h
  clear h
  by_cases hw : W < 1
  · have hd : decide (1 ≤ W) = false := by simp; omega
    go_enter Try.func17, Try.ntmps17
    go_wp2
    refine wp_loop_rounds 1 ?_
    rw [rounds_succ]
    go_wp2
    go_ret
    refine ⟨_, rfl, ?_, Below.refl _ _⟩
    rw [winCount_none hw]
    exact ⟨rfl, .inl ⟨rfl, rfl⟩⟩
  · obtain ⟨m, rfl⟩ := Int.eq_ofNat_of_zero_le (show 0 ≤ W by omega)
    rw [winCount_some (by omega), Int.toNat_natCast]
    have hd : decide (1 ≤ (m : Int)) = true := by simp; omega
    have hm1 : 1 ≤ m := by omega
    obtain ⟨i0, hi0, hz0, hz1, hz2⟩ := info_parts info_u32
    have HI0 := Lib.hid hi0
    have HZ0 := Lib.hid hz0
    have HZ1 := Lib.hid hz1
    have HZ2 := Lib.hid hz2
    clear hi0 hz0 hz1 hz2
    go_enter Try.func17, Try.ntmps17
    go_wp2
    go_loopw [5, 6] (fun v i wr => ∃ k : Nat, k ≤ n + 1 - m ∧ i = .int .i64 k ∧ wr.ownsRow w.heap.size 22 1 v k (winsV l m k) ∧ Below w.heap.size w wr) (fun _ i _ => n + 1 - m - (intOf i).toNat)
    case atStart => exact ⟨0, Nat.zero_le _, rfl, World.ownsRow_nil _ _ _ _, Below.refl _ _⟩
    case round =>
      obtain ⟨k, hk, rfl, hown, hnx⟩ := hrel
      by_cases hlt : k < n + 1 - m
      · obtain ⟨b, off, rfl, hbB, hc⟩ := H.out.at_ (by rw [HN.out]; omega)
        have hpart := Row8.part (w := wr) hbB (fun i hi => (hnx.cell (p := ⟨b, off + i, none⟩) hbB).trans (hc i hi)) k m
        have HP := Lib.hid hpart
        have HO := Lib.hid hown
        have HB := Lib.hid hnx
        have hsz := hnx.size
        clear hpart hown hnx hc
        have d3 : (k : Int) ≤ (n : Int) - (m : Int) := by omega
        go_wp2_with fail
        refine (rsum_at _ ((l.drop k).take m) _ _ w.heap.size _ (by rw [List.length_take, List.length_drop, HN.out]; omega) (by omega) HP.out).mono ?_
        rintro e w' ⟨rfl, rfl⟩
        go_wp2_with (at_builtin; refine wpList_append_own _ rfl (.tmp 19) (.tmp 27) 28 rfl w.heap.size 22 i0 (.int .u32 0) 1 4 Try.underlying28 HI0.out HZ0.out HZ1.out HZ2.out rfl (by decide) _ _ _ rfl (HO.out.alloc _) ⟨wr.heap.size, 0, none⟩ 1 1 [.int .u32 (u (sum ((l.drop k).take m)))] rfl rfl ?c1 ?c2 ?c3 ?c4 ?c5 ?_)
        case c1 =>
          intro j x hj
          match j, hj with
          | 0, hj => simp at hj; subst hj; simp [Addr.add]
        case c2 => intro x hx; simp at hx; subst hx; rfl
        case c3 => unfold maxLen; omega
        case c4 => omega
        case c5 => simp; omega
        intro v' w3 hown' hgrow _
        have R : w3.ownsRow w.heap.size 22 1 v' (k + 1) (winsV l m (k + 1)) := by rw [winsV_succ]; exact hown'
        have RB : Below w.heap.size w w3 := (HB.out.alloc (by omega) _).grown hgrow (by simp; omega) (fun g hg => by
          obtain ⟨_, h2⟩ := HO.out
          rcases h2 with ⟨rfl, _⟩ | ⟨g', c', cur, rfl, hg', _⟩
          · simp [Value.ownBlock] at hg
          · simp [Value.ownBlock] at hg; omega)
        clear hown' hgrow HO HB
        go_wp2
        go_roundw
        case rel => exact ⟨k + 1, by omega, by go_num, R, RB⟩
        case measure => simp [intOf]; omega
      · obtain rfl : k = n + 1 - m := by omega
        have HO := Lib.hid hown
        have HB := Lib.hid hnx
        clear hown hnx
        have d3 : (n : Int) - (m : Int) < ((n + 1 - m : Nat) : Int) := by omega
        go_wp2
        go_ret
        exact ⟨_, rfl, HO.out, HB.out⟩

/-- The program's Windows, of whatever width. -/
theorem windows_any (A : Option Addr) (l : List UInt8) (n cap : Nat) (W : Int) (w : World) (hn : l.length = n) (hcap : n ≤ cap) (hb : n * 4 ≤ 140737488355000) (h : Row8 w w.heap.size A l) :
    Calls Try.prog 18 #[.slice A n cap, .int .i64 W] w fun e w' => ∃ v, e = .returned v ∧
      w'.ownsRow w.heap.size 22 1 v (winCount n W) (winsV l W.toNat (winCount n W)) ∧ Below w.heap.size w w' := by
  by_cases hw : W < 1 ∨ (n : Int) < W
  · refine (windows_no A n cap W w hw).mono ?_
    rintro e w' ⟨rfl, rfl⟩
    have hc : winCount n W = 0 := by
      rcases hw with hw | hw
      · exact winCount_none hw
      · exact winCount_more hw
    rw [hc]
    exact ⟨_, rfl, ⟨rfl, .inl ⟨rfl, rfl⟩⟩, Below.refl _ _⟩
  · obtain ⟨m, rfl⟩ := Int.eq_ofNat_of_zero_le (show 0 ≤ W by omega)
    rw [winCount_some (by omega), Int.toNat_natCast, show n + 1 - m = n - m + 1 by omega]
    exact windows_yes A l n cap m w hn hcap (by omega) (by omega) (by omega) h

/-- A row of 32-bit numbers that is read. -/
def Row32 (w : World) (B : Nat) (v : Value) (xs : List (BitVec 32)) : Prop :=
  ∃ A cap, v = .slice A xs.length cap ∧ (xs = [] ∨ ∃ b, A = some ⟨b, 0, none⟩ ∧ b < B ∧ ∀ i, i < xs.length → w.cell? ⟨b, i, none⟩ = some (.int .u32 (u (xs.getD i 0#32))))
theorem row32_of_own {w : World} {base : Nat} {v : Value} {xs : List (BitVec 32)} {t : TypeId} (h : w.ownsRow base t 1 v xs.length (xs.map fun x => .int .u32 (u x))) : Row32 w w.heap.size v xs := by
  obtain ⟨hl, h2⟩ := h
  rcases h2 with ⟨rfl, hn⟩ | ⟨g, cap, cur, rfl, hg, hh, hnc, hcm, hsz, htk⟩
  · exact ⟨none, 0, by rw [hn], .inl (List.eq_nil_of_length_eq_zero hn)⟩
  · refine ⟨_, _, rfl, .inr ⟨g, rfl, (Array.getElem?_eq_some_iff.1 hh).1, fun i hi => ?_⟩⟩
    rw [cell_of_row w g i cur t (0, 0) hh]
    have h1 : (cur.toList.take (xs.length * 1))[i]? = some (.int .u32 (u xs[i])) := by
      rw [htk]
      simp [hi]
    rw [List.getElem?_take_of_lt (by omega)] at h1
    rw [Array.getElem?_toList] at h1
    rw [h1]
    simp [hi]
theorem Row32.below {w w' : World} {B : Nat} {v : Value} {xs : List (BitVec 32)} (h : Row32 w B v xs) (hb : Below B w w') : Row32 w' B v xs := by
  obtain ⟨A, cap, e, h⟩ := h
  refine ⟨A, cap, e, ?_⟩
  rcases h with h | ⟨b, e2, hb2, hc⟩
  · exact .inl h
  · exact .inr ⟨b, e2, hb2, fun i hi => (hb.cell (p := ⟨b, i, none⟩) hb2).trans (hc i hi)⟩
def wins (l : List UInt8) (w k : Nat) : List (BitVec 32) := (List.range k).map (win l w)
theorem wins_length (l : List UInt8) (w k : Nat) : (wins l w k).length = k := by simp [wins]
theorem winsV_wins (l : List UInt8) (w k : Nat) : winsV l w k = (wins l w k).map fun x => .int .u32 (u x) := by simp [winsV, wins, winV]

end Go.Proofs.Ytdabdneeckjdoaa.Crc
