/- The walk of the statement CrcUnlikes. -/
import Derived.Test.YtdabdneeckjdoaaCrcLe
import Derived.Test.YtdabdneeckjdoaaCrcBackW
namespace Go.Proofs.Ytdabdneeckjdoaa.Crc
open Go.RowKit
attribute [local go_sem] u32_signed not_max_u xor_u xor_at8

theorem Own8.grown {w w' : World} {B : Nat} {v : Value} {l : List UInt8} {row : Option Nat} (h : Own8 w B v l) (hg : w.grownBy w' row) (hne : ∀ g, v.ownBlock = some g → row ≠ some g) : Own8 w' B v l := by
  obtain ⟨h1, h2⟩ := h
  refine ⟨h1, ?_⟩
  rcases h2 with h2 | ⟨g, cap, cur, rfl, hb, hh, r⟩
  · exact .inl h2
  · exact .inr ⟨g, cap, cur, rfl, hb, (hg.block g (Array.getElem?_eq_some_iff.1 hh).1 (fun e => hne g rfl e.symm)).trans hh, r⟩
theorem Own8.lt {w : World} {B : Nat} {v : Value} {l : List UInt8} (h : Own8 w B v l) : ∀ g, v.ownBlock = some g → g < w.heap.size := by
  intro k hk
  obtain ⟨_, h2⟩ := h
  rcases h2 with ⟨rfl, _⟩ | ⟨g, cap, cur, rfl, hg, hh, _⟩
  · simp [Value.ownBlock] at hk
  · simp [Value.ownBlock] at hk; have := (Array.getElem?_eq_some_iff.1 hh).1; omega
/-- Two rows that do not lie in one block. -/
def Apart (p q : Value) : Prop := ∀ g, p.ownBlock = some g → q.ownBlock ≠ some g
theorem Apart.symm {p q : Value} (h : Apart p q) : Apart q p := fun g hg e => h g e hg
theorem apart_step {p p' q : Value} {H : Nat} (h : Apart p q) (hat : p'.ownBlock = p.ownBlock ∨ p'.ownBlock = some H) (hlt : ∀ g, q.ownBlock = some g → g < H) : Apart p' q := by
  intro g hg e
  rcases hat with e1 | e1
  · rw [e1] at hg; exact h g hg e
  · rw [e1] at hg; injection hg with hg; have := hlt g e; omega
theorem row8_one (w : World) (x : BitVec 32) (j : Nat) : Row8 (w.alloc (.cells #[.int .u8 (lebv x j)] 5)) (w.heap.size + 1) (some ⟨w.heap.size, 0, none⟩) [leb x j] := by
  refine .inr ⟨w.heap.size, 0, rfl, by omega, fun i hi => ?_⟩
  obtain rfl : i = 0 := by simpa using hi
  rw [cell_of_row _ _ _ _ _ (0, 0) (heap_alloc_new w _)]
  rfl

set_option maxRecDepth 100000 in
set_option maxHeartbeats 2000000 in
theorem unlikes_walk (m nn : BitVec 32) (A : Option Addr) (l : List UInt8) (n cap : Nat) (x y : BitVec 32) (w : World) (hn : l.length = n) (hl : n ≤ 9223372036854775807) (h : Row8 w w.heap.size A l) :
    Calls Try.prog 7 #[.int .u32 (u m), .int .u32 (u nn), .slice A n cap, .int .u32 (u x), .int .u32 (u y)] w fun e w' => e = .returned (.bool true) ∧ Below w.heap.size w w' := by
  have HN := Lib.hid hn
  have H := Lib.hid h
  clear hn h
  by_cases hlong : 1500 < n
  · go_enter Try.func7, Try.ntmps7
    go_wp2_with fail
    refine (works_true _).mono ?_
    rintro e w1 ⟨rfl, hB⟩
    go_wp2_with fail
    go_ret
    exact ⟨rfl, hB⟩
  · go_enter Try.func7, Try.ntmps7
    go_wp2_with fail
    go_loopw [11, 12, 13] (fun p q i wr => ∃ k : Nat, k ≤ 4 ∧ i = .int .i64 k ∧ Own8 wr w.heap.size p (le4 x k) ∧ Own8 wr w.heap.size q (le4 y k) ∧ Apart p q ∧ Below w.heap.size w wr) (fun _ _ i _ => 4 - (intOf i).toNat)
    case atStart => exact ⟨0, Nat.zero_le _, rfl, Own8.nil _ _, Own8.nil _ _, fun g hg => by simp [Value.ownBlock] at hg, Below.refl _ _⟩
    case round =>
      obtain ⟨k, hk, rfl, hp, hq, hap, hnx⟩ := hrel
      by_cases hlt : k < 4
      · have HP := Lib.hid hp
        have HQ := Lib.hid hq
        have HA := Lib.hid hap
        have HB := Lib.hid hnx
        have hsz := hnx.size
        clear hp hq hap hnx
        have k8 : 0 ≤ 8 * (k : Int) := by omega
        have k9 : 8 * (k : Int) ≤ 32 := by omega
        have x0 := u_lo x
        have y0 := u_lo y
        have fx := leb_form x k
        have fy := leb_form y k
        obtain ⟨Ap, cp, rfl, _, _, _, _⟩ := HP.out.len
        obtain ⟨Aq, cq, rfl, _, _, _, _⟩ := HQ.out.len
        go_wp2_with (first
          | (at_builtin
             refine wpList_append_row8 rfl (.tmp 22) (.tmp 28) rfl w.heap.size (wr.heap.size + 1) (.slice Ap (le4 x k).length cp) (le4 x k) [leb x k] rfl (HP.out.below ((Below.refl _ _).alloc (Nat.le_refl _) _)) (some ⟨wr.heap.size, 0, none⟩) 1 1 rfl rfl (row8_one _ _ _) (fun e => by cases e) (by rw [le4_length]; simp; omega) (by simp; omega) ?_
             intro v1 w1 hown1 hg1 hat1
             have hsz1 : wr.heap.size + 1 ≤ w1.heap.size := by have := hg1.size; simpa using this
             have HQ1 : Hid (Own8 w1 w.heap.size (.slice Aq (le4 y k).length cq) (le4 y k)) := (HQ.out.below ((Below.refl _ _).alloc (Nat.le_refl _) _)).grown hg1 (fun g hg e => HA.out g e hg)
             have HP1 : Hid (Own8 w1 w.heap.size v1 (le4 x (k + 1))) := by rw [le4_succ]; exact hown1
             have HB1 : Hid (Below w.heap.size w w1) := (HB.out.alloc hsz _).grown hg1 (by simp; omega) (HP.out.base)
             have HA1 : Hid (Apart v1 (.slice Aq (le4 y k).length cq)) := apart_step HA.out hat1 (fun g hg => by have := HQ.out.lt g hg; simp; omega)
             clear hown1 hg1 hat1)
          | (at_builtin
             refine wpList_append_row8 rfl (.tmp 30) (.tmp 36) rfl w.heap.size (w1.heap.size + 1) (.slice Aq (le4 y k).length cq) (le4 y k) [leb y k] rfl (HQ1.out.below ((Below.refl _ _).alloc (Nat.le_refl _) _)) (some ⟨w1.heap.size, 0, none⟩) 1 1 rfl rfl (row8_one _ _ _) (fun e => by cases e) (by rw [le4_length]; simp; omega) (by simp; omega) ?_
             intro v2 w2 hown2 hg2 hat2
             have HP2 : Hid (Own8 w2 w.heap.size v1 (le4 x (k + 1))) := (HP1.out.below ((Below.refl _ _).alloc (Nat.le_refl _) _)).grown hg2 (fun g hg e => HA1.out g hg e)
             have HQ2 : Hid (Own8 w2 w.heap.size v2 (le4 y (k + 1))) := by rw [le4_succ]; exact hown2
             have HB2 : Hid (Below w.heap.size w w2) := (HB1.out.alloc (by omega) _).grown hg2 (by simp; omega) (HQ1.out.base)
             have HA2 : Hid (Apart v2 v1) := apart_step HA1.out.symm hat2 (fun g hg => by have := HP1.out.lt g hg; simp; omega)
             clear hown2 hg2 hat2))
        go_roundw
        case rel => exact ⟨k + 1, by omega, by go_num, HP2.out, HQ2.out, HA2.out.symm, HB2.out⟩
        case measure => simp [intOf]; omega
      · obtain rfl : k = 4 := by omega
        have HB := Lib.hid hnx
        have hsz := hnx.size
        obtain ⟨Ap, cp, rfl, _, _, _, hrp⟩ := hp.len
        obtain ⟨Aq, cq, rfl, _, _, _, hrq⟩ := hq.len
        have HRP := Lib.hid hrp
        have HRQ := Lib.hid hrq
        clear hp hq hap hnx hrp hrq
        rw [le4_length, le4_length]
        have f1 := more_like m nn l
        have f2 := less_like m nn l
        have f3 := more4_like m x y
        go_wp2_with fail
        refine (more_in m A l n cap w.heap.size wr HN.out hl (H.out.below HB.out)).mono ?_
        rintro e w' ⟨rfl, rfl⟩
        go_wp2_with fail
        refine (more_in nn A l n cap w.heap.size wr HN.out hl (H.out.below HB.out)).mono ?_
        rintro e w' ⟨rfl, rfl⟩
        go_wp2_with fail
        refine (less_at m A l n cap wr HN.out hl ((H.out.below HB.out).more hsz)).mono ?_
        rintro e w3 ⟨rfl, hB3⟩
        have HB3 : Hid (Below w.heap.size w w3) := HB.out.trans (hB3.mono hsz)
        have HRP3 : Hid (Row8 w3 wr.heap.size Ap (le4 x 4)) := HRP.out.below hB3
        have HRQ3 : Hid (Row8 w3 wr.heap.size Aq (le4 y 4)) := HRQ.out.below hB3
        have hsz3 := HB3.out.size
        have hsz32 := hB3.size
        clear hB3
        go_wp2_with fail
        refine (less_at nn A l n cap w3 HN.out hl ((H.out.below HB3.out).more hsz3)).mono ?_
        rintro e w4 ⟨rfl, hB4⟩
        have HB4 : Hid (Below w.heap.size w w4) := HB3.out.trans (hB4.mono hsz3)
        have HRP4 : Hid (Row8 w4 wr.heap.size Ap (le4 x 4)) := HRP3.out.below (hB4.mono hsz32)
        have HRQ4 : Hid (Row8 w4 wr.heap.size Aq (le4 y 4)) := HRQ3.out.below (hB4.mono hsz32)
        have hsz4 := HB4.out.size
        clear hB4
        go_wp2_with fail
        refine (more_in m Ap (le4 x 4) 4 cp wr.heap.size w4 (le4_length _ _) (by omega) HRP4.out).mono ?_
        rintro e w' ⟨rfl, rfl⟩
        go_wp2_with fail
        refine (more_in m Aq (le4 y 4) 4 cq wr.heap.size w4 (le4_length _ _) (by omega) HRQ4.out).mono ?_
        rintro e w' ⟨rfl, rfl⟩
        go_wp2_with fail
        refine (works_true _).mono ?_
        rintro e w7 ⟨rfl, hB7⟩
        go_wp2_with fail
        go_ret
        exact ⟨rfl, HB4.out.trans (hB7.mono hsz4)⟩
end Go.Proofs.Ytdabdneeckjdoaa.Crc
