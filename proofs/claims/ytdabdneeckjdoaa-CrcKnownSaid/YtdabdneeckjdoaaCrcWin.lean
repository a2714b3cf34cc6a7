/- The walk of the program's Windows. -/
import Derived.OwnWalk
import Derived.Test.YtdabdneeckjdoaaCrcGone
import Derived.Test.YtdabdneeckjdoaaCrcMore
namespace Go.Proofs.Ytdabdneeckjdoaa.Crc
open Go.RowKit
attribute [local go_sem] u32_signed not_max_u xor_u xor_at8

/-- Window i of w bytes: its Sum. -/
def win (l : List UInt8) (w i : Nat) : BitVec 32 := sum ((l.drop i).take w)
def winV (l : List UInt8) (w i : Nat) : Value := .int .u32 (u (win l w i))
/-- The first k windows' Sums, as values. -/
def winsV (l : List UInt8) (w k : Nat) : List Value := (List.range k).map (winV l w)
theorem winsV_succ (l : List UInt8) (w k : Nat) : winsV l w (k + 1) = winsV l w k ++ [winV l w k] := by simp [winsV, List.range_succ]
theorem winsV_length (l : List UInt8) (w k : Nat) : (winsV l w k).length = k := by simp [winsV]

def ones : BitVec 32 := BitVec.allOnes 32
theorem ones_eq : (4294967295 : Int) = u ones := by decide
theorem ones_still (l : List UInt8) (W : Nat) (h : (l.take W).length = W) : u (sum (l.take W) ^^^ more ones (l.take W)) = u (still W) := by
  have := still_eq (l.take W)
  rw [h] at this
  rw [show ones = BitVec.allOnes 32 from rfl, this]
/-- The next window's Sum, as the program reckons it. -/
theorem win_next (l : List UInt8) (W k : Nat) (h1 : 1 ≤ W) (h : W + k < l.length) :
    ~~~ (h8 (~~~ (win l W k ^^^ still W) ^^^ by8 l (W + k))) ^^^ still W ^^^ tabAt (W + 1) 256 (at8 l k).toNat = win l W (k + 1) := by
  obtain ⟨m, rfl⟩ : ∃ m, W = m + 1 := ⟨W - 1, by omega⟩
  have hk : k < l.length := by omega
  have e1 : (l.drop k).take (m + 1) = l[k] :: (l.drop (k + 1)).take m := by rw [List.drop_eq_getElem_cons hk, List.take_succ_cons]
  have e2 : (l.drop (k + 1)).take (m + 1) = (l.drop (k + 1)).take m ++ [l.getD (m + 1 + k) 0] := by
    have h3 : m < (l.drop (k + 1)).length := by rw [List.length_drop]; omega
    rw [List.take_succ_eq_append_getElem h3, List.getElem_drop, getD_at l _ h]
    congr 2
    simp [show k + 1 + m = m + 1 + k by omega]
  have hm : ((l.drop (k + 1)).take m).length = m := by rw [List.length_take, List.length_drop]; omega
  have hr := rest_eq ((l.drop k).take (m + 1))
  rw [show ((l.drop k).take (m + 1)).length = m + 1 by rw [List.length_take, List.length_drop]; omega] at hr
  have hn := next_eq l[k] (l.getD (m + 1 + k) 0) ((l.drop (k + 1)).take m)
  rw [hm, ← e1, ← e2] at hn
  unfold win
  rw [hr, ← hn]
  have ht : tabAt (m + 1 + 1) 256 (at8 l k).toNat = times h8 (m + 2) (byte l[k]) := by
    unfold tabAt at8
    rw [getD_at l k hk, Int.toNat_natCast, if_pos (by have := l[k].toNat_lt; omega)]
    rfl
  rw [ht]
  rfl
theorem own_one (w : World) (B : Nat) (hB : B ≤ w.heap.size) (x : Value) (t : TypeId) : (w.alloc (.cells #[x] t)).ownsRow B t 1 (.slice (some ⟨w.heap.size, 0, none⟩) 1 1) 1 [x] :=
  ⟨rfl, .inr ⟨w.heap.size, 1, #[x], rfl, hB, heap_alloc_new w _, Nat.le_refl _, by decide, rfl, rfl⟩⟩
theorem own_less {w : World} {B B' : Nat} {t : TypeId} {v : Value} {n : Nat} {xs : List Value} (h : w.ownsRow B t 1 v n xs) (hB : B' ≤ B) : w.ownsRow B' t 1 v n xs := by
  obtain ⟨h1, h2⟩ := h
  refine ⟨h1, ?_⟩
  rcases h2 with h2 | ⟨g, cap, cur, e, hg, r⟩
  · exact .inl h2
  · exact .inr ⟨g, cap, cur, e, by omega, r⟩

theorem info_u32 : (Try.prog.info? 22).map (fun i => (i.zero, i.size, i.bytes)) = some (some (.int .u32 0), 1, 4) := by kernel_rfl

theorem more_at (x : Int) (s : BitVec 32) (hx : x = u s) (A : Option Addr) (l : List UInt8) (n cap B : Nat) (w : World) (hn : l.length = n) (hl : n ≤ 9223372036854775807) (h : Row8 w B A l) :
    Calls Try.prog 13 #[.int .u32 x, .slice A n cap] w fun e w' => e = .returned (.int .u32 (u (more s l))) ∧ w = w' := by
  subst hn; rw [hx]; exact more_any s A l cap B w hl h
theorem sum_at (A : Option Addr) (l : List UInt8) (n cap B : Nat) (w : World) (hn : l.length = n) (hl : n ≤ 9223372036854775807) (h : Row8 w B A l) :
    Calls Try.prog 11 #[.slice A n cap] w fun e w' => e = .returned (.int .u32 (u (sum l))) ∧ w = w' := by
  subst hn; exact sum_any A l cap B w hl h

theorem below_setCells {B : Nat} {a : World} (g : Nat) (hg : B ≤ g) : ∀ (vs : List Value) (o : Nat) (w : World), Below B a w → Below B a (w.setCells g o vs)
  | [], _, _, h => h
  | v :: r, o, _, h => below_setCells g hg r (o + 1) _ (h.setCell (p := ⟨g, o, none⟩) hg v)
theorem size_setCells (g : Nat) : ∀ (vs : List Value) (o : Nat) (w : World), (w.setCells g o vs).heap.size = w.heap.size
  | [], _, _ => rfl
  | _ :: r, o, _ => by rw [World.setCells, size_setCells g r (o + 1)]; simp [World.setCell]
theorem setCells_block {t : TypeId} (g : Nat) : ∀ (vs : List Value) (pre post : List Value) (w : World), w.heap[g]? = some (.cells (pre ++ post).toArray t (0, 0)) → vs.length = post.length →
    (w.setCells g pre.length vs).heap[g]? = some (.cells (pre ++ vs).toArray t (0, 0))
  | [], pre, post, _, h, hl => by
    obtain rfl : post = [] := List.eq_nil_of_length_eq_zero (by simpa using hl.symm)
    exact h
  | v :: r, pre, [], w, h, hl => by simp at hl
  | v :: r, pre, p :: post, w, h, hl => by
    have h1 := heap_setCell_same w g pre.length _ t v h
    have e : ((pre ++ p :: post).toArray.setIfInBounds pre.length v) = ((pre ++ [v]) ++ post).toArray := by
      apply Array.ext'
      simp
    rw [e] at h1
    have := setCells_block g r (pre ++ [v]) post (w.setCell ⟨g, pre.length, none⟩ v) h1 (by simpa using hl)
    rw [List.length_append] at this
    simpa [World.setCells] using this

theorem tab_laid (w1 : World) (t : TypeId) (n : Nat) : ∃ W2, (w1.alloc (.cells noughtCells t)).setCells w1.heap.size 0 (table n 256).toList = W2 ∧ TabBlk W2 w1.heap.size t n 256 ∧ Below w1.heap.size w1 W2 ∧ W2.heap.size = w1.heap.size + 1 := by
  refine ⟨_, rfl, ?_, below_setCells _ (Nat.le_refl _) _ _ _ ((Below.refl _ _).alloc (Nat.le_refl _) _), by rw [size_setCells]; simp⟩
  have := setCells_block (t := t) w1.heap.size (table n 256).toList [] noughtCells.toList (w1.alloc (.cells noughtCells t)) (by rw [List.nil_append, Array.toArray_toList]; exact heap_alloc_new w1 (.cells noughtCells t)) (by rw [Array.length_toList, Array.length_toList, table_size]; simp [noughtCells])
  rw [List.nil_append, Array.toArray_toList] at this
  exact this
theorem tab_there (w1 : World) (t : TypeId) (n : Nat) : (w1.alloc (.cells noughtCells t)).there w1.heap.size 0 (table n 256).size := fun j hj => by
  have h := heap_alloc_new w1 (.cells noughtCells t)
  rw [table_size] at hj
  rw [Nat.zero_add]
  refine ⟨?_, frozen_of_row _ _ _ _ t h⟩
  rw [cell_of_row _ _ j _ t (0, 0) h]
  simp [noughtCells, hj]

set_option maxRecDepth 100000 in
set_option maxHeartbeats 1000000 in
theorem windows_no (A : Option Addr) (n cap : Nat) (W : Int) (w : World) (h : W < 1 ∨ (n : Int) < W) :
    Calls Try.prog 18 #[.slice A n cap, .int .i64 W] w fun e w' => e = .returned (.slice none 0 0) ∧ w = w' := by
  by_cases h1 : W < 1
  · go_enter Try.func18, Try.ntmps18
    go_wp2
    go_ret
    exact ⟨rfl, rfl⟩
  · have h2 : (n : Int) < W := h.resolve_left h1
    go_enter Try.func18, Try.ntmps18
    go_wp2
    go_ret
    exact ⟨rfl, rfl⟩

set_option maxRecDepth 100000 in
set_option maxHeartbeats 1000000 in
theorem windows_yes (A : Option Addr) (l : List UInt8) (n cap W : Nat) (w : World) (hn : l.length = n) (hcap : n ≤ cap) (h1 : 1 ≤ W) (h2 : W ≤ n) (hb : n * 4 ≤ 140737488355328) (h : Row8 w w.heap.size A l) :
    Calls Try.prog 18 #[.slice A n cap, .int .i64 W] w fun e w' => ∃ v, e = .returned v ∧ w'.ownsRow w.heap.size 22 1 v (n - W + 1) (winsV l W (n - W + 1)) ∧ Below w.heap.size w w' := by
  have HN := Lib.hid hn
  clear hn
  obtain ⟨b, off, rfl, hbB, hc⟩ := h.at_ (by rw [HN.out]; omega)
  have H := Lib.hid h
  have HC := Lib.hid hc
  clear h hc
  have hz := zero_table
  have hd1 : decide ((W : Int) < 1) = false := by simp; omega
  have hi : (Try.prog.info? 44).map (·.size) = some (table (W + 1) 256).size := by rw [table_size]; exact info_table
  have HI := Lib.hid hi
  clear hi
  go_enter Try.func18, Try.ntmps18
  go_wp2_with fail
  refine (gone_any W w (by omega)).mono ?_
  rintro e w1 ⟨rfl, hB1⟩
  have hB1s := hB1.size
  obtain ⟨W2, hW2, hT, hB2, hS2⟩ := tab_laid w1 44 (W + 1)
  have HW2 := Lib.hid hW2
  have hS2' : w1.heap.size + 1 ≤ W2.heap.size := by omega
  have HT := Lib.hid hT
  clear hW2 hS2 hT
  go_wp2_with (with_reducible refine wpList_store_mid rfl 44 (.tmp 5) (.tmp 21) rfl w1.heap.size 0 (table (W + 1) 256) rfl rfl (tab_there _ _ _) HI.out (table_oneCell _ _) ?_; rw [HW2.out])
  clear hz HW2
  have hBW : Below w.heap.size w W2 := hB1.trans (hB2.mono hB1s)
  have hcW : ∀ i, i < l.length → W2.cell? ⟨b, off + i, none⟩ = some (.int .u8 (at8 l i)) := fun i hi => (hBW.cell (p := ⟨b, off + i, none⟩) hbB).trans (HC.out i hi)
  have hhead := Row8.head hbB hcW W
  have hlen : (l.take W).length = W := by rw [List.length_take, HN.out]; omega
  have HCW := Lib.hid hcW
  have HH := Lib.hid hhead
  have HL := Lib.hid hlen
  have HBW := Lib.hid hBW
  have hst := ones_still l W hlen
  clear hcW hhead hlen hBW HC
  refine (sum_at _ (l.take W) W cap w.heap.size W2 HL.out (by omega) HH.out).mono ?_
  rintro e w' ⟨rfl, rfl⟩
  go_wp2_with fail
  refine (more_at _ ones ones_eq _ (l.take W) W cap w.heap.size W2 HL.out (by omega) HH.out).mono ?_
  rintro e w' ⟨rfl, rfl⟩
  go_wp2_with fail
  · have hcw : cap = W := by omega
    obtain rfl : n = W := by omega
    refine wp_loop_rounds 1 ?_
    rw [rounds_succ]
    go_wp2
    go_ret
    refine ⟨_, rfl, ?_, ?_⟩
    · rw [Nat.sub_self]
      exact own_one W2 _ (by omega) _ _
    · exact (HBW.out).alloc (by omega) _
  · have hcw : ¬ cap = W := by assumption
    clear hst HI HH HL H
    obtain ⟨i0, hi0, hz0, hz1, hz2⟩ := info_parts info_u32
    have HI0 := Lib.hid hi0
    have HZ0 := Lib.hid hz0
    have HZ1 := Lib.hid hz1
    have HZ2 := Lib.hid hz2
    clear hi0 hz0 hz1 hz2
    go_loopw [6, 8, 38] (fun s v i wr => ∃ k : Nat, k ≤ n - W ∧ i = .int .i64 k ∧ s = .int .u32 (u (win l W k)) ∧ wr.ownsRow (w1.heap.size + 1) 22 1 v (k + 1) (winsV l W (k + 1)) ∧ Below (w1.heap.size + 1) W2 wr) (fun _ _ i _ => n - W - (intOf i).toNat)
    case atStart => exact ⟨0, Nat.zero_le _, rfl, rfl, own_one W2 _ hS2' _ _, (Below.refl _ _).alloc hS2' _⟩
    case round =>
      obtain ⟨k, hk, rfl, rfl, hown, hnx⟩ := hrel
      by_cases hlt : k < n - W
      · have hkc : wr.cell? ⟨b, off + W + k, none⟩ = some (.int .u8 (at8 l (W + k))) := by
          rw [show off + W + k = off + (W + k) by omega]
          exact (hnx.cell (p := ⟨b, off + (W + k), none⟩) (by show b < _; omega)).trans (HCW.out _ (by rw [HN.out]; omega))
        have hkb : wr.cell? ⟨b, off + k, none⟩ = some (.int .u8 (at8 l k)) := (hnx.cell (p := ⟨b, off + k, none⟩) (by show b < _; omega)).trans (HCW.out _ (by rw [HN.out]; omega))
        have b0 := at8_lo l k
        have b1 := at8_hi l k
        have b2 : at8 l k < 256 := by omega
        have c0 := at8_lo l (W + k)
        have c1 := at8_hi l (W + k)
        have htb : wr.cell? ⟨w1.heap.size, (at8 l k).toNat, none⟩ = some (.int .u32 (u (tabAt (W + 1) 256 (at8 l k).toNat))) := (hnx.cell (p := ⟨w1.heap.size, (at8 l k).toNat, none⟩) (by show w1.heap.size < _; omega)).trans (HT.out.cell _ (by omega))
        have k0 : 0 ≤ (k : Int) := by omega
        have k1 : (k : Int) < n := by omega
        have hnext := win_next l W k h1 (by rw [HN.out]; omega)
        have HNX := Lib.hid hnext
        have HO := Lib.hid hown
        have HB := Lib.hid hnx
        clear hnext hown hnx
        go_wp2
        go_quiet ((go_at_call 20; exact Calls.quiet_of_same ((eight_h _ _).mono fun _ _ h => ⟨h.1, h.2.symm⟩)))
        rw [HNX.out]
        have HOq : Hid ((wr.drewN nq).ownsRow (w1.heap.size + 1) 22 1 u8 (k + 1) (winsV l W (k + 1))) := HO.out
        have HBq : Hid (Below (w1.heap.size + 1) W2 (wr.drewN nq)) := ⟨HB.out.os, HB.out.tape, HB.out.output, HB.out.size, HB.out.block⟩
        generalize wr.drewN nq = wq at *
        have hsz := HBq.out.size
        clear hkc hkb htb HO HB
        go_wp2_with (at_builtin; refine wpList_append_own _ rfl (.tmp 62) (.tmp 64) 28 rfl (w1.heap.size + 1) 22 i0 (.int .u32 0) 1 4 Try.underlying28 HI0.out HZ0.out HZ1.out HZ2.out rfl (by decide) _ _ _ rfl (HOq.out.alloc _) ⟨wq.heap.size, 0, none⟩ 1 1 [.int .u32 (u (win l W (k + 1)))] rfl rfl ?c1 ?c2 ?c3 ?c4 ?c5 ?_)
        case c1 =>
          intro j x hj
          match j, hj with
          | 0, hj => simp at hj; subst hj; simp [Addr.add]
        case c2 => intro x hx; simp at hx; subst hx; rfl
        case c3 => unfold maxLen; omega
        case c4 => omega
        case c5 => simp; omega
        intro v' w3 hown' hgrow _
        have R : w3.ownsRow (w1.heap.size + 1) 22 1 v' (k + 1 + 1) (winsV l W (k + 1 + 1)) := by rw [winsV_succ]; exact hown'
        have RB : Below (w1.heap.size + 1) W2 w3 := (HBq.out.alloc (by omega) _).grown hgrow (by simp; omega) (fun g hg => by
          obtain ⟨_, h2⟩ := HOq.out
          rcases h2 with ⟨rfl, _⟩ | ⟨g', c', cur, rfl, hg', _⟩
          · simp [Value.ownBlock] at hg
          · simp [Value.ownBlock] at hg; omega)
        clear hown' hgrow HOq HBq
        go_wp2
        go_roundw
        case rel => exact ⟨k + 1, by omega, by go_num, rfl, R, RB⟩
        case measure => simp [intOf]; omega
      · obtain rfl : k = n - W := by omega
        go_wp2
        go_ret
        exact ⟨_, rfl, own_less hown (by omega), HBW.out.trans (hnx.mono (by omega))⟩
end Go.Proofs.Ytdabdneeckjdoaa.Crc
