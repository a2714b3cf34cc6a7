/- The walk of the program's Less: a range over the library's iterator that goes backward. -/
import Derived.RangeFuncNested
import Derived.RangeFuncBound
import Derived.RangeFuncCalls
import Derived.RangeFuncLeaves
import Derived.RangeFuncBox
import Derived.Shelf.Abstract
import Derived.Shelf.RegionOpen
import Derived.WalkKit
import Derived.OwnWalkIn
import Derived.TacticsInMore
import Derived.LoopNIn
import Derived.LoopIn
import Derived.Test.YtdabdneeckjdoaaCrcRow
import Derived.Test.YtdabdneeckjdoaaCrcFns
namespace Go.Proofs.Ytdabdneeckjdoaa.Crc
open Go.RowKit Go.Shelf
attribute [local go_sem] Oper.semAt_some
attribute [local go_sem] u32_signed not_max_u xor_u xor_at8

/-- What has come when k rounds are over: f 0, .., f (k - 1). -/
def upto {α : Type} (f : Nat → α) (k : Nat) : List α := (List.range k).map f
theorem upto_succ {α : Type} (f : Nat → α) (k : Nat) : upto f (k + 1) = upto f k ++ [f k] := by simp [upto, List.range_succ]
theorem upto_length {α : Type} (f : Nat → α) (k : Nat) : (upto f k).length = k := by simp [upto]

/-- A byte, as Go's number. -/
def u8v (c : UInt8) : Int := (c.toNat : Int)
theorem at8_u8v (l : List UInt8) (i : Nat) : at8 l i = u8v (l.getD i 0) := rfl
/-- What the iterator hands over in round j. -/
def backAt (l : List UInt8) (j : Nat) : Nat × UInt8 := (l.length - 1 - j, l.getD (l.length - 1 - j) 0)
abbrev encs (x : Nat × UInt8) : Array Value := #[.int .i64 (x.1 : Int), .int .u8 (u8v x.2)]

/-- What a round of the loop keeps: what lay below, and the box that holds the slice. -/
def KeepBox (n₀ Bs : Nat) (W W' : World) : Prop := Below n₀ W W' ∧ W'.heap[Bs]? = W.heap[Bs]?
theorem keepBox_refl (n₀ Bs : Nat) (W : World) : KeepBox n₀ Bs W W := ⟨Below.refl _ _, rfl⟩
theorem keepBox_t {n₀ Bs : Nat} {A B C : World} (h : KeepBox n₀ Bs A B) (k : KeepBox n₀ Bs B C) : KeepBox n₀ Bs A C := ⟨h.1.trans k.1, k.2.trans h.2⟩
theorem keepBox_b {n₀ Bs : Nat} {w : World} (hn : n₀ ≤ w.heap.size) (hB : Bs < w.heap.size) (W : World) (l : Nat) (o o' : Obj) (hl : w.heap.size ≤ l) (h : W.heap[l]? = some o) (hc : o.isCells = false) (hw : o.isWalk = false) : KeepBox n₀ Bs W (W.putObj l o') :=
  ⟨belowK_b hn W l o o' hl h hc hw, (grownBy_putObj' W l o').block Bs (by have := (Array.getElem?_eq_some_iff.1 h).1; omega) (fun e => by injection e with e; omega)⟩
theorem KeepBox.cell {n₀ Bs : Nat} {W W' : World} (h : KeepBox n₀ Bs W W') (off : Nat) : W'.cell? ⟨Bs, off, none⟩ = W.cell? ⟨Bs, off, none⟩ := World.cell?_of_block (w := W) (a := ⟨Bs, off, none⟩) h.2

set_option maxRecDepth 100000 in
set_option maxHeartbeats 2000000 in
theorem backward1_in (F : Fence) (n : Nat) (hf : F.fn 27) (hro : F.round = none) (hn : 1 ≤ n) (lp Bs n₀ : Nat) (A : Option Addr) (l : List UInt8) (cap : Nat) (hl : l.length ≤ 9223372036854775807) (J Jx : List (Nat × UInt8) → World → Prop)
    (hY : ∀ pre x W, J pre W → pre.length < l.length → YieldAt F (n - 1) Try.prog lp (encs x) W fun e W' =>
      (e = .returned (.bool true) ∧ J (pre ++ [x]) W' ∧ KeepBox n₀ Bs W W') ∨ (e = .returned (.bool false) ∧ Jx (pre ++ [x]) W'))
    (W : World) (hBs : W.cell? ⟨Bs, 0, none⟩ = some (.slice A l.length cap)) (hr : Row8 W n₀ A l) (h0 : J [] W) :
    CallsIn F n Try.prog 27 #[.func (.yield lp) #[] #[], .pointer (some ⟨Bs, 0, none⟩)] W fun e W' => (∃ v, e = .returned v) ∧
      ((∃ ys, ys = upto (backAt l) l.length ∧ J ys W') ∨ (∃ pre, (∃ k, k ≤ l.length ∧ pre = upto (backAt l) k) ∧ Jx pre W')) := by
  have HR := Lib.hid hr
  clear hr
  refine callsIn_of_wp Try.func27 rfl hf ?_ hro
  simp only [Try.ntmps27, List.size_toArray, List.length_cons, List.length_nil, Nat.reduceAdd, Nat.reduceSub, Array.replicate_succ, Array.replicate_zero, List.push_toArray, List.append_toArray, List.nil_append, List.cons_append]
  gi_wp2
  gi_loopw [3] (fun i wr => ∃ k m : Nat, k + m = l.length ∧ i = .int .i64 ((m : Int) - 1) ∧ J (upto (backAt l) k) wr ∧ KeepBox n₀ Bs W wr) (fun i _ => (intOf i + 1).toNat)
  case atStart => exact ⟨0, l.length, by omega, rfl, h0, keepBox_refl _ _ _⟩
  case round =>
    obtain ⟨k, m, hk, rfl, hJs, hnx⟩ := hrel
    by_cases hm0 : 0 < m
    · obtain ⟨m, rfl⟩ : ∃ m', m = m' + 1 := ⟨m - 1, by omega⟩
      have hm : m < l.length := by omega
      obtain ⟨b, off, rfl, hb, hc⟩ := HR.out.at_ (by omega)
      have hck : wr.cell? ⟨b, off + m, none⟩ = some (.int .u8 (at8 l m)) := (hnx.1.cell (p := ⟨b, off + m, none⟩) hb).trans (hc m hm)
      have hBw : wr.cell? ⟨Bs, 0, none⟩ = some (.slice (some ⟨b, off, none⟩) l.length cap) := (hnx.cell 0).trans hBs
      have hb0 := at8_lo l m
      have hb1 := at8_hi l m
      have hba : backAt l k = (m, l.getD m 0) := by unfold backAt; rw [show l.length - 1 - k = m by omega]
      have HB := Lib.hid hba
      have hY' := hY _ (m, l.getD m 0) wr hJs (by rw [upto_length]; omega)
      simp only [encs] at hY'
      rw [← at8_u8v] at hY'
      obtain ⟨fn, tmps, assign, body, hy, hR⟩ := hY'
      have hlow : 0 ≤ (m : Int) := by omega
      have hhigh : (m : Int) < l.length := by omega
      clear hc hba hBs hY HR
      rw [show (((m + 1 : Nat) : Int) - 1) = (m : Int) by omega]
      gi_wp2
      refine hR.mono ?_
      rintro e W3 (⟨rfl, hJ3, hk3⟩ | ⟨rfl, hJx3⟩)
      · gi_wp2
        go_roundw
        case rel => exact ⟨k + 1, m, by omega, rfl, by rw [upto_succ, HB.out]; exact hJ3, keepBox_t hnx hk3⟩
        case measure => simp [intOf]
      · gi_wp2
        refine bodyPost_ret (results_none rfl _ _ _) rfl ?_
        exact ⟨⟨_, rfl⟩, .inr ⟨_, ⟨k + 1, by omega, by rw [upto_succ, HB.out]⟩, hJx3⟩⟩
    · obtain rfl : m = 0 := by omega
      obtain rfl : k = l.length := by omega
      rw [show (((0 : Nat) : Int) - 1) = -1 by omega]
      gi_wp2
      go_end0
      exact ⟨⟨_, rfl⟩, .inl ⟨_, rfl, hJs⟩⟩

set_option maxHeartbeats 1000000 in
theorem backward_in (F : Fence) (n : Nat) (hf : F.fn 23) (hro : F.round = none) (A : Option Addr) (len cap : Nat) (w : World) :
    CallsIn F n Try.prog 23 #[.slice A len cap] w fun e w' => e = .returned (.func (.func 27) #[] #[.pointer (some ⟨w.heap.size, 0, none⟩)]) ∧ w' = w.alloc (.cells #[.slice A len cap] 23) := by
  refine callsIn_of_wp Try.func23 rfl hf ?_ hro
  simp only [Try.ntmps23, List.size_toArray, List.length_cons, List.length_nil, Nat.reduceAdd, Nat.reduceSub, Array.replicate_succ, Array.replicate_zero, List.push_toArray, List.append_toArray, List.nil_append, List.cons_append]
  gi_wp2
  go_ret
  exact ⟨rfl, rfl⟩

theorem backward_stops (F : Fence) (n : Nat) (hf : F.fn 27) (hro : F.round = none) (hn : 1 ≤ n) (Bs n₀ : Nat) (A : Option Addr) (l : List UInt8) (cap : Nat) (hl : l.length ≤ 9223372036854775807) (w : World)
    (hBs : Bs < w.heap.size) (hn₀ : n₀ ≤ w.heap.size) (hc : w.cell? ⟨Bs, 0, none⟩ = some (.slice A l.length cap)) (hI : Row8 w n₀ A l) :
    SeqStopsK F n Try.prog 27 #[.pointer (some ⟨Bs, 0, none⟩)] encs (KeepBox n₀ Bs) (fun ys => ys = upto (backAt l) l.length)
      (fun pre => ∃ k, k ≤ l.length ∧ pre = upto (backAt l) k) l.length w := fun lp J Jx W hW _ _ hY h0 =>
  backward1_in F n hf hro hn lp Bs n₀ A l cap hl J Jx hY W ((hW.cell (p := ⟨Bs, 0, none⟩) hBs).trans hc) (hI.below (hW.mono hn₀)) h0

/-- The rest when the bytes that have come have been taken out. -/
def outs (r : BitVec 32) (pre : List (Nat × UInt8)) : BitVec 32 := pre.foldl (fun r x => d8 r ^^^ byte x.2) r
theorem outs_snoc (r : BitVec 32) (pre : List (Nat × UInt8)) (x : Nat × UInt8) : outs r (pre ++ [x]) = d8 (outs r pre) ^^^ byte x.2 := by simp [outs]
theorem outs_all (r : BitVec 32) (l : List UInt8) : ∀ k, k ≤ l.length → outs r (upto (backAt l) k) = outk r l (l.length - k) := by
  intro k
  induction k with
  | zero => intro _; rw [Nat.sub_zero, outk_full]; rfl
  | succ k ih =>
    intro hk
    rw [upto_succ, outs_snoc, ih (by omega)]
    have e := outk_succ r l (l.length - (k + 1)) (by omega)
    rw [show l.length - (k + 1) + 1 = l.length - k by omega] at e
    rw [← e]
    unfold by8 backAt
    rw [show l.length - 1 - k = l.length - (k + 1) by omega]
theorem u8v_lo (c : UInt8) : 0 ≤ u8v c := by unfold u8v; omega
theorem u8v_hi (c : UInt8) : u8v c ≤ 255 := by unfold u8v; have := c.toNat_lt; omega
theorem xor_u8v (r : BitVec 32) (c : UInt8) : bits .xor .u32 (u r) (u8v c) = u (r ^^^ byte c) := by
  rw [show u8v c = u (byte c) by unfold u8v byte; exact u_of _ (by have := c.toNat_lt; omega), xor_u]

attribute [local go_sem] xor_u8v
set_option maxRecDepth 100000 in
set_option maxHeartbeats 2000000 in
theorem less_any (s : BitVec 32) (A : Option Addr) (l : List UInt8) (cap : Nat) (w : World) (hl : l.length ≤ 9223372036854775807) (h : Row8 w w.heap.size A l) :
    Calls Try.prog 15 #[.int .u32 (u s), .slice A l.length cap] w fun e w' => e = .returned (.int .u32 (u (less s l))) ∧ Below w.heap.size w w' := by
  refine (callsIn_wide (n := 3)).1 ?_
  have H := Lib.hid h
  clear h
  refine callsIn_of_wp_marks Try.func15 rfl trivial ?_ rfl
  simp only [Try.ntmps15, List.size_toArray, List.length_cons, List.length_nil, Nat.reduceAdd, Nat.reduceSub, Array.replicate_succ, Array.replicate_zero, List.push_toArray, List.append_toArray, List.nil_append, List.cons_append]
  gi_wp2_with (refine ⟨trivial, ?_⟩; gi_at_call 23; refine (backward_in Fence.wide (3 - 1) trivial rfl _ _ _ _).mono ?_; rintro e w' ⟨rfl, rfl⟩)
  have bR := Boxed.new w 22 (.int .u32 (u (~~~ s)))
  have bN := Boxed.new (w.alloc (.cells #[.int .u32 (u (~~~ s))] 22)) 23 (.slice A l.length cap)
  rw [World.size_alloc] at bN
  have hB0 : Below w.heap.size w ((w.alloc (.cells #[.int .u32 (u (~~~ s))] 22)).alloc (.cells #[.slice A l.length cap] 23)) := ((Below.refl _ w).alloc (Nat.le_refl _) _).alloc (by simp) _
  refine wpIn_rangeFunc_ownG rfl (by decide) (gf := 27) (lb := #[.pointer (some ⟨w.heap.size + 1, 0, none⟩)]) rfl trivial (enters_of Try.func27 (by kernel_rfl) rfl)
    (backward_stops Fence.wide (3 - 1) trivial rfl (by decide) (w.heap.size + 1) w.heap.size A l cap hl _ (by simp) (by simp; omega) bN.cell (H.out.below hB0)) keepBox_t (keepBox_b (by simp; omega) (by simp)) (Below.refl _ _) (fun _ => rfl)
    (fun pre W => (W.cell? ⟨w.heap.size, 0, none⟩ = some (.int .u32 (u (outs (~~~ s) pre))) ∧ W.frozen? ⟨w.heap.size, 0, none⟩ = false) ∧ Below w.heap.size w W)
    (fun _ _ _ => False)
    (OwnFrom.and (Own.from (fun s A B row hs hg hr => ⟨cell_kept hs.1 hg hr, (frozen_kept hs.1 hg hr).trans hs.2⟩) _) (ownFrom_below (Nat.le_refl _) (by simp; omega)))
    (fun _ _ _ _ _ hs _ _ => hs)
    ⟨⟨(bR.alloc _).cell, (bR.alloc _).frozen⟩, hB0⟩
    (fun x => { tmps := #[.int .u32 (u s), .slice A l.length cap, undef, undef, .int .u32 0, .pointer (some ⟨w.heap.size, 0, none⟩), undef, .int .u8 (u8v x.2), .int .u32 (u s), .int .u32 (u (~~~ s)), .slice A l.length cap, .func (.func 27) #[] #[.pointer (some ⟨w.heap.size + 1, 0, none⟩)], .int .i64 (x.1 : Int), .int .u8 (u8v x.2), undef, undef, undef, undef, undef, undef, undef], defers := [] }) ?assign ?body ?done ?stop
  case assign =>
    intro lp x W K hK
    gi_wp2
    exact hK
  case body =>
    rintro lp pre x W ⟨⟨hc, hf⟩, hB⟩ _
    have hx0 := u8v_lo x.2
    have hx1 := u8v_hi x.2
    gi_wp2_with (refine ⟨trivial, ?_⟩; gi_at_call 20; refine (CallsIn.inRound lp (callsIn_wide.2 (eight_d _ _))).mono ?_; rintro e w' ⟨rfl, rfl⟩)
    exact ⟨(KeepsOthers.setCell _ _ _).from _, ⟨(Below.refl _ W).setCell (p := ⟨w.heap.size, 0, none⟩) (Nat.le_refl _) _, Below.heap_setCell _ _ _ _ (by simp)⟩, ⟨by rw [outs_snoc]; exact World.cell?_setCell_same' _ _ _ (by rw [hc]; rfl), by rw [World.frozen?_setCell]; exact hf⟩, hB.setCell (p := ⟨w.heap.size, 0, none⟩) (Nat.le_refl _) _⟩
  case done =>
    rintro D ys W hD rfl ⟨⟨hc, _⟩, hB⟩ hK
    rw [show outs (~~~ s) (upto (backAt l) l.length) = outof (~~~ s) l by rw [outs_all _ _ _ (Nat.le_refl _), Nat.sub_self, outk_zero]] at hc
    gi_wp2
    refine ⟨by simp, .inl ⟨_, _, rfl, run_takeDeferred hK, ?_⟩⟩
    exact ⟨_, results_tmp rfl _ _ _, rfl, hB.trans (belowK_b (w := w) (Nat.le_refl _) W D _ _ (by simp at hD; omega) hK rfl rfl)⟩
  case stop =>
    rintro D c pre W _ _ h _
    exact h.elim
end Go.Proofs.Ytdabdneeckjdoaa.Crc
