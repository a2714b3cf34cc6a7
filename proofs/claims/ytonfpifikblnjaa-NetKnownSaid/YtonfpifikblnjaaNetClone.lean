/- Bytes in new memory: slices.Clone. -/
import Derived.OwnWalk
import Derived.Maps.AppendAt
import Derived.Maps.RangeWalk
import Derived.Lib.SliceRun
import Derived.Test.YtonfpifikblnjaaNetRow
namespace Go.Proofs.Ytonfpifikblnjaa.Net
open Go.RowKit

theorem info_u8 : (Try.prog.info? 5).map (fun i => (i.zero, i.size, i.bytes)) = some (some (.int .u8 0), 1, 1) := by kernel_rfl
/-- A slice's bytes may be read. -/
def RowR (w : World) (A : Option Addr) (_cap : Nat) (l : List UInt8) : Prop := (A = none ∧ l = []) ∨ ∃ a, A = some a ∧ ∀ (j : Nat) u, (u8s l)[j]? = some u → w.cell? (a.add j) = some u
theorem RowR.grown {w w' : World} {A : Option Addr} {cap : Nat} {l : List UInt8} (h : RowR w A cap l) (hg : w.grownBy w' none) : RowR w' A cap l := by
  rcases h with h | ⟨a, e, hc⟩
  · exact .inl h
  · exact .inr ⟨a, e, fun j u hj => hg.cell (hc j u hj) (by simp)⟩
theorem add_flat (g off j : Nat) : (⟨g, off, none⟩ : Addr).add j = ⟨g, off + j, none⟩ := by
  unfold Addr.add
  split
  · rename_i e; subst e; rfl
  · rfl
theorem RowR.of_bytes {w : World} {S : Nat → Prop} {A : Option Addr} {l : List UInt8} (cap : Nat) (h : Bytes w S A l) : RowR w A cap l := by
  rcases h with rfl | ⟨g, off, rfl, _, _, hr⟩
  · cases A with
    | none => exact .inl ⟨rfl, rfl⟩
    | some a => exact .inr ⟨a, rfl, fun j u hj => by simp [u8s] at hj⟩
  · exact .inr ⟨_, rfl, fun j u hj => by rw [add_flat]; exact hr j u hj⟩
theorem u8s_one (l : List UInt8) : ∀ v ∈ u8s l, v.oneCell' = true := by
  intro v hv
  simp only [u8s, List.mem_map] at hv
  obtain ⟨c, _, rfl⟩ := hv
  rfl
/-- New memory that may be written. -/
def Own (w : World) (B : Nat) (A : Option Addr) (cap : Nat) : Prop := (A = none ∧ cap = 0) ∨ ∃ g, A = some ⟨g, 0, none⟩ ∧ B ≤ g ∧ Typed w g 5 ∧ ∀ o, w.frozen? ⟨g, o, none⟩ = false
theorem bytes_of_row {w : World} {B n : Nat} {v : Value} {l : List UInt8} (h : w.ownsRow B 5 1 v n (u8s l)) : ∃ A cap, v = .slice A l.length cap ∧ Bytes w (fun b => B ≤ b) A l ∧ Own w B A cap := by
  have hn : n = l.length := by have := h.1; rw [u8s_length] at this; omega
  subst hn
  obtain ⟨_, ⟨rfl, e⟩ | ⟨g, cap, cur, rfl, hB, hb, hc, _, _, ht⟩⟩ := h
  · exact ⟨none, 0, by rw [e], .inl (List.eq_nil_of_length_eq_zero e), .inl ⟨rfl, rfl⟩⟩
  · refine ⟨_, cap, rfl, .inr ⟨g, 0, rfl, hB, ⟨_, _, hb⟩, fun j u hj => ?_⟩, .inr ⟨g, rfl, hB, ⟨_, _, hb⟩, fun o => by simp only [World.frozen?, hb]; simp⟩⟩
    rw [← ht, List.getElem?_take] at hj
    simp only [World.cell?, hb, Nat.zero_add]
    split at hj
    · simpa using hj
    · cases hj

set_option maxHeartbeats 4000000 in
theorem clone_at (A : Option Addr) (l : List UInt8) (cap : Nat) (w : World) (h : RowR w A cap l) (hl : l.length ≤ 1000000) :
    Calls Try.prog 43 #[.slice A l.length cap] w fun e w' => ∃ A' cap', e = .returned (.slice A' l.length cap') ∧ Bytes w' (fun b => w.heap.size ≤ b) A' l ∧ Own w' w.heap.size A' cap' ∧ w.grownBy w' none := by
  rcases h with ⟨rfl, rfl⟩ | ⟨a, rfl, hc⟩
  · have hq := fun w => Lib.run_eql_slice_nil (P := Try.prog) w 34 5 none 0 cap 0 0 Try.underlying34
    go_enter Try.func43, Try.ntmps43
    go_wp2
    go_ret
    exact ⟨none, 0, rfl, .inl rfl, .inl ⟨rfl, rfl⟩, ⟨rfl, rfl, rfl, Nat.le_refl _, fun _ _ _ => rfl⟩⟩
  · obtain ⟨i0, hi0, he⟩ := Option.map_eq_some_iff.1 info_u8
    simp only [Prod.mk.injEq] at he
    have hg0 := World.grownBy_alloc w (.cells #[] 5) none
    have hmade := World.ownsRow_made (e := 5) (size := 1) (base := w.heap.size) w #[] 0 (Nat.le_refl _) (by unfold maxLen; omega) rfl
    have HI := Lib.hid (And.intro hi0 he)
    have HM := Lib.hid hmade
    have HG0 := Lib.hid hg0
    have HNEWS : Hid (∀ (j : Nat) u, (u8s l)[j]? = some u → (w.alloc (.cells #[] 5)).cell? (a.add j) = some u) := fun j u hj => hg0.cell (hc j u hj) (by simp)
    have HLL : Hid ((u8s l).length = l.length * 1) := by show _ = _; rw [u8s_length]; omega
    have HB1 : Hid (0 + l.length ≤ maxLen) := by show _ ≤ _; unfold maxLen; omega
    have HB2 : Hid ((0 + l.length) * 1 ≤ 140737488355328) := by show _ ≤ _; omega
    have HB3 : Hid (w.heap.size ≤ (w.alloc (.cells #[] 5)).heap.size) := hg0.size
    have hq := fun w => Lib.run_eql_slice_nil (P := Try.prog) w 34 5 (some a) l.length cap 0 0 Try.underlying34
    clear hi0 he hmade hg0 hc
    go_enter Try.func43, Try.ntmps43
    go_wp2_with (first
      | (at_builtin; refine wpList_append_own _ rfl (.tmp 5) (.tmp 6) 34 rfl w.heap.size 5 i0 _ 1 1 Try.underlying34 HI.out.1 HI.out.2.1 HI.out.2.2.1 HI.out.2.2.2 rfl (by decide) _ 0 [] rfl HM.out a l.length cap (u8s l) rfl HLL.out HNEWS.out (u8s_one l) HB1.out HB2.out HB3.out ?_; intro v' w' hown hgr _; go_frame)
      | fail)
    go_ret
    rw [List.nil_append] at hown
    obtain ⟨A', cap', rfl, hb, hA'⟩ := bytes_of_row hown
    refine ⟨A', cap', rfl, hb, hA', ⟨hgr.os.trans HG0.out.os, hgr.tape.trans HG0.out.tape, hgr.output.trans HG0.out.output, Nat.le_trans HG0.out.size hgr.size, fun k hk _ => (hgr.block k (by have := HG0.out.size; omega) (fun e => by have : k = w.heap.size := Option.some.inj e; omega)).trans (HG0.out.block k hk (by simp))⟩⟩
end Go.Proofs.Ytonfpifikblnjaa.Net
