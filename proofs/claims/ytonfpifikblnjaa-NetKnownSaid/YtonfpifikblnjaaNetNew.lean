/- A new net; the letters on the way. -/
import Derived.Laws.MakeOwn
import Derived.Laws.AppendOwn
import Derived.Test.YtonfpifikblnjaaNetMutB
namespace Go.Proofs.Ytonfpifikblnjaa.Net
open Go.RowKit

def fresh (n : Nat) : Nt := ⟨n, fun _ => []⟩
theorem info_row : (Try.prog.info? 63).map (fun i => (i.zero, i.size, i.bytes)) = some (some (.agg #[.pointer none, .int .i64 0]), 2, 16) := by kernel_rfl
theorem made_row (n i : Nat) (hi : i < n) : (madeCells #[Value.pointer none, .int .i64 0] (n * 2))[2 * i]? = some (.pointer none) ∧ (madeCells #[Value.pointer none, .int .i64 0] (n * 2))[2 * i + 1]? = some (.int .i64 0) := by
  unfold madeCells
  simp only [Array.getElem?_map]
  constructor
  · rw [Array.getElem?_eq_getElem (by simp; omega)]
    simp
  · rw [Array.getElem?_eq_getElem (by simp; omega)]
    simp only [Array.getElem_range, Option.map_some, show #[Value.pointer none, Value.int .i64 0].size = 2 from rfl, show (2 * i + 1) % 2 = 1 by omega]
    rfl

set_option maxHeartbeats 4000000 in
theorem new_at (i : Int) (w : World) :
    Calls Try.prog 11 #[.int .i64 i] w fun e w' => ∃ nb, e = .returned (.pointer (some ⟨nb, 0, none⟩)) ∧ NetAt w' (fun b => w.heap.size ≤ b ∧ b < w'.heap.size) nb (fresh (max 1 (min 64 i)).toNat) ∧ w.grownBy w' none := by
  obtain ⟨n, hn⟩ : ∃ n : Nat, (n : Int) = max 1 (min 64 i) := ⟨(max 1 (min 64 i)).toNat, by omega⟩
  obtain ⟨m, hm⟩ : ∃ m : Int, m = min 64 i := ⟨_, rfl⟩
  have hmn : ∀ (w : World) (ts : Array TypeId) (t : TypeId), (Builtin.min_ ts t #[.int .i64 64, .int .i64 i]).run Try.prog w = .ok (.int .i64 m) w := fun w ts t => by
    rw [run_min_int2]
    congr 2
    split <;> omega
  have hmx : ∀ (w : World) (ts : Array TypeId) (t : TypeId), (Builtin.max_ ts t #[.int .i64 1, .int .i64 m]).run Try.prog w = .ok (.int .i64 (n : Int)) w := fun w ts t => by
    rw [run_max_int2]
    congr 2
    split <;> omega
  have hn1 : 1 ≤ n := by omega
  have hn2 : n ≤ 64 := by omega
  rw [← hn, Int.toNat_natCast]
  obtain ⟨i0, hi0, he⟩ := Option.map_eq_some_iff.1 info_row
  simp only [Prod.mk.injEq] at he
  obtain ⟨w1, hrun, hown, hgr⟩ := run_make_full (P := Try.prog) w w.heap.size 60 63 i0 _ 2 Try.underlying60 hi0 he.1 he.2.1 .i64 .i64 n (by rw [he.2.2]; omega) (by unfold maxLen; omega) (Nat.le_refl _)
  have hfin : NetAt (w1.alloc (.cells #[.pointer none, .int .i64 0, .slice (some ⟨w.heap.size, 0, none⟩) n n] 65)) (fun b => w.heap.size ≤ b ∧ b < (w1.alloc (.cells #[.pointer none, .int .i64 0, .slice (some ⟨w.heap.size, 0, none⟩) n n] 65)).heap.size) w1.heap.size (fresh n) ∧
      w.grownBy (w1.alloc (.cells #[.pointer none, .int .i64 0, .slice (some ⟨w.heap.size, 0, none⟩) n n] 65)) none := by
    have hg2 := World.grownBy_alloc w1 (.cells #[.pointer none, .int .i64 0, .slice (some ⟨w.heap.size, 0, none⟩) n n] 65) none
    have hb2 := (MapKept.heap_alloc w1 (.cells #[.pointer none, .int .i64 0, .slice (some ⟨w.heap.size, 0, none⟩) n n] 65)).1
    have hs2 : (w1.alloc (.cells #[.pointer none, .int .i64 0, .slice (some ⟨w.heap.size, 0, none⟩) n n] 65)).heap.size = w1.heap.size + 1 := World.size_alloc ..
    refine ⟨?_, hgr.andThen hg2 (fun _ hj => .inr hj)⟩
    obtain ⟨_, ⟨e, _⟩ | ⟨g, cap, cur, e, hB, hb, _, _, hcs, ht⟩⟩ := hown
    · cases e
    cases e
    have hcur : cur = madeCells #[.pointer none, .int .i64 0] (n * 2) := by
      apply Array.toList_inj.1
      exact (List.take_of_length_le (by rw [Array.length_toList, hcs]; omega)).symm.trans ht
    subst hcur
    generalize w1.alloc (.cells #[.pointer none, .int .i64 0, .slice (some ⟨w.heap.size, 0, none⟩) n n] 65) = w2 at hg2 hb2 hs2 ⊢
    have hblt : w.heap.size < w1.heap.size := (Array.getElem?_eq_some_iff.1 hb).1
    have hb' := (hg2.block w.heap.size hblt (by simp)).trans hb
    have hcn : ∀ j, w2.cell? ⟨w1.heap.size, j, none⟩ = #[Value.pointer none, .int .i64 0, .slice (some ⟨w.heap.size, 0, none⟩) n n][j]? := fun j => by simp only [World.cell?, hb2]; rfl
    have hcb : ∀ j, w2.cell? ⟨w.heap.size, j, none⟩ = (madeCells #[Value.pointer none, .int .i64 0] (n * 2))[j]? := fun j => by simp only [World.cell?, hb']; rfl
    have hfn : ∀ j, w2.frozen? ⟨w1.heap.size, j, none⟩ = false := fun j => by simp only [World.frozen?, hb2]; simp
    have hfb : ∀ j, w2.frozen? ⟨w.heap.size, j, none⟩ = false := fun j => by simp only [World.frozen?, hb']; simp
    refine ⟨w.heap.size, fun _ => [], ⟨⟨hn1, hn2, Nat.zero_le _, fun _ _ => Nat.zero_le _, fun p hp => by simp [fresh] at hp, fun j p hp => by simp [fresh] at hp⟩, fun b hb => hb.2, ⟨Nat.le_of_lt hblt, by omega⟩, ⟨Nat.le_refl _, by omega⟩, ⟨_, _, hb2⟩, ⟨_, _, hb'⟩, hcn 2, fun j hj => ⟨?_, rfl⟩, fun _ _ _ _ _ b hb => by simp at hb⟩⟩
    cases j with
    | zero => exact ⟨hcn 0, hcn 1, ⟨hfn _, hfn _⟩, trivial, List.nodup_nil, Nat.zero_le _⟩
    | succ j =>
      have hj : j < n := hj
      exact ⟨(hcb _).trans (made_row n j hj).1, (hcb _).trans (made_row n j hj).2, ⟨hfb _, hfb _⟩, trivial, List.nodup_nil, Nat.zero_le _⟩
  have HRUN := Lib.hid hrun
  have HFIN := Lib.hid hfin
  clear hn hm hrun hown hgr hfin hn1 hn2 hi0 he
  go_enter Try.func11, Try.ntmps11
  have hrun := HRUN.out
  go_wp2
  go_ret
  exact ⟨_, rfl, HFIN.out⟩
end Go.Proofs.Ytonfpifikblnjaa.Net
