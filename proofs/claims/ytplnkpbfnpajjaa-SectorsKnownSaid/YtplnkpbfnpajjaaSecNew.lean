/- A new disk: sectors.New. -/
import Derived.Test.YtplnkpbfnpajjaaSecSet
namespace Go.Proofs.Ytplnkpbfnpajjaa.Sec
open Go.RowKit Go.Maps

def freshDisk (n : Nat) : Dsk := ⟨n, fun _ => noughts, fun _ => noughts, [], none, false⟩
set_option maxHeartbeats 2000000 in
theorem new_at (i : Int) (w : World) :
    Calls Try.prog 8 #[.int .i64 i] w fun e w' => ∃ d, e = .returned (.pointer (some ⟨d, 0, none⟩)) ∧ DiskAt w' (fun b => w.heap.size ≤ b) d (freshDisk (max 0 (min 16384 i)).toNat) ∧ Off (fun _ => False) w w' := by
  obtain ⟨n, hn⟩ : ∃ n : Nat, (n : Int) = max 0 (min 16384 i) := ⟨(max 0 (min 16384 i)).toNat, by omega⟩
  obtain ⟨m, hm⟩ : ∃ m : Int, m = min 16384 i := ⟨_, rfl⟩
  have hmn : ∀ (w : World) (ts : Array TypeId) (t : TypeId), (Builtin.min_ ts t #[.int .i64 16384, .int .i64 i]).run Try.prog w = .ok (.int .i64 m) w := fun w ts t => by
    rw [run_min_int2]
    congr 2
    split <;> omega
  have hmx : ∀ (w : World) (ts : Array TypeId) (t : TypeId), (Builtin.max_ ts t #[.int .i64 0, .int .i64 m]).run Try.prog w = .ok (.int .i64 (n : Int)) w := fun w ts t => by
    rw [run_max_int2]
    congr 2
    split <;> omega
  have hmk : ∀ w : World, (Instr.makeMap 46 none).run Try.prog w = .ok (.map (some w.heap.size)) (w.alloc (.map #[] 0)) := fun _ => rfl
  have hn2 : n ≤ 16384 := by omega
  rw [← hn, Int.toNat_natCast]
  clear hn hm
  go_enter Try.func8, Try.ntmps8
  go_wp2
  go_ret
  have s1 : (w.alloc (.map #[] 0)).heap.size = w.heap.size + 1 := World.size_alloc ..
  have s2 : ((w.alloc (.map #[] 0)).alloc (.map #[] 0)).heap.size = w.heap.size + 2 := by rw [World.size_alloc, s1]
  have m1 := ((SecMap.made w n).kept (World.grownBy_alloc _ (.map #[] 0) none) (by simp)).kept (World.grownBy_alloc _ (.cells #[.int .i64 (n : Int), .map (some w.heap.size), .map (some (w.heap.size + 1)), .slice none 0 0, .pointer none, .bool false] 50) none) (by simp)
  have m2 := (SecMap.made (w.alloc (.map #[] 0)) n).kept (World.grownBy_alloc _ (.cells #[.int .i64 (n : Int), .map (some w.heap.size), .map (some (w.heap.size + 1)), .slice none 0 0, .pointer none, .bool false] 50) none) (by simp)
  have hd := (MapKept.heap_alloc ((w.alloc (.map #[] 0)).alloc (.map #[] 0)) (.cells #[.int .i64 (n : Int), .map (some w.heap.size), .map (some (w.heap.size + 1)), .slice none 0 0, .pointer none, .bool false] 50)).1
  rw [s1] at m2
  rw [s2] at hd
  exact ⟨w.heap.size + 2, rfl, ⟨hn2, by simp [freshDisk], w.heap.size, w.heap.size + 1, .slice none 0 0, none, hd, by show _ ≤ _; omega, by show _ ≤ _; omega, by show _ ≤ _; omega, by omega, m1, m2, ⟨rfl, .inl ⟨rfl, rfl⟩⟩, by simp [Value.ownBlock], rfl⟩,
    ((Off.of_grown (World.grownBy_alloc w _ none) (by simp)).trans (Off.of_grown (World.grownBy_alloc _ _ none) (by simp))).trans (Off.of_grown (World.grownBy_alloc _ _ none) (by simp))⟩
end Go.Proofs.Ytplnkpbfnpajjaa.Sec
