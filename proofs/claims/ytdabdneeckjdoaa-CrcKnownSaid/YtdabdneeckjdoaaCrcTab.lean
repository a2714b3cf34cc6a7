/- The table of what each byte has left: plain words. No program in sight. -/
import Derived.Laws.Rows
import Derived.Deep.MidRow
import Derived.Test.YtdabdneeckjdoaaCrcRow
namespace Go.Proofs.Ytdabdneeckjdoaa.Crc
open Go.RowKit

/-- What byte c has left when n bytes have gone in behind it (itself counted), as far as the table is filled (up to c0). -/
def tabAt (n c0 i : Nat) : BitVec 32 := if i < c0 then times h8 n (BitVec.ofNat 32 i) else 0#32
/-- .. as a value. -/
def tabV (n c0 i : Nat) : Value := .int .u32 (u (tabAt n c0 i))
/-- The table's cells. -/
def table (n c0 : Nat) : Array Value := Array.ofFn (n := 256) fun i => tabV n c0 i.val
def noughtCells : Array Value := Array.replicate 256 (.int .u32 0)
theorem table_size (n c0 : Nat) : (table n c0).size = 256 := by simp [table]
theorem table_get (n c0 i : Nat) (h : i < 256) : (table n c0)[i]? = some (tabV n c0 i) := by
  simp [table, h]
theorem tabAt_one (n i : Nat) : tabAt n 1 i = 0#32 := by
  unfold tabAt
  split
  · rename_i h
    obtain rfl : i = 0 := by omega
    exact times_h8_zero n
  · rfl
theorem table_one (n : Nat) : noughtCells = table n 1 := by
  apply Array.ext
  · simp [noughtCells, table]
  · intro i h1 h2
    simp [noughtCells, table, tabV, tabAt_one]
    rfl
theorem table_succ (n c : Nat) : (table n c).setIfInBounds c (.int .u32 (u (times h8 n (BitVec.ofNat 32 c)))) = table n (c + 1) := by
  apply Array.ext
  · simp [table]
  · intro i h1 h2
    have hi : i < 256 := by simpa [table] using h2
    rw [Array.getElem_setIfInBounds (by rw [table_size]; exact hi)]
    split
    · rename_i h
      subst h
      simp [table, tabV, tabAt]
    · rename_i h
      simp only [table, Array.getElem_ofFn, tabV, tabAt]
      have e : (i < c) = (i < c + 1) := by apply propext; omega
      rw [show (if i < c then times h8 n (BitVec.ofNat 32 i) else 0#32) = (if i < c + 1 then times h8 n (BitVec.ofNat 32 i) else 0#32) by simp only [e]]
theorem tab_xor (n c a b : Nat) (ha : a < c) (hb : b < c) (h : BitVec.ofNat 32 a ^^^ BitVec.ofNat 32 b = BitVec.ofNat 32 c) : tabAt n c a ^^^ tabAt n c b = times h8 n (BitVec.ofNat 32 c) := by
  unfold tabAt
  rw [if_pos ha, if_pos hb, ← times_h8_xor, h]

/-- The lowest bit of a number below 256. -/
def lowb (c : Nat) : Nat := if c % 2 = 1 then 1 else if c % 4 = 2 then 2 else if c % 8 = 4 then 4 else if c % 16 = 8 then 8 else if c % 32 = 16 then 16 else if c % 64 = 32 then 32 else if c % 128 = 64 then 64 else 128
theorem low_form : ∀ c : Fin 256, 1 ≤ c.val → bits .and .i64 ((c.val : Nat) : Int) (-((c.val : Nat) : Int)) = (lowb c.val : Int) := by decide +kernel
theorem low_le : ∀ c : Fin 256, 1 ≤ c.val → 1 ≤ lowb c.val ∧ lowb c.val ≤ c.val := by decide +kernel
theorem low_xor : ∀ c : Fin 256, BitVec.ofNat 32 (lowb c.val) ^^^ BitVec.ofNat 32 (c.val - lowb c.val) = BitVec.ofNat 32 c.val ∨ c.val < lowb c.val := by decide +kernel

/-- The block of the table. -/
def TabBlk (w : World) (g : Nat) (t : TypeId) (n c0 : Nat) : Prop := w.heap[g]? = some (.cells (table n c0) t (0, 0))
section
variable {w w' : World} {g n c0 : Nat} {t : TypeId}
theorem TabBlk.heap (h : TabBlk w g t n c0) : w.heap[g]? = some (.cells (table n c0) t (0, 0)) := h
theorem TabBlk.cell (h : TabBlk w g t n c0) (i : Nat) (hi : i < 256) : w.cell? ⟨g, i, none⟩ = some (.int .u32 (u (tabAt n c0 i))) := by
  rw [cell_of_row w g i _ t (0, 0) h, table_get n c0 i hi]; rfl
theorem TabBlk.frozen (h : TabBlk w g t n c0) (i : Nat) : w.frozen? ⟨g, i, none⟩ = false := frozen_of_row w g i _ t h
theorem TabBlk.set (h : TabBlk w g t n c0) : TabBlk (w.setCell ⟨g, c0, none⟩ (.int .u32 (u (times h8 n (BitVec.ofNat 32 c0))))) g t n (c0 + 1) := by
  unfold TabBlk
  rw [heap_setCell_same w g c0 _ t _ h, table_succ]
/-- The whole table may be written. -/
theorem TabBlk.there (h : TabBlk w g t n c0) : w.there g 0 (table n c0).size := fun j hj => by
  rw [table_size] at hj
  rw [Nat.zero_add]
  exact ⟨by rw [h.cell j hj]; rfl, h.frozen j⟩
end

/-- What is stored where it lies already turns nothing. -/
theorem setCell_id {w : World} {g i : Nat} {cs : Array Value} {t : TypeId} {fr : Nat × Nat} {v : Value} (h : w.heap[g]? = some (.cells cs t fr)) (hv : cs[i]? = some v) : w.setCell ⟨g, i, none⟩ v = w := by
  have e : (w.setCell ⟨g, i, none⟩ v).heap = w.heap := by
    apply Array.ext_getElem?
    intro k
    by_cases hk : k = g
    · subst hk
      simp only [World.setCell, Array.getElem?_modify, h]
      have : cs.setIfInBounds i v = cs := by
        apply Array.ext_getElem?
        intro j
        rw [Array.getElem?_setIfInBounds]
        split
        · rename_i hj
          subst hj
          rw [hv]
          split
          · rfl
          · rename_i hn
            rw [Array.getElem?_eq_none (by omega)] at hv
            cases hv
        · rfl
      simp [this]
    · exact heap_setCell_other w _ k v (by simpa using hk)
  show ({ w with heap := (w.setCell ⟨g, i, none⟩ v).heap } : World) = w
  rw [e]
theorem setCells_id {w : World} {g : Nat} {cs : Array Value} {t : TypeId} {fr : Nat × Nat} (h : w.heap[g]? = some (.cells cs t fr)) : ∀ (vs : List Value) (o : Nat), (∀ j v, vs[j]? = some v → cs[o + j]? = some v) → w.setCells g o vs = w
  | [], _, _ => rfl
  | v :: r, o, hv => by
    rw [World.setCells, setCell_id h (by simpa using hv 0 v rfl)]
    exact setCells_id h r (o + 1) (fun j x hx => by have := hv (j + 1) x (by simpa using hx); rwa [show o + 1 + j = o + (j + 1) by omega])

theorem table_oneCell (n c0 : Nat) : (table n c0).all (·.oneCell') = true := by
  apply Array.all_eq_true_iff_forall_mem.2
  intro v hv
  obtain ⟨i, hi⟩ := Array.mem_iff_getElem?.1 hv
  have h : i < 256 := by
    have := (Array.getElem?_eq_some_iff.1 hi).1
    rwa [table_size] at this
  rw [table_get n c0 i h] at hi
  injection hi with hi
  subst hi
  rfl
theorem TabBlk.stored {w : World} {g n c0 : Nat} {t : TypeId} (h : TabBlk w g t n c0) : w.setCells g 0 (table n c0).toList = w :=
  setCells_id h _ 0 (fun j v hv => by simpa using hv)

end Go.Proofs.Ytdabdneeckjdoaa.Crc
