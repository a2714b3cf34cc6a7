/- A disk in memory: the word for it, and the functions that only look at its fields. -/
import Derived.OwnWalk
import Derived.Test.YtplnkpbfnpajjaaSecPut
namespace Go.Proofs.Ytplnkpbfnpajjaa.Sec
open Go.RowKit Go.Maps

/-- A disk, as data. -/
structure Dsk where
  n : Nat
  base : Nat → List UInt8
  now : Nat → List UInt8
  wr : List (Nat × List UInt8)
  armed : Option Nat
  off : Bool
/-- Its writes, as cells. -/
def rows (wr : List (Nat × List UInt8)) : List Value := wr.flatMap fun p => (wrA p.1 p.2).toList
/-- How many writes are left, in memory. -/
def ArmedAt (w : World) (S : Nat → Prop) (pa : Option Addr) : Option Nat → Prop
  | none => pa = none
  | some k => ∃ b, pa = some ⟨b, 0, none⟩ ∧ S b ∧ w.heap[b]? = some (.cells #[.int .i64 (k : Int)] 3) ∧ k ≤ 9223372036854775807
/-- The disk D lies at block d; all blocks that it holds are among those of which S is true. -/
def DiskAt (w : World) (S : Nat → Prop) (d : Nat) (D : Dsk) : Prop :=
  D.n ≤ 16384 ∧ (∀ p ∈ D.wr, p.1 < D.n ∧ p.2.length = 128) ∧ ∃ mb mn sv pa, w.heap[d]? = some (.cells #[.int .i64 (D.n : Int), .map (some mb), .map (some mn), sv, .pointer pa, .bool D.off] 50) ∧
    S d ∧ S mb ∧ S mn ∧ mb ≠ mn ∧ SecMap w mb D.n D.base ∧ SecMap w mn D.n D.now ∧ w.ownsRow 0 55 129 sv D.wr.length (rows D.wr) ∧ (∀ g, sv.ownBlock = some g → S g) ∧ ArmedAt w S pa D.armed

/-- From w to w' nothing has turned but blocks of which S is true, and new ones. -/
structure Off (S : Nat → Prop) (w w' : World) : Prop where
  os : w'.os = w.os
  tape : w'.tape = w.tape
  output : w'.output = w.output
  size : w.heap.size ≤ w'.heap.size
  block : ∀ k, k < w.heap.size → ¬ S k → w'.heap[k]? = w.heap[k]?
theorem Off.refl (S : Nat → Prop) (w : World) : Off S w w := ⟨rfl, rfl, rfl, Nat.le_refl _, fun _ _ _ => rfl⟩
theorem Off.trans {S : Nat → Prop} {a b c : World} (h : Off S a b) (k : Off S b c) : Off S a c :=
  ⟨k.os.trans h.os, k.tape.trans h.tape, k.output.trans h.output, Nat.le_trans h.size k.size, fun j hj hs => (k.block j (Nat.lt_of_lt_of_le hj h.size) hs).trans (h.block j hj hs)⟩
theorem Off.mono {S T : Nat → Prop} {a b : World} (h : Off S a b) (hs : ∀ k, k < a.heap.size → S k → T k) : Off T a b := ⟨h.os, h.tape, h.output, h.size, fun k hk ht => h.block k hk (fun x => ht (hs k hk x))⟩
theorem Off.of_grown {S : Nat → Prop} {a b : World} {row : Option Nat} (h : a.grownBy b row) (hs : ∀ k, row = some k → S k) : Off S a b := ⟨h.os, h.tape, h.output, h.size, fun k hk ht => h.block k hk (fun e => ht (hs k e.symm))⟩
theorem Off.below {S : Nat → Prop} {a b : World} {B : Nat} (h : Off S a b) (hB : B ≤ a.heap.size) (hs : ∀ k, k < B → ¬ S k) : Below B a b := ⟨h.os, h.tape, h.output, h.size, fun k hk => h.block k (by omega) (hs k hk)⟩
theorem Off.none {a b : World} (h : Off (fun _ => False) a b) : a.grownBy b none := ⟨h.os, h.tape, h.output, h.size, fun k hk _ => h.block k hk (fun x => x)⟩

theorem cell_blk {w : World} {b : Nat} {C : Array Value} {t : TypeId} (h : w.heap[b]? = some (.cells C t)) (j : Nat) : w.cell? ⟨b, j, none⟩ = C[j]? := by
  simp only [World.cell?, h]
  rfl

def askedN (D : Dsk) (i : Int) : Int := if D.off = true then 20 else if i < 0 ∨ (D.n : Int) ≤ i then 2 else 0

set_option maxHeartbeats 1000000 in
theorem sectors_at (S : Nat → Prop) (d : Nat) (D : Dsk) (w : World) (h : DiskAt w S d D) :
    Calls Try.prog 24 #[.pointer (some ⟨d, 0, none⟩)] w fun e w' => e = .returned (.int .i64 (D.n : Int)) ∧ w = w' := by
  obtain ⟨h1, _, mb, mn, sv, pa, hd, _⟩ := h
  have c0 : w.cell? ⟨d, 0, none⟩ = some (.int .i64 (D.n : Int)) := cell_blk hd 0
  clear hd
  go_enter Try.func24, Try.ntmps24
  go_wp2
  go_ret
  exact ⟨rfl, rfl⟩

set_option maxHeartbeats 1000000 in
theorem writes_at (S : Nat → Prop) (d : Nat) (D : Dsk) (w : World) (h : DiskAt w S d D) :
    Calls Try.prog 12 #[.pointer (some ⟨d, 0, none⟩)] w fun e w' => e = .returned (.int .i64 (D.wr.length : Int)) ∧ w = w' := by
  obtain ⟨_, _, mb, mn, sv, pa, hd, _, _, _, _, _, _, hrow, _⟩ := h
  obtain ⟨A, cap, rfl⟩ : ∃ A cap, sv = .slice A D.wr.length cap := by
    obtain ⟨_, ⟨rfl, e⟩ | ⟨g, cap, _, rfl, _⟩⟩ := hrow
    · exact ⟨none, 0, by rw [e]⟩
    · exact ⟨_, cap, rfl⟩
  have c3 : w.cell? ⟨d, 3, none⟩ = some (.slice A D.wr.length cap) := cell_blk hd 3
  clear hd hrow
  go_enter Try.func12, Try.ntmps12
  go_wp2
  go_ret
  exact ⟨rfl, rfl⟩

set_option maxHeartbeats 1000000 in
theorem off_at (S : Nat → Prop) (d : Nat) (D : Dsk) (w : World) (h : DiskAt w S d D) :
    Calls Try.prog 23 #[.pointer (some ⟨d, 0, none⟩)] w fun e w' => e = .returned (.bool D.off) ∧ w = w' := by
  obtain ⟨_, _, mb, mn, sv, pa, hd, _⟩ := h
  have c5 : w.cell? ⟨d, 5, none⟩ = some (.bool D.off) := cell_blk hd 5
  clear hd
  go_enter Try.func23, Try.ntmps23
  go_wp2
  go_ret
  exact ⟨rfl, rfl⟩

set_option maxHeartbeats 1000000 in
theorem asked_at (S : Nat → Prop) (d : Nat) (D : Dsk) (i : Int) (w : World) (h : DiskAt w S d D) :
    Calls Try.prog 25 #[.pointer (some ⟨d, 0, none⟩), .int .i64 i] w fun e w' => e = .returned (.int .i64 (askedN D i)) ∧ w = w' := by
  obtain ⟨h1, _, mb, mn, sv, pa, hd, _⟩ := h
  have c0 : w.cell? ⟨d, 0, none⟩ = some (.int .i64 (D.n : Int)) := cell_blk hd 0
  have c5 : w.cell? ⟨d, 5, none⟩ = some (.bool D.off) := cell_blk hd 5
  clear hd
  unfold askedN
  cases hoff : D.off
  · rw [hoff] at c5
    by_cases h0 : i < 0
    · have d0 : decide (i < 0) = true := by simp [h0]
      rw [if_neg (by simp), if_pos (.inl h0)]
      clear h0
      go_enter Try.func25, Try.ntmps25
      go_wp2
      go_ret
      exact ⟨rfl, rfl⟩
    · have d0 : decide (i < 0) = false := by simp; omega
      by_cases h2 : (D.n : Int) ≤ i
      · have d1 : decide ((D.n : Int) ≤ i) = true := by simp [h2]
        rw [if_neg (by simp), if_pos (.inr h2)]
        clear h0 h2
        go_enter Try.func25, Try.ntmps25
        go_wp2
        go_ret
        exact ⟨rfl, rfl⟩
      · have d1 : decide ((D.n : Int) ≤ i) = false := by simp; omega
        rw [if_neg (by simp), if_neg (by omega)]
        clear h0 h2
        go_enter Try.func25, Try.ntmps25
        go_wp2
        go_ret
        exact ⟨rfl, rfl⟩
  · rw [hoff] at c5
    rw [if_pos rfl]
    go_enter Try.func25, Try.ntmps25
    go_wp2
    go_ret
    exact ⟨rfl, rfl⟩
end Go.Proofs.Ytplnkpbfnpajjaa.Sec
