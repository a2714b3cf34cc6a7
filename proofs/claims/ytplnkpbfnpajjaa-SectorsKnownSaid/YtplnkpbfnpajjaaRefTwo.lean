/- The program's disk and the document's, side by side; bytes and texts. -/
import Derived.Laws.IdiomStrings
import Derived.Test.YtplnkpbfnpajjaaRefSame
namespace Go.Proofs.Ytplnkpbfnpajjaa.Sec
open Go.RowKit Go.Maps

theorem run_str_row {w : World} {S : Nat → Prop} {A : Option Addr} {l : List UInt8} (h : RowB w S A l) (cap : Nat) : (convert 29 9 (.slice A l.length cap)).run Try.prog w = .ok (strV l) w := by
  rcases h with rfl | ⟨b, off, rfl, _, hr⟩
  · cases A with
    | none => exact run_convert_bytes_nil (P := Try.prog) w 29 5 Try.underlying29 Try.underlying5 0 cap _ Try.underlying9
    | some a =>
      have ha := run_loadCells_list (P := Try.prog) w a [] (fun j v hj => by simp at hj)
      rw [List.length_nil, run_convert_bytes_string w 29 9 5 _ 0 cap Try.underlying29 Try.underlying5 Try.underlying9, run_bytesToString w a 0 cap [] ha]
      rfl
  · exact run_string w b off l cap hr
theorem run_bytes_new (w : World) (l : List UInt8) : ∃ W2 cap, (convert 9 29 (strV l)).run Try.prog w = .ok (.slice (some ⟨w.heap.size, 0, none⟩) l.length cap) W2 ∧ W2.rangeAt w.heap.size 0 (u8s l) ∧ ByteAt W2 w.heap.size l.length ∧ w.grownBy W2 none ∧ W2.heap.size = w.heap.size + 1 := by
  have h := run_bytes_of_string (P := Try.prog) w 9 29 5 (bs l) Try.underlying9 Try.underlying29 Try.underlying5
  rw [bs_size] at h
  have hcell : ∀ i, (hi : i < l.length) → (w.drew.alloc (.cells (bytesRow (bs l) (grownCap w l.length 0 5)) 5 ((bytesRow (bs l) (grownCap w l.length 0 5)).size, (bytesRow (bs l) (grownCap w l.length 0 5)).size + 1))).cell? ⟨w.heap.size, i, none⟩ = some (.int .u8 (l[i].toNat : Int)) := by
    intro i hi
    refine (cell_of_row (w.drew.alloc _) w.heap.size _ _ _ _ (heap_alloc_new w.drew _)).trans ?_
    unfold bytesRow bs
    simp [Array.getElem?_append, hi]
  refine ⟨_, _, h, fun j v hj => ?_, fun j hj => ⟨⟨_, hcell j hj⟩, ?_⟩, drew_alloc_grown w _ none, by rw [World.size_alloc]; rfl⟩
  · have hjl : j < l.length := by have := (List.getElem?_eq_some_iff.1 hj).1; simpa [u8s] using this
    rw [Nat.zero_add, hcell j hjl, ← hj]
    simp [u8s, hjl]
  · have hb : (w.drew.alloc (.cells (bytesRow (bs l) (grownCap w l.length 0 5)) 5 ((bytesRow (bs l) (grownCap w l.length 0 5)).size, (bytesRow (bs l) (grownCap w l.length 0 5)).size + 1))).heap[w.heap.size]? = _ := heap_alloc_new w.drew _
    have hge := grownCap_ge w l.length 0 5
    simp only [World.frozen?, hb]
    simp [bytesRow, bs]
    omega

/-- Two disks that tell the same, in blocks that are there, and apart. -/
structure Two (w : World) (S T : Nat → Prop) (d m : Nat) (D : Dsk) : Prop where
  disk : DiskAt w S d D
  ref : RefAt w T m D
  full : Full D
  apart : ∀ b, S b → ¬ T b
  sB : ∀ b, S b → b < w.heap.size
  tB : ∀ b, T b → b < w.heap.size
theorem Full.push {D : Dsk} (h : Full D) (i : Nat) (l : List UInt8) : Full (D.push i l) := by
  show upd D.now i l = behind D.base (D.wr ++ [(i, l)])
  rw [behind_snoc, ← h]
theorem Full.wrote {D : Dsk} (h : Full D) (i : Int) (l : List UInt8) : Full (wrote D i l).2 := by
  unfold Sec.wrote
  split
  · exact h
  · split
    · exact h
    · split
      · exact h.push _ _
      · exact h
      · exact Full.push (D := { D with armed := some _ }) h _ _
theorem wrote_len (D : Dsk) (i : Int) (l : List UInt8) : (wrote D i l).2.wr.length ≤ D.wr.length + 1 ∧ (wrote D i l).2.n = D.n := by
  unfold Sec.wrote
  split
  · exact ⟨Nat.le_succ _, rfl⟩
  · split
    · exact ⟨Nat.le_succ _, rfl⟩
    · split
      · exact ⟨by show (D.wr ++ [_]).length ≤ _; rw [List.length_append]; simp, rfl⟩
      · exact ⟨Nat.le_succ _, rfl⟩
      · exact ⟨by show (D.wr ++ [_]).length ≤ _; rw [List.length_append]; simp, rfl⟩
section
variable {w v v' : World} {S T : Nat → Prop} {d m : Nat} {D E : Dsk}
theorem Two.grown (h : Two w S T d m D) (hg : w.grownBy v none) : Two v S T d m D :=
  ⟨h.disk.grown hg, h.ref.grown hg, h.full, h.apart, fun b hb => Nat.lt_of_lt_of_le (h.sB b hb) hg.size, fun b hb => Nat.lt_of_lt_of_le (h.tB b hb) hg.size⟩
/-- The set for an operation on the program's disk, which may make memory. -/
def More (S : Nat → Prop) (n : Nat) : Nat → Prop := fun b => S b ∨ n ≤ b
theorem more_new (S : Nat → Prop) (n : Nat) : ∀ b, n ≤ b → More S n b := fun _ h => .inr h
theorem Two.disk' (h : Two w S T d m D) : DiskAt w (More S w.heap.size) d D := h.disk.mono (fun _ _ hs => .inl hs)
theorem Two.ref' (h : Two w S T d m D) : RefAt w (More T w.heap.size) m D := h.ref.mono (fun _ _ hs => .inl hs)
/-- Between the two operations: the program's disk has gone on, the document's not yet. -/
structure Mid (w v : World) (S T : Nat → Prop) (d m : Nat) (D E : Dsk) (S' : Nat → Prop) : Prop where
  disk : DiskAt v S' d E
  ref : RefAt v T m D
  apart : ∀ b, S' b → ¬ T b
  sB : ∀ b, S' b → b < v.heap.size
  tB : ∀ b, T b → b < v.heap.size
  sS : ∀ b, S' b → S b ∨ w.heap.size ≤ b
  off : Off (fun b => S b ∨ T b) w v
theorem Two.mid (h : Two w S T d m D) (hd : DiskAt v (More S w.heap.size) d E) (ho : Off (More S w.heap.size) w v) : Mid w v S T d m D E (fun b => More S w.heap.size b ∧ b < v.heap.size) := by
  refine ⟨hd.mono (fun b hb hs => ⟨hs, hb⟩), h.ref.off ho ?_, ?_, fun b hb => hb.2, fun b hb => Nat.lt_of_lt_of_le (h.tB b hb) ho.size, fun b hb => hb.1, ho.mono ?_⟩
  · rintro b hb ht (hs | hs)
    · exact h.apart b hs ht
    · omega
  · rintro b ⟨hs | hs, _⟩ ht
    · exact h.apart b hs ht
    · have := h.tB b ht; omega
  · rintro b hb (hs | hs)
    · exact .inl hs
    · omega
theorem Mid.two {S' : Nat → Prop} (h : Mid w v S T d m D E S') (hr : RefAt v' (More T v.heap.size) m E) (ho : Off (More T v.heap.size) v v') (hf : Full E) :
    ∃ T', Two v' S' T' d m E ∧ (∀ b, T' b → T b ∨ w.heap.size ≤ b) ∧ Off (fun b => S b ∨ T b) w v' := by
  refine ⟨fun b => More T v.heap.size b ∧ b < v'.heap.size, ⟨h.disk.off ho ?_, hr.mono (fun b hb hs => ⟨hs, hb⟩), hf, ?_, fun b hb => Nat.lt_of_lt_of_le (h.sB b hb) ho.size, fun b hb => hb.2⟩, ?_, ?_⟩
  · rintro b hb hs (ht | ht)
    · exact h.apart b hs ht
    · have := h.sB b hs; omega
  · rintro b hs ⟨ht | ht, _⟩
    · exact h.apart b hs ht
    · have := h.sB b hs; omega
  · rintro b ⟨ht | ht, _⟩
    · exact .inl ht
    · have := h.off.size; exact .inr (by omega)
  · refine ⟨ho.os.trans h.off.os, ho.tape.trans h.off.tape, ho.output.trans h.off.output, Nat.le_trans h.off.size ho.size, fun b hb hn => ?_⟩
    refine (ho.block b (Nat.lt_of_lt_of_le hb h.off.size) ?_).trans (h.off.block b hb hn)
    rintro (ht | ht)
    · exact hn (.inr ht)
    · have := h.off.size; omega
end
end Go.Proofs.Ytplnkpbfnpajjaa.Sec
