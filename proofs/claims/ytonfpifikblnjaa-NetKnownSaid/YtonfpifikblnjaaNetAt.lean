/- A net in memory. No program's function in sight. -/
import Derived.Test.YtonfpifikblnjaaNetTake
namespace Go.Proofs.Ytonfpifikblnjaa.Net
open Go.RowKit

/-- From w to w' nothing has turned but blocks of which S is true, and new ones. -/
structure Off (S : Nat → Prop) (w w' : World) : Prop where
  os : w'.os = w.os
  tape : w'.tape = w.tape
  output : w'.output = w.output
  size : w.heap.size ≤ w'.heap.size
  block : ∀ k, k < w.heap.size → ¬ S k → w'.heap[k]? = w.heap[k]?
theorem Off.refl (S : Nat → Prop) (w : World) : Off S w w := ⟨rfl, rfl, rfl, Nat.le_refl _, fun _ _ _ => rfl⟩
theorem Off.trans {S : Nat → Prop} {a b c : World} (h : Off S a b) (k : Off S b c) : Off S a c :=
  ⟨k.os.trans h.os, k.tape.trans h.tape, k.output.trans h.output, Nat.le_trans h.size k.size, fun j hj hs => (k.block j (Nat.lt_of_lt_of_le hj h.size) hs).trans (h.block j hj hs)⟩
theorem Off.mono {S T : Nat → Prop} {a b : World} (h : Off S a b) (hs : ∀ k, k < a.heap.size → S k → T k) : Off T a b := ⟨h.os, h.tape, h.output, h.size, fun k hk ht => h.block k hk (fun x => ht (hs k hk x))⟩
theorem Off.of_grown {S : Nat → Prop} {a b : World} {row : Option Nat} (h : a.grownBy b row) (hs : ∀ k, row = some k → S k) : Off S a b := ⟨h.os, h.tape, h.output, h.size, fun k hk ht => h.block k hk (fun e => ht (hs k e.symm))⟩
theorem Off.below {S : Nat → Prop} {a b : World} {B : Nat} (h : Off S a b) (hB : B ≤ a.heap.size) (hs : ∀ k, k < B → ¬ S k) : Below B a b := ⟨h.os, h.tape, h.output, h.size, fun k hk => h.block k (by omega) (hs k hk)⟩
theorem Off.keep {a b : World} (h : Off (fun _ => False) a b) : a.grownBy b none := ⟨h.os, h.tape, h.output, h.size, fun k hk _ => h.block k hk (fun x => x)⟩
theorem Off.cells {F : Nat → Nat → Prop} {a b : World} (h : CellOff F a b) : Off (fun k => ∃ o, F k o) a b := ⟨h.os, h.tape, h.output, h.size, fun k hk hn => h.block k hk (fun o hF => hn ⟨o, hF⟩)⟩
/-- Among blocks of T, new ones too: cells too. -/
theorem Off.cellOff {S : Nat → Prop} {a b : World} (h : Off S a b) (ht : ∀ k t, S k → Typed a k t → Typed b k t) (hf : ∀ k o, S k → b.frozen? ⟨k, o, none⟩ = a.frozen? ⟨k, o, none⟩) : CellOff (fun k _ => S k) a b := by
  refine ⟨h.os, h.tape, h.output, h.size, fun k o hk hn => World.cell?_of_block (a := ⟨k, o, none⟩) (h.block k hk hn), fun k t hT => ?_, fun k o hk => ?_, fun k hk hn => h.block k hk (hn 0)⟩
  · by_cases hs : S k
    · exact ht k t hs hT
    · obtain ⟨C, fr, hC⟩ := hT
      exact ⟨C, fr, (h.block k (Array.getElem?_eq_some_iff.1 hC).1 hs).trans hC⟩
  · by_cases hs : S k
    · exact hf k o hs
    · exact World.frozen?_of_block (a := ⟨k, o, none⟩) (h.block k hk hs)
/-- And no bytes at all. -/
structure OffU (S : Nat → Prop) (w w' : World) : Prop extends Off S w w' where
  u8 : ∀ k, Typed w k 5 → w'.heap[k]? = w.heap[k]?
theorem OffU.refl (S : Nat → Prop) (w : World) : OffU S w w := ⟨Off.refl _ _, fun _ _ => rfl⟩
theorem OffU.typed {S : Nat → Prop} {a b : World} (h : OffU S a b) {k : Nat} (ht : Typed a k 5) : Typed b k 5 := let ⟨C, fr, hC⟩ := ht; ⟨C, fr, (h.u8 k ht).trans hC⟩
theorem OffU.trans {S : Nat → Prop} {a b c : World} (h : OffU S a b) (k : OffU S b c) : OffU S a c := ⟨h.toOff.trans k.toOff, fun x hx => (k.u8 x (h.typed hx)).trans (h.u8 x hx)⟩
theorem OffU.mono {S T : Nat → Prop} {a b : World} (h : OffU S a b) (hs : ∀ k, k < a.heap.size → S k → T k) : OffU T a b := ⟨h.toOff.mono hs, h.u8⟩
theorem OffU.of_grown {S : Nat → Prop} {a b : World} (h : a.grownBy b Option.none) : OffU S a b := ⟨Off.of_grown h (by simp), fun x hx => h.block x hx.lt (by simp)⟩
theorem OffU.cells {F : Nat → Nat → Prop} {a b : World} (h : CellOff F a b) (hF : ∀ k, Typed a k 5 → ∀ o, ¬ F k o) : OffU (fun k => ∃ o, F k o) a b := ⟨Off.cells h, fun x hx => h.block x hx.lt (hF x hx)⟩
/-- Only blocks of S have been turned, which become S'; no bytes. -/
structure Turn (S S' : Nat → Prop) (w w' : World) : Prop where
  off : OffU S w w'
  sub : ∀ b, S' b → S b ∨ w.heap.size ≤ b
  lt : ∀ b, S' b → b < w'.heap.size
theorem Turn.trans {S S' S'' : Nat → Prop} {a b c : World} (h : Turn S S' a b) (k : Turn S' S'' b c) : Turn S S'' a c := by
  refine ⟨⟨⟨k.off.os.trans h.off.os, k.off.tape.trans h.off.tape, k.off.output.trans h.off.output, Nat.le_trans h.off.size k.off.size, fun j hj hs => (k.off.block j (Nat.lt_of_lt_of_le hj h.off.size) (fun hs' => ?_)).trans (h.off.block j hj hs)⟩, fun x hx => (k.off.u8 x (h.off.typed hx)).trans (h.off.u8 x hx)⟩, fun b hb => ?_, k.lt⟩
  · rcases h.sub j hs' with e | e
    · exact hs e
    · omega
  · rcases k.sub b hb with e | e
    · exact h.sub b e
    · exact .inr (Nat.le_trans h.off.size e)

/-- A net, as data: row 0 is the way, row i + 1 the box of end i. -/
structure Nt where
  n : Nat
  row : Nat → List Pk
structure Nt.OK (D : Nt) : Prop where
  pos : 1 ≤ D.n
  most : D.n ≤ 64
  way : (D.row 0).length ≤ 256
  box : ∀ i, i < D.n → (D.row (i + 1)).length ≤ 32
  to_ : ∀ p ∈ D.row 0, 0 ≤ p.to ∧ p.to < (D.n : Int)
  small : ∀ j, ∀ p ∈ D.row j, p.b.length ≤ 1000
def Nt.set (D : Nt) (j : Nat) (l : List Pk) : Nt := ⟨D.n, fun i => if i = j then l else D.row i⟩
theorem Nt.set_same (D : Nt) (j : Nat) (l : List Pk) : (D.set j l).row j = l := if_pos rfl
theorem Nt.set_ne (D : Nt) {j i : Nat} (l : List Pk) (h : i ≠ j) : (D.set j l).row i = D.row i := if_neg h
/-- Where row j lies. -/
def pb (nb bb : Nat) : Nat → Nat
  | 0 => nb
  | _ + 1 => bb
def po : Nat → Nat
  | 0 => 0
  | i + 1 => 2 * i
structure NetIn (w : World) (S : Nat → Prop) (nb bb : Nat) (D : Nt) (L : Nat → List (Nat × Pk)) : Prop where
  ok : D.OK
  lt : ∀ b, S b → b < w.heap.size
  snb : S nb
  sbb : S bb
  tnb : Typed w nb 65
  tbb : Typed w bb 63
  boxes : w.cell? ⟨nb, 2, none⟩ = some (.slice (some ⟨bb, 0, none⟩) D.n D.n)
  rows : ∀ j, j ≤ D.n → RowAt w S (pb nb bb j) (po j) (L j) ∧ D.row j = (L j).map (·.2)
  apart : ∀ i j, i ≤ D.n → j ≤ D.n → i ≠ j → ∀ b ∈ (L i).map (·.1), b ∉ (L j).map (·.1)
def NetAt (w : World) (S : Nat → Prop) (nb : Nat) (D : Nt) : Prop := ∃ bb L, NetIn w S nb bb D L

theorem Bytes.turn {S T : Nat → Prop} {w w' : World} {A : Option Addr} {l : List UInt8} (h : Bytes w T A l) (k : OffU S w w') : Bytes w' T A l := by
  rcases h with e | ⟨g, off, e, hS, hT, hr⟩
  · exact .inl e
  · exact .inr ⟨g, off, e, hS, k.typed hT, fun j u hj => (World.cell?_of_block (a := ⟨g, off + j, none⟩) (k.u8 g hT)).trans (hr j u hj)⟩
section
variable {w w' : World} {S S' : Nat → Prop} {nb bb j : Nat} {D D' : Nt} {L : Nat → List (Nat × Pk)}
theorem NetIn.tpb (h : NetIn w S nb bb D L) (j : Nat) : ∃ t, Typed w (pb nb bb j) t ∧ t ≠ 5 ∧ t ≠ 72 := by
  cases j with
  | zero => exact ⟨_, h.tnb, by decide, by decide⟩
  | succ j => exact ⟨_, h.tbb, by decide, by decide⟩
theorem NetIn.spb (h : NetIn w S nb bb D L) (j : Nat) : S (pb nb bb j) := by
  cases j with
  | zero => exact h.snb
  | succ j => exact h.sbb
theorem NetIn.ne (h : NetIn w S nb bb D L) : nb ≠ bb := h.tnb.ne h.tbb (by decide)
theorem NetIn.link (h : NetIn w S nb bb D L) (hj : j ≤ D.n) : ∀ b ∈ (L j).map (·.1), Typed w b 72 ∧ S b := by
  intro b hb
  obtain ⟨p, hp, rfl⟩ := List.mem_map.1 hb
  exact (h.rows j hj).1.chain.link p hp
theorem NetIn.noU8 (h : NetIn w S nb bb D L) (hj : j ≤ D.n) : ∀ k, Typed w k 5 → ∀ o, ¬ Cells (pb nb bb j) (po j) (L j) k o := by
  obtain ⟨t, ht, hu, hn⟩ := h.tpb j
  rintro k hk o (⟨e, _⟩ | ⟨hm, _⟩)
  · exact (hk.ne ht (fun x => hu x.symm)) e
  · exact (hk.ne (h.link hj k hm).1 (by decide)) rfl
/-- One row turns, the others stay. -/
theorem NetIn.turn (h : NetIn w S nb bb D L) (hj : j ≤ D.n) {l' : List (Nat × Pk)} (hS' : ∀ b, b < w.heap.size → S b → S' b) (hlt : ∀ b, S' b → b < w'.heap.size) (hrow : RowAt w' S' (pb nb bb j) (po j) l') (hoff : CellOff (Cells (pb nb bb j) (po j) (L j)) w w')
    (hl : ∀ b ∈ l'.map (·.1), b ∈ (L j).map (·.1) ∨ w.heap.size ≤ b) (hD : D' = D.set j (l'.map (·.2))) (hok : D'.OK) : NetIn w' S' nb bb D' (fun i => if i = j then l' else L i) := by
  subst hD
  obtain ⟨t, ht, hu, hn⟩ := h.tpb j
  have hno : ∀ b u, Typed w b u → u ≠ 72 → b ≠ pb nb bb j → ∀ o, ¬ Cells (pb nb bb j) (po j) (L j) b o := by
    rintro b u hb hu hne o (⟨e, _⟩ | ⟨hm, _⟩)
    · exact hne e
    · exact (hb.ne (h.link hj b hm).1 hu) rfl
  have hnoL : ∀ x, ¬ (x = po j ∨ x = po j + 1) → ¬ Cells (pb nb bb j) (po j) (L j) (pb nb bb j) x := by
    rintro x hx (⟨_, e⟩ | ⟨hm, _⟩)
    · exact hx e
    · exact (ht.ne (h.link hj _ hm).1 hn) rfl
  have hbytes : ∀ b, Typed w b 5 → ∀ o, ¬ Cells (pb nb bb j) (po j) (L j) b o := fun b hb => hno b _ hb (by decide) (fun e => (hb.ne ht (fun x => hu x.symm)) e)
  refine ⟨hok, hlt, hS' _ h.tnb.lt h.snb, hS' _ h.tbb.lt h.sbb, hoff.typ _ _ h.tnb, hoff.typ _ _ h.tbb, ?_, fun i hi => ?_, fun i i' hi hi' hne b hb => ?_⟩
  · refine (hoff.cell _ _ h.tnb.lt ?_).trans h.boxes
    cases j with
    | zero => exact hnoL 2 (by simp [po])
    | succ j => exact hno nb _ h.tnb (by decide) h.ne 2
  · by_cases e : i = j
    · subst e
      simp only [if_pos, Nt.set_same]
      exact ⟨hrow, trivial⟩
    · have hi : i ≤ D.n := hi
      simp only [if_neg e, Nt.set_ne _ _ e]
      refine ⟨((h.rows i hi).1.off hoff hbytes ?_ ?_ ?_).mono (fun b hb hs => ?_), (h.rows i hi).2⟩
      · rintro b hb o (⟨rfl, _⟩ | ⟨hm, _⟩)
        · exact (ht.ne (h.link hi _ hb).1 hn) rfl
        · exact h.apart i j hi hj e b hb hm
      · rintro (⟨e1, e2⟩ | ⟨hm, _⟩)
        · cases i with
          | zero => cases j with
            | zero => exact e rfl
            | succ j => exact h.ne e1
          | succ i => cases j with
            | zero => exact h.ne e1.symm
            | succ j => simp only [po] at e2; omega
        · obtain ⟨u, hT, _, hu2⟩ := h.tpb i
          exact (hT.ne (h.link hj _ hm).1 hu2) rfl
      · rintro (⟨e1, e2⟩ | ⟨hm, _⟩)
        · cases i with
          | zero => cases j with
            | zero => exact e rfl
            | succ j => exact h.ne e1
          | succ i => cases j with
            | zero => exact h.ne e1.symm
            | succ j => simp only [po] at e2; omega
        · obtain ⟨u, hT, _, hu2⟩ := h.tpb i
          exact (hT.ne (h.link hj _ hm).1 hu2) rfl
      · rcases Nat.lt_or_ge b w.heap.size with hbl | hbl
        · exact hS' b hbl hs
        · have := h.lt b hs; omega
  · have hi : i ≤ D.n := hi
    have hi' : i' ≤ D.n := hi'
    by_cases e : i = j
    · subst e
      rw [if_pos rfl] at hb
      rw [if_neg (Ne.symm hne)]
      rcases hl b hb with hm | hge
      · exact h.apart i i' hi hi' hne b hm
      · intro hm
        have := h.lt b (h.link hi' b hm).2
        omega
    · rw [if_neg e] at hb
      by_cases e' : i' = j
      · subst e'
        rw [if_pos rfl]
        intro hm
        rcases hl b hm with hm | hge
        · exact h.apart i i' hi hi' hne b hb hm
        · have := h.lt b (h.link hi b hb).2
          omega
      · rw [if_neg e']
        exact h.apart i i' hi hi' hne b hb
/-- A net stays while other blocks turn. -/
theorem NetIn.other (h : NetIn w S nb bb D L) {T : Nat → Prop} (ho : Off T w w') (hST : ∀ b, S b → ¬ T b) : NetIn w' S nb bb D L := by
  have hg : ∀ b, S b → w'.heap[b]? = w.heap[b]? := fun b hb => ho.block b (h.lt b hb) (hST b hb)
  have hT : ∀ b t, S b → Typed w b t → Typed w' b t := fun b t hb ⟨C, fr, hC⟩ => ⟨C, fr, (hg b hb).trans hC⟩
  have hc : ∀ b o, S b → w'.cell? ⟨b, o, none⟩ = w.cell? ⟨b, o, none⟩ := fun b o hb => World.cell?_of_block (a := ⟨b, o, none⟩) (hg b hb)
  have hf : ∀ b o, S b → w'.frozen? ⟨b, o, none⟩ = w.frozen? ⟨b, o, none⟩ := fun b o hb => World.frozen?_of_block (a := ⟨b, o, none⟩) (hg b hb)
  have hch : ∀ l : List (Nat × Pk), Chain w S l → Chain w' S l := by
    intro l
    induction l with
    | nil => exact fun _ => trivial
    | cons p l ih =>
      rintro ⟨⟨hS, hT1, c0, c1, ⟨A, cap, c2, hb⟩, c3, hf1⟩, hc1⟩
      refine ⟨⟨hS, hT _ _ hS hT1, (hc _ _ hS).trans c0, (hc _ _ hS).trans c1, ⟨A, cap, (hc _ _ hS).trans c2, ?_⟩, (hc _ _ hS).trans c3, fun o => (hf _ o hS).trans (hf1 o)⟩, ih hc1⟩
      rcases hb with e | ⟨g, off, e, hg1, hT2, hr⟩
      · exact .inl e
      · exact .inr ⟨g, off, e, hg1, hT _ _ hg1 hT2, fun j u hj => (hc g (off + j) hg1).trans (hr j u hj)⟩
  exact ⟨h.ok, fun b hb => Nat.lt_of_lt_of_le (h.lt b hb) ho.size, h.snb, h.sbb, hT _ _ h.snb h.tnb, hT _ _ h.sbb h.tbb, (hc _ _ h.snb).trans h.boxes,
    fun j hj => ⟨⟨(hc _ _ (h.spb j)).trans (h.rows j hj).1.first, (hc _ _ (h.spb j)).trans (h.rows j hj).1.n, ⟨(hf _ _ (h.spb j)).trans (h.rows j hj).1.fz.1, (hf _ _ (h.spb j)).trans (h.rows j hj).1.fz.2⟩, hch _ (h.rows j hj).1.chain, (h.rows j hj).1.nodup, (h.rows j hj).1.few⟩, (h.rows j hj).2⟩, h.apart⟩
theorem NetAt.other {T : Nat → Prop} (h : NetAt w S nb D) (ho : Off T w w') (hST : ∀ b, S b → ¬ T b) : NetAt w' S nb D := let ⟨bb, L, h⟩ := h; ⟨bb, L, h.other ho hST⟩
theorem NetAt.grown (h : NetAt w S nb D) (hg : w.grownBy w' none) : NetAt w' S nb D := h.other (T := fun _ => False) (Off.of_grown hg (by simp)) (fun _ _ x => x)
theorem NetAt.ok (h : NetAt w S nb D) : D.OK := let ⟨_, _, h⟩ := h; h.ok
theorem NetAt.lt (h : NetAt w S nb D) : ∀ b, S b → b < w.heap.size := let ⟨_, _, h⟩ := h; h.lt
theorem NetAt.snb (h : NetAt w S nb D) : S nb := let ⟨_, _, h⟩ := h; h.snb
end
end Go.Proofs.Ytonfpifikblnjaa.Net
