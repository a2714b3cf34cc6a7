/- A net in memory: words. No program's function in sight. -/
import Derived.WalkKit
import Derived.Below
import Derived.Lib.Hide
import Derived.Deep.MidRow
import Derived.Laws.AppendOwn
import Derived.Test.YtonfpifikblnjaaProg
namespace Go.Proofs.Ytonfpifikblnjaa.Net
open Go.RowKit

/-- A letter. -/
structure Pk where
  src : Int
  to : Int
  b : List UInt8
def u8s (l : List UInt8) : List Value := l.map fun c => .int .u8 (c.toNat : Int)
theorem u8s_length (l : List UInt8) : (u8s l).length = l.length := by simp [u8s]

/-- Block b is one of type t. -/
def Typed (w : World) (b : Nat) (t : TypeId) : Prop := ∃ C fr, w.heap[b]? = some (.cells C t fr)
theorem Typed.lt {w : World} {b : Nat} {t : TypeId} (h : Typed w b t) : b < w.heap.size := let ⟨_, _, h⟩ := h; (Array.getElem?_eq_some_iff.1 h).1
theorem Typed.ne {w : World} {a b : Nat} {t u : TypeId} (h : Typed w a t) (k : Typed w b u) (hne : t ≠ u) : a ≠ b := by
  rintro rfl
  obtain ⟨C, fr, h⟩ := h
  obtain ⟨D, fs, k⟩ := k
  rw [h] at k
  injection k with k
  injection k with _ k
  exact hne k

/-- From w to w' no cell has turned but those of which F is true. -/
structure CellOff (F : Nat → Nat → Prop) (w w' : World) : Prop where
  os : w'.os = w.os
  tape : w'.tape = w.tape
  output : w'.output = w.output
  size : w.heap.size ≤ w'.heap.size
  cell : ∀ b o, b < w.heap.size → ¬ F b o → w'.cell? ⟨b, o, none⟩ = w.cell? ⟨b, o, none⟩
  typ : ∀ b t, Typed w b t → Typed w' b t
  frz : ∀ b o, b < w.heap.size → w'.frozen? ⟨b, o, none⟩ = w.frozen? ⟨b, o, none⟩
  block : ∀ b, b < w.heap.size → (∀ o, ¬ F b o) → w'.heap[b]? = w.heap[b]?
theorem CellOff.refl (F : Nat → Nat → Prop) (w : World) : CellOff F w w := ⟨rfl, rfl, rfl, Nat.le_refl _, fun _ _ _ _ => rfl, fun _ _ h => h, fun _ _ _ => rfl, fun _ _ _ => rfl⟩
theorem CellOff.trans {F : Nat → Nat → Prop} {a b c : World} (h : CellOff F a b) (k : CellOff F b c) : CellOff F a c :=
  ⟨k.os.trans h.os, k.tape.trans h.tape, k.output.trans h.output, Nat.le_trans h.size k.size, fun x o hx hF => (k.cell x o (Nat.lt_of_lt_of_le hx h.size) hF).trans (h.cell x o hx hF), fun b t hb => k.typ b t (h.typ b t hb),
    fun x o hx => (k.frz x o (Nat.lt_of_lt_of_le hx h.size)).trans (h.frz x o hx), fun x hx hF => (k.block x (Nat.lt_of_lt_of_le hx h.size) hF).trans (h.block x hx hF)⟩
theorem CellOff.mono {F G : Nat → Nat → Prop} {a b : World} (h : CellOff F a b) (hFG : ∀ x o, x < a.heap.size → F x o → G x o) : CellOff G a b :=
  ⟨h.os, h.tape, h.output, h.size, fun x o hx hG => h.cell x o hx (fun hF => hG (hFG x o hx hF)), h.typ, h.frz, fun x hx hG => h.block x hx (fun o hF => hG o (hFG x o hx hF))⟩
theorem CellOff.grown {F : Nat → Nat → Prop} {a b : World} (h : a.grownBy b none) : CellOff F a b :=
  ⟨h.os, h.tape, h.output, h.size, fun x o hx _ => World.cell?_of_block (a := ⟨x, o, none⟩) (h.block x hx (by simp)), fun x t ⟨C, fr, hc⟩ => ⟨C, fr, (h.block x (Array.getElem?_eq_some_iff.1 hc).1 (by simp)).trans hc⟩,
    fun x o hx => World.frozen?_of_block (a := ⟨x, o, none⟩) (h.block x hx (by simp)), fun x hx _ => h.block x hx (by simp)⟩
theorem CellOff.set (w : World) (b o : Nat) (v : Value) : CellOff (fun x y => x = b ∧ y = o) w (w.setCell ⟨b, o, none⟩ v) := by
  refine ⟨rfl, rfl, rfl, by simp, fun x y hx hF => ?_, fun x t ⟨C, fr, hc⟩ => ?_, fun x y _ => by rw [World.frozen?_setCell], fun x hx hF => ?_⟩
  · refine World.cell?_setCell_other _ _ _ _ (fun e => ?_)
    injection e with e1 e2
    exact hF ⟨e1.symm ▸ rfl, e2.symm ▸ rfl⟩
  · by_cases e : x = b
    · subst e
      exact ⟨C.setIfInBounds o v, fr, by simp [World.setCell, Array.getElem?_modify, hc]⟩
    · exact ⟨C, fr, (heap_setCell_other w ⟨b, o, none⟩ x v (fun h => e h)).trans hc⟩
  · refine heap_setCell_other w ⟨b, o, none⟩ x v (fun e => ?_)
    exact hF o ⟨e, rfl⟩
end Go.Proofs.Ytonfpifikblnjaa.Net
