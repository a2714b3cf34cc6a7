/- What a store does to a row of letters: one more at its end; one less. No function in sight. -/
import Derived.Test.YtonfpifikblnjaaNetCopy
namespace Go.Proofs.Ytonfpifikblnjaa.Net
open Go.RowKit

section
variable {w : World} {S : Nat → Prop} {g b x : Nat} {k : Pk} {nx : Option Addr} {v : Value} {t : TypeId}
theorem Bytes.set {A : Option Addr} {l : List UInt8} (h : Bytes w S A l) (ht : Typed w b t) (hu : t ≠ 5) : Bytes (w.setCell ⟨b, x, none⟩ v) S A l := by
  rcases h with e | ⟨g, off, e, hg, hT, hr⟩
  · exact .inl e
  · have hne : g ≠ b := (ht.ne hT hu).symm
    have hb : (w.setCell ⟨b, x, none⟩ v).heap[g]? = w.heap[g]? := heap_setCell_other w ⟨b, x, none⟩ g v hne
    obtain ⟨C, fr, hC⟩ := hT
    exact .inr ⟨g, off, e, hg, ⟨C, fr, hb.trans hC⟩, fun j u hj => (World.cell?_of_block (a := ⟨g, off + j, none⟩) hb).trans (hr j u hj)⟩
theorem Typed.set {y : Nat} {u : TypeId} (h : Typed w y u) : Typed (w.setCell ⟨b, x, none⟩ v) y u := (CellOff.set w b x v).typ y u h
theorem LinkAt.set_ne (h : LinkAt w S g k nx) (hne : b ≠ g) (ht : Typed w b t) (hu : t ≠ 5) : LinkAt (w.setCell ⟨b, x, none⟩ v) S g k nx := by
  obtain ⟨hS, hT, c0, c1, ⟨A, cap, c2, hb⟩, c3, hf⟩ := h
  have hblk : (w.setCell ⟨b, x, none⟩ v).heap[g]? = w.heap[g]? := heap_setCell_other w ⟨b, x, none⟩ g v (fun e => hne e.symm)
  have hc : ∀ o, (w.setCell ⟨b, x, none⟩ v).cell? ⟨g, o, none⟩ = w.cell? ⟨g, o, none⟩ := fun o => World.cell?_of_block (a := ⟨g, o, none⟩) hblk
  exact ⟨hS, hT.set, (hc 0).trans c0, (hc 1).trans c1, ⟨A, cap, (hc 2).trans c2, hb.set ht hu⟩, (hc 3).trans c3, fun o => by rw [World.frozen?_setCell]; exact hf o⟩
theorem LinkAt.set3 (h : LinkAt w S g k nx) (nx' : Option Addr) : LinkAt (w.setCell ⟨g, 3, none⟩ (.pointer nx')) S g k nx' := by
  obtain ⟨hS, hT, c0, c1, ⟨A, cap, c2, hb⟩, c3, hf⟩ := h
  have ho : ∀ o u, o ≠ 3 → w.cell? ⟨g, o, none⟩ = some u → (w.setCell ⟨g, 3, none⟩ (.pointer nx')).cell? ⟨g, o, none⟩ = some u := fun o u hne hc => by
    rw [World.cell?_setCell_other _ _ _ _ (by first | (simp; done) | (simp; omega))]
    exact hc
  exact ⟨hS, hT.set, ho 0 _ (by decide) c0, ho 1 _ (by decide) c1, ⟨A, cap, ho 2 _ (by decide) c2, hb.set hT (by decide)⟩, World.cell?_setCell_same _ _ _ c3, fun o => by rw [World.frozen?_setCell]; exact hf o⟩
theorem Chain.set_ne : ∀ {l : List (Nat × Pk)}, Chain w S l → b ∉ l.map (·.1) → Typed w b t → t ≠ 5 → Chain (w.setCell ⟨b, x, none⟩ v) S l
  | [], _, _, _, _ => trivial
  | p :: l, h, hn, ht, hu => ⟨h.1.set_ne (fun e => hn (by simp [e])) ht hu, Chain.set_ne h.2 (fun e => hn (by simp [e])) ht hu⟩
theorem Chain.link : ∀ {l : List (Nat × Pk)}, Chain w S l → ∀ p ∈ l, Typed w p.1 72 ∧ S p.1
  | [], _, _, h => by cases h
  | q :: l, h, p, hp => by
    rcases List.mem_cons.1 hp with rfl | hp
    · exact ⟨h.1.2.1, h.1.1⟩
    · exact Chain.link h.2 p hp
end

/-- A row hangs at place o of block r. -/
def Hangs (w : World) (S : Nat → Prop) (r o : Nat) (l : List (Nat × Pk)) : Prop := w.cell? ⟨r, o, none⟩ = some (.pointer (nxt l)) ∧ Chain w S l
/-- Where the slot of a row is: its own place, or a link's. -/
theorem slot_at : ∀ (l : List (Nat × Pk)) (r o i : Nat), i ≤ l.length → slot r o l i = ⟨r, o, none⟩ ∧ i = 0 ∨ ∃ p ∈ l, slot r o l i = ⟨p.1, 3, none⟩
  | [], r, o, i, h => by
    have : i = 0 := by simpa using h
    subst this
    exact .inl ⟨rfl, rfl⟩
  | p :: l, r, o, 0, _ => .inl ⟨rfl, rfl⟩
  | p :: l, r, o, i + 1, h => by
    right
    rcases slot_at l p.1 3 i (by simpa using h) with ⟨e, _⟩ | ⟨q, hq, e⟩
    · exact ⟨p, by simp, e⟩
    · exact ⟨q, by simp [hq], e⟩

/-- One letter more. -/
theorem Hangs.snoc {S : Nat → Prop} {g : Nat} {k : Pk} {t : TypeId} : ∀ (l : List (Nat × Pk)) (w : World) (r o : Nat), Hangs w S r o l → Typed w r t → t ≠ 5 → r ∉ l.map (·.1) → (l.map (·.1)).Nodup → g ∉ l.map (·.1) → g ≠ r → LinkAt w S g k none →
    Hangs (w.setCell (slot r o l l.length) (.pointer (some ⟨g, 0, none⟩))) S r o (l ++ [(g, k)])
  | [], w, r, o, h, ht, hu, _, _, _, hgr, hl => ⟨World.cell?_setCell_same _ _ _ h.1, hl.set_ne (fun e => hgr e.symm) ht hu, trivial⟩
  | p :: l, w, r, o, h, ht, hu, hr, hnd, hg, hgr, hl => by
    obtain ⟨h1, hp, hc⟩ := h
    simp only [List.map_cons, List.mem_cons, not_or, List.nodup_cons] at hr hnd hg
    have ih := Hangs.snoc l w p.1 3 ⟨hp.2.2.2.2.2.1, hc⟩ hp.2.1 (by decide) hnd.1 hnd.2 hg.2 hg.1 hl
    rw [List.length_cons, show slot r o (p :: l) (l.length + 1) = slot p.1 3 l l.length from rfl]
    obtain ⟨b, hb, hbl⟩ : ∃ b, slot p.1 3 l l.length = ⟨b, 3, none⟩ ∧ (b = p.1 ∨ b ∈ l.map (·.1)) := by
      rcases slot_at l p.1 3 l.length (Nat.le_refl _) with ⟨e, _⟩ | ⟨q, hq, e⟩
      · exact ⟨p.1, e, .inl rfl⟩
      · exact ⟨q.1, e, .inr (List.mem_map.2 ⟨q, hq, rfl⟩)⟩
    rw [hb] at ih ⊢
    have hbr : b ≠ r := by
      rintro rfl
      rcases hbl with e | e
      · exact hr.1 e
      · exact hr.2 e
    have hTb : Typed w b 72 := by
      rcases hbl with rfl | e
      · exact hp.2.1
      · obtain ⟨q, hq, rfl⟩ := List.mem_map.1 e
        exact (hc.link q hq).1
    refine ⟨?_, ?_, ih.2⟩
    · rw [World.cell?_setCell_other _ _ _ _ (by first | (simp; done) | (simp; omega))]
      exact h1
    · -- the link itself: all but its last cell as before, that one by the rest
      obtain ⟨hS, hT, c0, c1, ⟨A, cap, c2, hby⟩, c3, hf⟩ := hp
      have ho : ∀ o u, o ≠ 3 → w.cell? ⟨p.1, o, none⟩ = some u → (w.setCell ⟨b, 3, none⟩ (.pointer (some ⟨g, 0, none⟩))).cell? ⟨p.1, o, none⟩ = some u := fun o u hne hc => by
        rw [World.cell?_setCell_other _ _ _ _ (by first | (simp; done) | (simp; omega))]
        exact hc
      exact ⟨hS, hT.set, ho 0 _ (by decide) c0, ho 1 _ (by decide) c1, ⟨A, cap, ho 2 _ (by decide) c2, hby.set hTb (by decide)⟩, ih.1, fun o => by rw [World.frozen?_setCell]; exact hf o⟩

/-- One letter less. -/
theorem Hangs.erase {S : Nat → Prop} {t : TypeId} : ∀ (l : List (Nat × Pk)) (w : World) (r o i : Nat), Hangs w S r o l → Typed w r t → t ≠ 5 → r ∉ l.map (·.1) → (l.map (·.1)).Nodup → i < l.length →
    Hangs (w.setCell (slot r o l i) (.pointer (nxt (l.drop (i + 1))))) S r o (l.eraseIdx i)
  | [], _, _, _, _, _, _, _, _, _, h => by simp at h
  | p :: l, w, r, o, 0, h, ht, hu, hr, hnd, _ => by
    simp only [List.map_cons, List.mem_cons, not_or] at hr
    exact ⟨World.cell?_setCell_same _ _ _ h.1, h.2.2.set_ne hr.2 ht hu⟩
  | p :: l, w, r, o, i + 1, h, ht, hu, hr, hnd, hi => by
    obtain ⟨h1, hp, hc⟩ := h
    simp only [List.map_cons, List.mem_cons, not_or, List.nodup_cons] at hr hnd
    have hi' : i < l.length := by simpa using hi
    have ih := Hangs.erase l w p.1 3 i ⟨hp.2.2.2.2.2.1, hc⟩ hp.2.1 (by decide) hnd.1 hnd.2 hi'
    rw [show slot r o (p :: l) (i + 1) = slot p.1 3 l i from rfl, List.drop_succ_cons, List.eraseIdx_cons_succ]
    obtain ⟨b, hb, hbl⟩ : ∃ b, slot p.1 3 l i = ⟨b, 3, none⟩ ∧ (b = p.1 ∨ b ∈ l.map (·.1)) := by
      rcases slot_at l p.1 3 i (by omega) with ⟨e, _⟩ | ⟨q, hq, e⟩
      · exact ⟨p.1, e, .inl rfl⟩
      · exact ⟨q.1, e, .inr (List.mem_map.2 ⟨q, hq, rfl⟩)⟩
    rw [hb] at ih ⊢
    have hbr : b ≠ r := by
      rintro rfl
      rcases hbl with e | e
      · exact hr.1 e
      · exact hr.2 e
    have hTb : Typed w b 72 := by
      rcases hbl with rfl | e
      · exact hp.2.1
      · obtain ⟨q, hq, rfl⟩ := List.mem_map.1 e
        exact (hc.link q hq).1
    refine ⟨?_, ?_, ih.2⟩
    · rw [World.cell?_setCell_other _ _ _ _ (by first | (simp; done) | (simp; omega))]
      exact h1
    · obtain ⟨hS, hT, c0, c1, ⟨A, cap, c2, hby⟩, c3, hf⟩ := hp
      have ho : ∀ o u, o ≠ 3 → w.cell? ⟨p.1, o, none⟩ = some u → (w.setCell ⟨b, 3, none⟩ (.pointer (nxt (l.drop (i + 1))))).cell? ⟨p.1, o, none⟩ = some u := fun o u hne hc => by
        rw [World.cell?_setCell_other _ _ _ _ (by first | (simp; done) | (simp; omega))]
        exact hc
      exact ⟨hS, hT.set, ho 0 _ (by decide) c0, ho 1 _ (by decide) c1, ⟨A, cap, ho 2 _ (by decide) c2, hby.set hTb (by decide)⟩, ih.1, fun o => by rw [World.frozen?_setCell]; exact hf o⟩
end Go.Proofs.Ytonfpifikblnjaa.Net
