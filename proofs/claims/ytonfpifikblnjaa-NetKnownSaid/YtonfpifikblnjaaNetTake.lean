/- A letter goes out of a row: row.take; how a row stands while others turn. -/
import Derived.Test.YtonfpifikblnjaaNetPut
namespace Go.Proofs.Ytonfpifikblnjaa.Net
open Go.RowKit

theorem Bytes.off {w w' : World} {S : Nat → Prop} {F : Nat → Nat → Prop} {A : Option Addr} {l : List UInt8} (h : Bytes w S A l) (k : CellOff F w w') (hF : ∀ b, Typed w b 5 → ∀ o, ¬ F b o) : Bytes w' S A l := by
  rcases h with e | ⟨g, off, e, hS, hT, hr⟩
  · exact .inl e
  · exact .inr ⟨g, off, e, hS, k.typ _ _ hT, fun j u hj => (k.cell g (off + j) hT.lt (hF g hT _)).trans (hr j u hj)⟩
theorem Bytes.mono {w : World} {S T : Nat → Prop} {A : Option Addr} {l : List UInt8} (h : Bytes w S A l) (hs : ∀ b, b < w.heap.size → S b → T b) : Bytes w T A l := by
  rcases h with e | ⟨g, off, e, hS, hT, hr⟩
  · exact .inl e
  · exact .inr ⟨g, off, e, hs g hT.lt hS, hT, hr⟩
theorem Chain.off {w w' : World} {S : Nat → Prop} {F : Nat → Nat → Prop} (k : CellOff F w w') (hF : ∀ b, Typed w b 5 → ∀ o, ¬ F b o) : ∀ {l : List (Nat × Pk)}, Chain w S l → (∀ b ∈ l.map (·.1), ∀ o, ¬ F b o) → Chain w' S l
  | [], _, _ => trivial
  | p :: l, h, hl => by
    obtain ⟨⟨hS, hT, c0, c1, ⟨A, cap, c2, hb⟩, c3, hf⟩, hc⟩ := h
    have hp : ∀ o, ¬ F p.1 o := hl p.1 (by simp)
    have hlt := hT.lt
    exact ⟨⟨hS, k.typ _ _ hT, (k.cell _ _ hlt (hp _)).trans c0, (k.cell _ _ hlt (hp _)).trans c1, ⟨A, cap, (k.cell _ _ hlt (hp _)).trans c2, hb.off k hF⟩, (k.cell _ _ hlt (hp _)).trans c3, fun o => (k.frz _ o hlt).trans (hf o)⟩, hc.off k hF (fun b hb => hl b (by simp at hb ⊢; exact .inr hb))⟩
theorem Chain.mono {w : World} {S T : Nat → Prop} (hs : ∀ b, b < w.heap.size → S b → T b) : ∀ {l : List (Nat × Pk)}, Chain w S l → Chain w T l
  | [], _ => trivial
  | p :: l, h => by
    obtain ⟨⟨hS, hT, c0, c1, ⟨A, cap, c2, hb⟩, c3, hf⟩, hc⟩ := h
    exact ⟨⟨hs _ hT.lt hS, hT, c0, c1, ⟨A, cap, c2, hb.mono hs⟩, c3, hf⟩, hc.mono hs⟩
theorem RowAt.mono {w : World} {S T : Nat → Prop} {r o : Nat} {l : List (Nat × Pk)} (h : RowAt w S r o l) (hs : ∀ b, b < w.heap.size → S b → T b) : RowAt w T r o l := ⟨h.first, h.n, h.fz, h.chain.mono hs, h.nodup, h.few⟩
theorem RowAt.off {w w' : World} {S : Nat → Prop} {F : Nat → Nat → Prop} {r o : Nat} {l : List (Nat × Pk)} (h : RowAt w S r o l) (k : CellOff F w w') (hF : ∀ b, Typed w b 5 → ∀ o, ¬ F b o) (hl : ∀ b ∈ l.map (·.1), ∀ o, ¬ F b o) (h0 : ¬ F r o) (h1 : ¬ F r (o + 1)) : RowAt w' S r o l := by
  have hlt := World.block_lt_of_cell? w _ h.first
  exact ⟨(k.cell _ _ hlt h0).trans h.first, (k.cell _ _ hlt h1).trans h.n, ⟨(k.frz _ _ hlt).trans h.fz.1, (k.frz _ _ hlt).trans h.fz.2⟩, h.chain.off k hF hl, h.nodup, h.few⟩

/-- What a take leaves, in plain terms. -/
theorem take_done {w W : World} {S : Nat → Prop} {r o i : Nat} {l : List (Nat × Pk)} {t : TypeId} (h : RowAt w S r o l) (ht : Typed w r t) (hu : t ≠ 5) (hn : t ≠ 72) (hi : i < l.length) (hg : w.grownBy W none) :
    RowAt ((W.setCell (slot r o l i) (.pointer (nxt (l.drop (i + 1))))).setCell ⟨r, o + 1, none⟩ (.int .i64 ((l.length : Int) - 1))) S r o (l.eraseIdx i) ∧
    CellOff (Cells r o l) w ((W.setCell (slot r o l i) (.pointer (nxt (l.drop (i + 1))))).setCell ⟨r, o + 1, none⟩ (.int .i64 ((l.length : Int) - 1))) ∧
    (W.setCell (slot r o l i) (.pointer (nxt (l.drop (i + 1))))).cell? ⟨r, o + 1, none⟩ = some (.int .i64 (l.length : Int)) ∧ (W.setCell (slot r o l i) (.pointer (nxt (l.drop (i + 1))))).frozen? ⟨r, o + 1, none⟩ = false := by
  have hW := h.grown hg
  have htW := ht.grown hg
  have hnot := notin_of hW.chain htW hn
  have hh := Hangs.erase l W r o i ⟨hW.first, hW.chain⟩ htW hu hnot h.nodup hi
  have hnot2 : r ∉ (l.eraseIdx i).map (·.1) := by
    intro hm
    obtain ⟨p, hp, rfl⟩ := List.mem_map.1 hm
    exact hnot (List.mem_map.2 ⟨p, List.mem_of_mem_eraseIdx hp, rfl⟩)
  obtain ⟨sb, sx, hslot, hsl⟩ : ∃ sb sx, slot r o l i = ⟨sb, sx, none⟩ ∧ Cells r o l sb sx ∧ ¬ (sb = r ∧ sx = o + 1) := by
    rcases slot_at l r o i (by omega) with ⟨e, _⟩ | ⟨p, hp, e⟩
    · exact ⟨r, o, e, .inl ⟨rfl, .inl rfl⟩, by omega⟩
    · exact ⟨p.1, 3, e, .inr ⟨List.mem_map.2 ⟨p, hp, rfl⟩, rfl⟩, fun h => hnot (h.1 ▸ List.mem_map.2 ⟨p, hp, rfl⟩)⟩
  rw [hslot] at hh ⊢
  have k1 := CellOff.set W sb sx (.pointer (nxt (l.drop (i + 1))))
  have k2 := CellOff.set (W.setCell ⟨sb, sx, none⟩ (.pointer (nxt (l.drop (i + 1))))) r (o + 1) (.int .i64 ((l.length : Int) - 1))
  have hn1 : (W.setCell ⟨sb, sx, none⟩ (.pointer (nxt (l.drop (i + 1))))).cell? ⟨r, o + 1, none⟩ = some (.int .i64 (l.length : Int)) :=
    (k1.cell r (o + 1) (World.block_lt_of_cell? W _ hW.first) (fun hF => hsl.2 ⟨hF.1.symm, hF.2.symm⟩)).trans hW.n
  have hfz : ∀ x, (W.setCell ⟨sb, sx, none⟩ (.pointer (nxt (l.drop (i + 1))))).frozen? ⟨r, x, none⟩ = W.frozen? ⟨r, x, none⟩ := fun x => by rw [World.frozen?_setCell]
  have hlen := List.length_eraseIdx_of_lt hi
  refine ⟨⟨?_, ?_, ⟨?_, ?_⟩, hh.2.set_ne hnot2 (htW.set) hu, ?_, ?_⟩, ?_, hn1, (hfz _).trans hW.fz.2⟩
  · rw [World.cell?_setCell_other _ _ _ _ (by first | (simp; done) | (simp; omega))]
    exact hh.1
  · rw [World.cell?_setCell_same _ _ _ hn1, hlen, Int.ofNat_sub (by omega)]
    rfl
  · rw [World.frozen?_setCell]; exact (hfz _).trans hW.fz.1
  · rw [World.frozen?_setCell]; exact (hfz _).trans hW.fz.2
  · exact h.nodup.sublist ((List.eraseIdx_sublist l i).map _)
  · have := h.few; omega
  · exact ((CellOff.grown hg).trans (k1.mono (fun x y _ hF => by obtain ⟨rfl, rfl⟩ := hF; exact hsl.1))).trans (k2.mono (fun x y _ hF => .inl ⟨hF.1, .inr hF.2⟩))
theorem link_get {w : World} {S : Nat → Prop} : ∀ {l : List (Nat × Pk)} {i g : Nat} {k : Pk}, Chain w S l → l[i]? = some (g, k) → LinkAt w S g k (nxt (l.drop (i + 1)))
  | [], i, g, k, _, h => by simp at h
  | p :: l, 0, g, k, hc, h => by
    simp at h
    subst h
    exact hc.1
  | p :: l, i + 1, g, k, hc, h => link_get (l := l) (i := i) hc.2 (by simpa using h)
theorem drop_nxt {l : List (Nat × Pk)} {i g : Nat} {k : Pk} (h : l[i]? = some (g, k)) : nxt (l.drop i) = some ⟨g, 0, none⟩ := by
  have hlt : i < l.length := (List.getElem?_eq_some_iff.1 h).1
  rw [List.drop_eq_getElem_cons hlt, (List.getElem?_eq_some_iff.1 h).2]
  rfl
end Go.Proofs.Ytonfpifikblnjaa.Net
