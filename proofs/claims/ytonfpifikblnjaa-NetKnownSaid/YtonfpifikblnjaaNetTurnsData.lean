/- NetTurns: what turns do, as lists; two nets beside one another. No function in sight. -/
import Derived.Test.YtonfpifikblnjaaNetIs
namespace Go.Proofs.Ytonfpifikblnjaa.Net
open Go.RowKit

/-- All letters are from ends, to ends. -/
def Ends (D : Nt) : Prop := ∀ p, D.has p → D.is p.src = true ∧ D.is p.to = true
theorem does_n (D : Nt) (c : ActV) : (D.does c).2.n = D.n := by
  have hm : c.k.toNat % 8 = 0 ∨ c.k.toNat % 8 = 1 ∨ c.k.toNat % 8 = 2 ∨ c.k.toNat % 8 = 3 ∨ c.k.toNat % 8 = 4 ∨ c.k.toNat % 8 = 5 ∨ c.k.toNat % 8 = 6 ∨ c.k.toNat % 8 = 7 := by omega
  rcases hm with hm | hm | hm | hm | hm | hm | hm | hm
  · rw [does_0 D c (.inl hm)]; dsimp only; unfold Nt.send; (repeat' split) <;> rfl
  · rw [does_0 D c (.inr hm)]; dsimp only; unfold Nt.send; (repeat' split) <;> rfl
  · rw [does_2 D c hm]; dsimp only; unfold Nt.deliver Nt.boxed; (repeat' split) <;> rfl
  · rw [does_3 D c hm]; dsimp only; unfold Nt.drop; (repeat' split) <;> rfl
  · rw [does_4 D c hm]; dsimp only; unfold Nt.double; (repeat' split) <;> rfl
  · rw [does_5 D c hm]; dsimp only; unfold Nt.delay; (repeat' split) <;> rfl
  · rw [does_6 D c hm]; dsimp only; unfold Nt.receive; (repeat' split) <;> rfl
  · rw [does_7 D c hm]; dsimp only; unfold Nt.clear; (repeat' split) <;> rfl
theorem is_congr {D E : Nt} (h : D.n = E.n) (i : Int) : D.is i = E.is i := by unfold Nt.is; rw [h]
theorem Ends.does {D : Nt} (h : Ends D) (c : ActV) : Ends (D.does c).2 := by
  intro p hp
  rw [is_congr (does_n D c), is_congr (does_n D c)]
  rcases does_has D c p hp with hp | ⟨hk, hcode, rfl⟩
  · exact h p hp
  · have hc : c.k.toNat % 8 = 0 ∨ c.k.toNat % 8 = 1 := by omega
    rw [does_0 D c hc] at hcode
    dsimp only at hcode ⊢
    unfold Nt.send at hcode
    split at hcode
    · rename_i h1; exact h1
    · exact absurd hcode (show ¬ (2 : Int) = 0 by decide)
theorem delay_drop (D : Nt) (i : Int) : (D.delay i).1 = D.there i ∧ (D.drop i).1 = D.there i := ⟨rfl, rfl⟩
/-- A Delay is a Drop, and a Send of the same. -/
theorem delay_send (D : Nt) (hok : D.OK) (he : Ends D) (z : Nat) (hz : z < (D.row 0).length) : (D.less 0 z).send (D.nth 0 z) = (0, (D.less 0 z).more 0 (D.nth 0 z)) := by
  have hh := he (D.nth 0 z) ⟨0, Nt.nth_mem hz⟩
  unfold Nt.send
  rw [if_pos ⟨(is_congr (D := D.less 0 z) (E := D) rfl _).trans hh.1, (is_congr (D := D.less 0 z) (E := D) rfl _).trans hh.2⟩, if_neg]
  have hlen : ((D.less 0 z).row 0).length = (D.row 0).length - 1 := List.length_eraseIdx_of_lt hz
  have := hok.way
  omega
theorem there_nat (D : Nt) (z : Nat) (hz : z < (D.row 0).length) : D.there (z : Int) = 0 := by
  unfold Nt.there
  rw [if_neg (by omega)]
theorem turned_len (D : Nt) (z : Nat) (hz : z < (D.row 0).length) (k : Pk) : (((D.less 0 z).more 0 k).row 0).length = (D.row 0).length := by
  have hlen : ((D.less 0 z).row 0).length = (D.row 0).length - 1 := List.length_eraseIdx_of_lt hz
  rw [Nt.more_row, if_pos rfl, List.length_append, hlen]
  simp; omega
/-- The road, turned j times. -/
def Nt.rot (D : Nt) (j : Nat) : Nt := D.set 0 ((D.row 0).drop j ++ (D.row 0).take j)
theorem rot_zero (D : Nt) : D.rot 0 = D := by
  cases D
  unfold Nt.rot Nt.set
  congr 1
  funext x
  by_cases e : x = 0
  · subst e; simp
  · rw [if_neg e]
theorem rot_delay (D : Nt) (j : Nat) (hj : j < (D.row 0).length) : (D.rot j).delay 0 = (0, D.rot (j + 1)) := by
  have hr : (D.rot j).row 0 = (D.row 0)[j] :: ((D.row 0).drop (j + 1) ++ (D.row 0).take j) := by
    unfold Nt.rot
    rw [Nt.set_same, List.drop_eq_getElem_cons hj]
    rfl
  have ht : (D.rot j).there 0 = 0 := by
    unfold Nt.there
    rw [hr, if_neg]
    simp only [List.length_cons]
    omega
  have hn : (D.rot j).nth 0 (0 : Int).toNat = (D.row 0)[j] := by unfold Nt.nth; rw [hr]; rfl
  unfold Nt.delay
  rw [ht, if_pos rfl, hn]
  congr 1
  unfold Nt.more Nt.less
  show Nt.set (Nt.set (D.rot j) 0 _) 0 _ = _
  unfold Nt.rot Nt.set
  congr 1
  funext x
  by_cases e : x = 0
  · subst e
    dsimp only
    rw [if_pos rfl, if_pos rfl, if_pos rfl]
    have hr2 := hr
    unfold Nt.rot Nt.set at hr2
    dsimp only at hr2
    rw [if_pos rfl] at hr2
    rw [if_pos rfl, hr2]
    show ((D.row 0).drop (j + 1) ++ (D.row 0).take j) ++ [(D.row 0)[j]] = _
    rw [List.append_assoc, List.take_add_one, List.getElem?_eq_getElem hj]
    rfl
  · dsimp only
    rw [if_neg e, if_neg e, if_neg e, if_neg e]
theorem rot_full (D : Nt) : (D.rot (D.row 0).length).row 0 = D.row 0 := by
  unfold Nt.rot
  rw [Nt.set_same]
  simp

/-- Two nets beside one another. -/
structure Pair (w wr : World) (na nb : Nat) (Sa Sb : Nat → Prop) (Da Db : Nt) : Prop where
  a : NetAt wr Sa na Da
  b : NetAt wr Sb nb Db
  apart : ∀ x, Sa x → ¬ Sb x
  fromA : ∀ x, Sa x → w.heap.size ≤ x
  fromB : ∀ x, Sb x → w.heap.size ≤ x
  off : Off (fun x => w.heap.size ≤ x) w wr
section
variable {w wr v : World} {na nb : Nat} {Sa Sb S1 : Nat → Prop} {Da Db D1 : Nt}
theorem Pair.turnA (h : Pair w wr na nb Sa Sb Da Db) (hn : NetAt v S1 na D1) (ht : Turn Sa S1 wr v) : Pair w v na nb S1 Sb D1 Db := by
  have hs := h.off.size
  refine ⟨hn, h.b.other ht.off.toOff (fun x hx hy => h.apart x hy hx), fun x hx hy => ?_, fun x hx => ?_, h.fromB, h.off.trans (ht.off.toOff.mono (fun x _ hx => h.fromA x hx))⟩
  · rcases ht.sub x hx with e | e
    · exact h.apart x e hy
    · have := h.b.lt x hy; omega
  · rcases ht.sub x hx with e | e
    · exact h.fromA x e
    · omega
theorem Pair.turnB (h : Pair w wr na nb Sa Sb Da Db) (hn : NetAt v S1 nb D1) (ht : Turn Sb S1 wr v) : Pair w v na nb Sa S1 Da D1 := by
  have hs := h.off.size
  refine ⟨h.a.other ht.off.toOff (fun x hx hy => h.apart x hx hy), hn, fun x hx hy => ?_, h.fromA, fun x hx => ?_, h.off.trans (ht.off.toOff.mono (fun x _ hx => h.fromB x hx))⟩
  · rcases ht.sub x hy with e | e
    · exact h.apart x hx e
    · have := h.a.lt x hx; omega
  · rcases ht.sub x hx with e | e
    · exact h.fromB x e
    · omega
theorem Pair.grown (h : Pair w wr na nb Sa Sb Da Db) (hg : wr.grownBy v none) : Pair w v na nb Sa Sb Da Db := h.turnA (h.a.grown hg) (Turn.begin_ h.a.lt hg)
end
/-- Blocks from B on that were there in world y are as they were. -/
def Fix (B : Nat) (y wr : World) : Prop := y.heap.size ≤ wr.heap.size ∧ ∀ b, B ≤ b → b < y.heap.size → wr.heap[b]? = y.heap[b]?
theorem Fix.refl (B : Nat) (y : World) : Fix B y y := ⟨Nat.le_refl _, fun _ _ _ => rfl⟩
theorem Fix.off {B : Nat} {y w v : World} {S : Nat → Prop} (h : Fix B y w) (ho : Off S w v) (hS : ∀ b, B ≤ b → b < y.heap.size → ¬ S b) : Fix B y v := ⟨Nat.le_trans h.1 ho.size, fun b hb hlt => (ho.block b (Nat.lt_of_lt_of_le hlt h.1) (hS b hb hlt)).trans (h.2 b hb hlt)⟩
theorem Fix.grown {B : Nat} {y w v : World} (h : Fix B y w) (hg : w.grownBy v none) : Fix B y v := h.off (S := fun _ => False) (Off.of_grown hg (by simp)) (fun _ _ _ x => x)
theorem Letters.base {w : World} {B B' : Nat} {v : Value} {cs : List (Pk × Option Addr × Nat)} (h : Letters w B v cs) (hB : B' ≤ B) : Letters w B' v cs := by
  refine ⟨⟨h.row.1, ?_⟩, fun c hc => ⟨(h.bytes c hc).1.mono (fun b _ hs => Nat.le_trans hB hs), ?_⟩, h.apart⟩
  · rcases h.row.2 with h2 | ⟨g, cap, cur, e, h3, h4⟩
    · exact .inl h2
    · exact .inr ⟨g, cap, cur, e, Nat.le_trans hB h3, h4⟩
  · rcases (h.bytes c hc).2 with e | ⟨g, e, h3, h4⟩
    · exact .inl e
    · exact .inr ⟨g, e, Nat.le_trans hB h3, h4⟩
theorem Letters.fix {y w' : World} {B : Nat} {v : Value} {cs : List (Pk × Option Addr × Nat)} (h : Letters y B v cs) (hf : Fix B y w') : Letters w' B v cs := by
  have hk := hf.2
  refine ⟨⟨h.row.1, ?_⟩, fun c hc => ⟨?_, ?_⟩, h.apart⟩
  · rcases h.row.2 with h2 | ⟨g, cap, cur, rfl, h3, hb, h4⟩
    · exact .inl h2
    · exact .inr ⟨g, cap, cur, rfl, h3, (hk g h3 (Array.getElem?_eq_some_iff.1 hb).1).trans hb, h4⟩
  · rcases (h.bytes c hc).1 with e | ⟨g, off, e, hB, hT, hr⟩
    · exact .inl e
    · have hg := hk g hB hT.lt
      exact .inr ⟨g, off, e, hB, let ⟨C, fr, hC⟩ := hT; ⟨C, fr, hg.trans hC⟩, fun j u hj => (World.cell?_of_block (a := ⟨g, off + j, none⟩) hg).trans (hr j u hj)⟩
  · rcases (h.bytes c hc).2 with e | ⟨g, e, hB, hT, hf⟩
    · exact .inl e
    · have hg := hk g hB hT.lt
      exact .inr ⟨g, e, hB, let ⟨C, fr, hC⟩ := hT; ⟨C, fr, hg.trans hC⟩, fun o => (World.frozen?_of_block (a := ⟨g, o, none⟩) hg).trans (hf o)⟩
/-- What the k-th letter of a row looks like in memory. -/
theorem Letters.get {w : World} {B : Nat} {A : Option Addr} {n cap k : Nat} {cs : List (Pk × Option Addr × Nat)} {p : Pk} (h : Letters w B (.slice A n cap) cs) (hp : (cs.map (·.1))[k]? = some p) : ∃ g Ap capp, A = some ⟨g, 0, none⟩ ∧ B ≤ g ∧ w.cell? ⟨g, k * 3, none⟩ = some (.int .i64 p.src) ∧ w.cell? ⟨g, k * 3 + 1, none⟩ = some (.int .i64 p.to) ∧ w.cell? ⟨g, k * 3 + 2, none⟩ = some (.slice Ap p.b.length capp) ∧ Bytes w (fun _ => True) Ap p.b := by
  obtain ⟨A', cap', e, _, _, hc⟩ := h.open_
  rw [List.getElem?_map] at hp
  rcases e2 : cs[k]? with _ | c
  · rw [e2] at hp; simp at hp
  · rw [e2] at hp
    simp at hp
    subst hp
    obtain ⟨g, rfl, hB, _, h0, h1, h2⟩ := hc k c e2
    cases e
    exact ⟨g, c.2.1, c.2.2, rfl, hB, h0, h1, h2, (h.bytes c (List.mem_of_getElem? e2)).1.mono (fun _ _ _ => trivial)⟩
theorem Letters.shape {w : World} {B : Nat} {v : Value} {cs : List (Pk × Option Addr × Nat)} {ps : List Pk} (h : Letters w B v cs) (hp : cs.map (·.1) = ps) : ∃ A cap, v = .slice A ps.length cap := by
  obtain ⟨A, cap, e, _⟩ := h.open_
  exact ⟨A, cap, by rw [e, ← hp, List.length_map]⟩
end Go.Proofs.Ytonfpifikblnjaa.Net
