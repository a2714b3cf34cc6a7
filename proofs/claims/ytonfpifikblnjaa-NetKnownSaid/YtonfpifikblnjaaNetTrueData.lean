/- NetTrue: what a net holds was sent; rows of things to be done. -/
import Derived.Deep.CutRange
import Derived.Test.YtonfpifikblnjaaNetAmong
namespace Go.Proofs.Ytonfpifikblnjaa.Net
open Go.RowKit

/-- A letter that a net holds. -/
def Nt.has (D : Nt) (p : Pk) : Prop := ∃ j, p ∈ D.row j
theorem has_set {D : Nt} {j : Nat} {l : List Pk} {p : Pk} (h : (D.set j l).has p) : p ∈ l ∨ D.has p := by
  obtain ⟨x, hx⟩ := h
  by_cases e : x = j
  · subst e; rw [Nt.set_same] at hx; exact .inl hx
  · rw [Nt.set_ne _ _ e] at hx; exact .inr ⟨x, hx⟩
theorem has_less {D : Nt} {j i : Nat} {p : Pk} (h : (D.less j i).has p) : D.has p := by
  rcases has_set h with h | h
  · exact ⟨j, List.mem_of_mem_eraseIdx h⟩
  · exact h
theorem has_more {D : Nt} {j : Nat} {k p : Pk} (h : (D.more j k).has p) : D.has p ∨ p = k := by
  rcases has_set h with h | h
  · rcases List.mem_append.1 h with h | h
    · exact .inl ⟨j, h⟩
    · exact .inr (by simpa using h)
  · exact .inl h
theorem has_nth {D : Nt} {i : Int} (h : D.there i = 0) : D.has (D.nth 0 i.toNat) := by
  obtain ⟨z, rfl, hz⟩ := Nt.there_in h
  exact ⟨0, by rw [Int.toNat_natCast]; exact Nt.nth_mem hz⟩
theorem has_boxed {D : Nt} {k p : Pk} (h : (D.boxed k).has p) : D.has p ∨ p = k := by
  unfold Nt.boxed at h
  split at h
  · exact has_more h
  · exact .inl h
/-- What a net holds behind something was there, or has been sent. -/
theorem does_has (D : Nt) (c : ActV) (p : Pk) (h : (D.does c).2.has p) : D.has p ∨ (c.k.toNat % 8 < 2 ∧ (D.does c).1.1 = 0 ∧ p = ⟨c.i, c.to, c.b⟩) := by
  have hm : c.k.toNat % 8 = 0 ∨ c.k.toNat % 8 = 1 ∨ c.k.toNat % 8 = 2 ∨ c.k.toNat % 8 = 3 ∨ c.k.toNat % 8 = 4 ∨ c.k.toNat % 8 = 5 ∨ c.k.toNat % 8 = 6 ∨ c.k.toNat % 8 = 7 := by omega
  have hsend : c.k.toNat % 8 = 0 ∨ c.k.toNat % 8 = 1 → D.has p ∨ (c.k.toNat % 8 < 2 ∧ (D.does c).1.1 = 0 ∧ p = ⟨c.i, c.to, c.b⟩) := by
    intro hc
    rw [does_0 D c hc] at h ⊢
    dsimp only at h ⊢
    unfold Nt.send at h ⊢
    split at h
    · rename_i h1
      rw [if_pos h1]
      split at h
      · exact .inl h
      · rename_i h2
        rw [if_neg h2]
        rcases has_more h with h | h
        · exact .inl h
        · exact .inr ⟨by omega, rfl, h⟩
    · exact .inl h
  rcases hm with hm | hm | hm | hm | hm | hm | hm | hm
  · exact hsend (.inl hm)
  · exact hsend (.inr hm)
  · rw [does_2 D c hm] at h
    left
    dsimp only [Nt.deliver] at h
    split at h
    · rename_i h0
      rcases has_boxed h with h | h
      · exact has_less h
      · rw [h]; exact has_nth h0
    · exact h
  · rw [does_3 D c hm] at h
    left
    dsimp only [Nt.drop] at h
    split at h
    · exact has_less h
    · exact h
  · rw [does_4 D c hm] at h
    left
    dsimp only at h
    unfold Nt.double at h
    split at h
    · rename_i h0
      split at h
      · exact h
      · rcases has_more h with h | h
        · exact h
        · rw [h]; exact has_nth h0
    · exact h
  · rw [does_5 D c hm] at h
    left
    dsimp only [Nt.delay] at h
    split at h
    · rename_i h0
      rcases has_more h with h | h
      · exact has_less h
      · rw [h]; exact has_nth h0
    · exact h
  · rw [does_6 D c hm] at h
    left
    dsimp only at h
    unfold Nt.receive at h
    split at h
    · exact h
    · exact has_less h
  · rw [does_7 D c hm] at h
    left
    dsimp only at h
    unfold Nt.clear at h
    split at h
    · rcases has_set h with h | h
      · simp at h
      · exact h
    · exact h
theorem does_got (D : Nt) (c : ActV) (p : Pk) (h : (D.does c).1.2 = some p) : D.has p := by
  have hm : c.k.toNat % 8 = 0 ∨ c.k.toNat % 8 = 1 ∨ c.k.toNat % 8 = 2 ∨ c.k.toNat % 8 = 3 ∨ c.k.toNat % 8 = 4 ∨ c.k.toNat % 8 = 5 ∨ c.k.toNat % 8 = 6 ∨ c.k.toNat % 8 = 7 := by omega
  rcases hm with hm | hm | hm | hm | hm | hm | hm | hm
  · rw [does_0 D c (.inl hm)] at h; cases h
  · rw [does_0 D c (.inr hm)] at h; cases h
  · rw [does_2 D c hm] at h; cases h
  · rw [does_3 D c hm] at h; cases h
  · rw [does_4 D c hm] at h; cases h
  · rw [does_5 D c hm] at h; cases h
  · rw [does_6 D c hm] at h
    dsimp only at h
    unfold Nt.receive at h
    split at h
    · cases h
    · rename_i h0
      simp only [Option.some.injEq] at h
      rw [← h]
      refine ⟨c.to.toNat + 1, Nt.nth_mem ?_⟩
      unfold Nt.waits at h0
      split at h0
      · omega
      · exact absurd rfl h0
  · rw [does_7 D c hm] at h; cases h
def Sent (D : Nt) (sl : List ActV) : Prop := ∀ p, D.has p → amongB sl p = true
theorem amongB_append {sl : List ActV} {c : ActV} {p : Pk} (h : amongB sl p = true) : amongB (sl ++ [c]) p = true := by
  unfold amongB at h ⊢
  rw [List.any_append, h]
  rfl

theorem info_act : (Try.prog.info? 33).map (fun i => (i.zero, i.size, i.bytes)) = some (some (.agg #[.int .u8 0, .int .i64 0, .int .i64 0, .string ByteArray.empty]), 4, 40) := by kernel_rfl
def acells (c : ActV) : List Value := [.int .u8 (c.k.toNat : Int), .int .i64 c.i, .int .i64 c.to, strV c.b]
def ActRow (w : World) (B : Nat) (v : Value) (cs : List ActV) : Prop := w.ownsRow B 33 4 v cs.length (cs.flatMap acells)
theorem aflat_get (cs : List ActV) (i : Nat) (c : ActV) (h : cs[i]? = some c) : (cs.flatMap acells)[i * 4]? = some (.int .u8 (c.k.toNat : Int)) ∧ (cs.flatMap acells)[i * 4 + 1]? = some (.int .i64 c.i) ∧ (cs.flatMap acells)[i * 4 + 2]? = some (.int .i64 c.to) ∧ (cs.flatMap acells)[i * 4 + 3]? = some (strV c.b) := by
  induction cs generalizing i with
  | nil => simp at h
  | cons d cs ih =>
    cases i with
    | zero =>
      simp at h
      subst h
      exact ⟨rfl, rfl, rfl, rfl⟩
    | succ i =>
      have := ih i (by simpa using h)
      rw [List.flatMap_cons, show (i + 1) * 4 = i * 4 + 4 by omega]
      exact this
theorem ActRow.acts {w : World} {B : Nat} {v : Value} {cs : List ActV} (h : ActRow w B v cs) : ∃ A cap, v = .slice A cs.length cap ∧ ActsAt w (fun _ => False) A cs := by
  obtain ⟨_, ⟨rfl, e⟩ | ⟨g, cap, cur, rfl, hB, hb, h1, h2, h3, ht⟩⟩ := h
  · exact ⟨none, 0, by rw [e], .inl (List.eq_nil_of_length_eq_zero e)⟩
  · refine ⟨_, cap, rfl, .inr ⟨g, 0, rfl, fun x => x, (Array.getElem?_eq_some_iff.1 hb).1, fun j c hj => ?_⟩⟩
    have hk : ∀ j u, (cs.flatMap acells)[j]? = some u → w.cell? ⟨g, j, none⟩ = some u := by
      intro j u hu
      rw [← ht, List.getElem?_take] at hu
      simp only [World.cell?, hb]
      split at hu
      · simpa using hu
      · cases hu
    obtain ⟨k0, k1, k2, k3⟩ := aflat_get cs j c hj
    rw [Nat.zero_add]
    exact ⟨hk _ _ k0, hk _ _ k1, hk _ _ k2, hk _ _ k3⟩
theorem ActRow.off {w w' : World} {B : Nat} {v : Value} {cs : List ActV} {S : Nat → Prop} (h : ActRow w B v cs) (ho : Off S w w') (hv : ∀ g, v.ownBlock = some g → ¬ S g) : ActRow w' B v cs := by
  refine ⟨h.1, ?_⟩
  rcases h.2 with h2 | ⟨g, cap, cur, rfl, h3, hb, h4⟩
  · exact .inl h2
  · exact .inr ⟨g, cap, cur, rfl, h3, (ho.block g (Array.getElem?_eq_some_iff.1 hb).1 (hv g rfl)).trans hb, h4⟩
theorem wpList_append_act {ops : Array Oper} {rest : List Oper} {o : Oper} {a : Act} {w : World} {Q : Exit → Act → World → Prop} (hgd : o.guard = none) (s x : Operand) (ho : o.op = .call { callee := .builtin .append, args := #[s, x], argTypes := #[22, 22] })
    (B : Nat) (v : Value) (cs : List ActV) (c : ActV) (hs : a.eval s = v) (hown : ActRow w B v cs) (g : Nat) (hx : a.eval x = .slice (some ⟨g, 0, none⟩) 1 1)
    (hc : w.heap[g]? = some (.cells #[.int .u8 (c.k.toNat : Int), .int .i64 c.i, .int .i64 c.to, strV c.b] 33)) (hb : cs.length < 100000) (hB : B ≤ w.heap.size)
    (h : ∀ v' w', ActRow w' B v' (cs ++ [c]) → w.grownBy w' v.ownBlock → (v'.ownBlock = v.ownBlock ∨ v'.ownBlock = some w.heap.size) → wpList Try.prog ops Q rest (a.put o.dst v') w') : wpList Try.prog ops Q (o :: rest) a w := by
  obtain ⟨i0, hi0, he⟩ := Option.map_eq_some_iff.1 info_act
  simp only [Prod.mk.injEq] at he
  obtain ⟨v', w', hrun, hown', hgr, _, hob⟩ := run_append_own_at (P := Try.prog) w B 22 o.type 33 i0 _ 4 40 Try.underlying22 hi0 he.1 he.2.1 he.2.2 rfl (by decide) v cs.length _ hown ⟨g, 0, none⟩ 1 1 (acells c) rfl
    (by
      intro j z hj
      rw [add_flat, Nat.zero_add]
      simp only [World.cell?, hc]
      simpa [acells] using hj) (by intro z hz; simp only [acells, List.mem_cons, List.not_mem_nil, or_false] at hz; rcases hz with rfl | rfl | rfl | rfl <;> rfl) (by unfold maxLen; omega) (by omega) hB
  refine wpList_plain hgd fun K hK => ?_
  unfold Oper.wp
  simp [execOp, ho, resolve, invoke, builtin, hs, hx, hrun, Result.andThen]
  refine hK _ _ (h v' w' ?_ hgr hob)
  unfold ActRow
  rw [List.flatMap_append, List.length_append]
  simpa using hown'

/-- What stands at the head of each round. -/
structure TrueInv (w wr : World) (n nb k : Nat) (S : Nat → Prop) (D : Nt) (v : Value) (sl : List ActV) : Prop where
  net : NetAt wr S nb D
  row : ActRow wr w.heap.size v sl
  few : sl.length ≤ k
  own : ∀ g, v.ownBlock = some g → ¬ S g
  data : Sent D sl
  from_ : ∀ b, S b → w.heap.size ≤ b
  off : Off (fun b => w.heap.size ≤ b) w wr
section
variable {w wr v : World} {n nb k : Nat} {S S1 : Nat → Prop} {D D1 : Nt} {s s' : Value} {sl : List ActV}
theorem TrueInv.turn (h : TrueInv w wr n nb k S D s sl) (hn : NetAt v S1 nb D1) (ht : Turn S S1 wr v) (hd : Sent D1 sl) : TrueInv w v n nb k S1 D1 s sl := by
  have hs := h.off.size
  refine ⟨hn, h.row.off ht.off.toOff h.own, h.few, fun g hg hs1 => ?_, hd, fun b hb => ?_, h.off.trans (ht.off.toOff.mono (fun b _ hb => h.from_ b hb))⟩
  · rcases ht.sub g hs1 with e | e
    · exact h.own g hg e
    · have := (h.row.lt g hg).2; omega
  · rcases ht.sub b hb with e | e
    · exact h.from_ b e
    · omega
theorem TrueInv.grown (h : TrueInv w wr n nb k S D s sl) (hg : wr.grownBy v none) : TrueInv w v n nb k S D s sl := h.turn (h.net.grown hg) (Turn.begin_ h.net.lt hg) h.data
end
end Go.Proofs.Ytonfpifikblnjaa.Net
