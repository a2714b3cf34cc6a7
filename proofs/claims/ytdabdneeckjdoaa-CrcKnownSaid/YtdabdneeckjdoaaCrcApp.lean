/- Rows of bytes that the call itself makes: append from a row that is read, nil or empty or not. -/
import Derived.Maps.AppendAt
import Derived.OwnWalk
import Derived.Test.YtdabdneeckjdoaaCrcTool
namespace Go.Proofs.Ytdabdneeckjdoaa.Crc
open Go.RowKit

/-- A row of bytes of the call's own. -/
def Own8 (w : World) (B : Nat) (v : Value) (l : List UInt8) : Prop := w.ownsRow B 5 1 v l.length (l.map fun c => .int .u8 (c.toNat : Int))
theorem info_u8 : (Try.prog.info? 5).map (fun i => (i.zero, i.size, i.bytes)) = some (some (.int .u8 0), 1, 1) := by kernel_rfl
theorem Own8.nil (w : World) (B : Nat) : Own8 w B (.slice none 0 0) [] := ⟨rfl, .inl ⟨rfl, rfl⟩⟩
theorem Own8.len {w : World} {B : Nat} {v : Value} {l : List UInt8} (h : Own8 w B v l) : ∃ A cap, v = .slice A l.length cap ∧ l.length ≤ cap ∧ cap ≤ 9223372036854775807 ∧ (A = none → cap = 0) ∧ Row8 w w.heap.size A l := by
  obtain ⟨_, h2⟩ := h
  rcases h2 with ⟨rfl, hn⟩ | ⟨g, cap, cur, rfl, hg, hh, hnc, hcm, hsz, htk⟩
  · exact ⟨none, 0, by rw [hn], by omega, by omega, fun _ => rfl, .inl (List.eq_nil_of_length_eq_zero hn)⟩
  · refine ⟨_, _, rfl, hnc, hcm, (fun e => by cases e), .inr ⟨g, 0, rfl, (Array.getElem?_eq_some_iff.1 hh).1, fun i hi => ?_⟩⟩
    rw [cell_of_row w g _ cur _ (0, 0) hh, Nat.zero_add]
    have h1 : (cur.toList.take (l.length * 1))[i]? = some (.int .u8 (l[i].toNat : Int)) := by
      rw [htk]
      simp [hi]
    rw [List.getElem?_take_of_lt (by omega), Array.getElem?_toList] at h1
    rw [h1]
    unfold at8
    rw [getD_at l i hi]
theorem Own8.below {w w' : World} {B : Nat} {v : Value} {l : List UInt8} (h : Own8 w B v l) (hb : Below w.heap.size w w') : Own8 w' B v l := by
  obtain ⟨h1, h2⟩ := h
  refine ⟨h1, ?_⟩
  rcases h2 with h2 | ⟨g, cap, cur, e, hg, hh, r⟩
  · exact .inl h2
  · exact .inr ⟨g, cap, cur, e, hg, (hb.block g (Array.getElem?_eq_some_iff.1 hh).1).trans hh, r⟩
theorem Own8.base {w : World} {B : Nat} {v : Value} {l : List UInt8} (h : Own8 w B v l) : ∀ g, v.ownBlock = some g → B ≤ g := by
  intro k hk
  obtain ⟨_, h2⟩ := h
  rcases h2 with ⟨rfl, _⟩ | ⟨g, cap, cur, rfl, hg, _⟩
  · simp [Value.ownBlock] at hk
  · simp [Value.ownBlock] at hk; omega

theorem run_append_row8 (w : World) (ty : TypeId) (base B : Nat) (v : Value) (l0 l : List UInt8) (hown : Own8 w base v l0) (A : Option Addr) (c : Nat) (hr : Row8 w B A l) (hnil : A = none → c = 0)
    (hb : l0.length + l.length ≤ 140737488355328) (hbase : base ≤ w.heap.size) :
    ∃ v' w', (Builtin.append_ #[23, 23] ty #[v, .slice A l.length c]).run Try.prog w = .ok v' w' ∧ Own8 w' base v' (l0 ++ l) ∧ w.grownBy w' v.ownBlock ∧ (v'.ownBlock = v.ownBlock ∨ v'.ownBlock = some w.heap.size) := by
  obtain ⟨i0, hi0, hz0, hz1, hz2⟩ := info_parts info_u8
  have main : ∀ a : Addr, (∀ j u, (l.map fun c => Value.int .u8 (c.toNat : Int))[j]? = some u → w.cell? (a.add j) = some u) →
      ∃ v' w', (Builtin.append_ #[23, 23] ty #[v, .slice (some a) l.length c]).run Try.prog w = .ok v' w' ∧ Own8 w' base v' (l0 ++ l) ∧ w.grownBy w' v.ownBlock ∧ (v'.ownBlock = v.ownBlock ∨ v'.ownBlock = some w.heap.size) := by
    intro a hc
    obtain ⟨v', w', hrun, h2, h3, _, h5⟩ := run_append_own_at (P := Try.prog) (w := w) base 23 ty 5 i0 (.int .u8 0) 1 1 Try.underlying23 hi0 hz0 hz1 hz2 rfl (by decide) v l0.length _ hown a l.length c
      (l.map fun c => Value.int .u8 (c.toNat : Int)) (by simp) hc (by intro x hx; simp at hx; obtain ⟨_, _, rfl⟩ := hx; rfl) (by unfold maxLen; omega) (by omega) hbase
    refine ⟨v', w', hrun, ?_, h3, h5⟩
    unfold Own8
    rw [List.length_append, List.map_append]
    exact h2
  cases A with
  | none =>
    have hl : l = [] := by
      rcases hr with h | ⟨b, off, e, _⟩
      · exact h
      · cases e
    subst hl
    rw [hnil rfl]
    have := run_append_owned_none (P := Try.prog) (w := w) base 23 ty 5 i0 1 Try.underlying23 hi0 v l0.length _ hown
    exact ⟨v, w, this, by rw [List.append_nil]; exact hown, World.grownBy.refl w _, .inl rfl⟩
  | some a =>
    refine main a ?_
    intro j x hj
    rcases hr with rfl | ⟨b, off, e, _, hc⟩
    · simp at hj
    · injection e with e
      subst e
      have hjl : j < l.length := by
        rcases Nat.lt_or_ge j l.length with h | h
        · exact h
        · rw [List.getElem?_eq_none (by simpa using h)] at hj; cases hj
      rw [Addr.add_mid, hc j hjl]
      simp [List.getElem?_eq_getElem hjl] at hj
      subst hj
      unfold at8
      rw [getD_at l j hjl]

theorem wpList_append_row8 {w : World} {ops : Array Oper} {rest : List Oper} {o : Oper} {a : Act} {Q : Exit → Act → World → Prop} (hgd : o.guard = none) (s x : Operand)
    (ho : o.op = .call { callee := .builtin .append, args := #[s, x], argTypes := #[23, 23] })
    (base B : Nat) (v : Value) (l0 l : List UInt8) (hs : a.eval s = v) (hown : Own8 w base v l0) (A : Option Addr) (m c : Nat) (hx : a.eval x = .slice A m c) (hm : l.length = m) (hr : Row8 w B A l) (hnil : A = none → c = 0)
    (hb : l0.length + l.length ≤ 140737488355328) (hbase : base ≤ w.heap.size)
    (h : ∀ v' w', Own8 w' base v' (l0 ++ l) → w.grownBy w' v.ownBlock → (v'.ownBlock = v.ownBlock ∨ v'.ownBlock = some w.heap.size) → wpList Try.prog ops Q rest (a.put o.dst v') w') : wpList Try.prog ops Q (o :: rest) a w := by
  subst hm
  obtain ⟨v', w', hrun, h2, h3, h4⟩ := run_append_row8 w o.type base B v l0 l hown A c hr hnil hb hbase
  refine wpList_plain hgd fun K hK => ?_
  unfold Oper.wp
  simp [execOp, ho, resolve, invoke, builtin, hs, hx, hrun, Result.andThen]
  exact hK _ _ (h v' w' h2 h3 h4)
end Go.Proofs.Ytdabdneeckjdoaa.Crc
