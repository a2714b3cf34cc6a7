/- NetKnown: rows of things that are built by literals, and parts of them. -/
import Derived.Test.YtonfpifikblnjaaNetNil
namespace Go.Proofs.Ytonfpifikblnjaa.Net
open Go.RowKit

theorem aflat_len (ds : List ActV) : (ds.flatMap acells).length = ds.length * 4 := by
  induction ds with
  | nil => rfl
  | cons d ds ih => rw [List.flatMap_cons, List.length_append, ih, List.length_cons]; show 4 + _ = _; omega
theorem wpList_append_acts {ops : Array Oper} {rest : List Oper} {o : Oper} {a : Act} {w : World} {Q : Exit → Act → World → Prop} (hgd : o.guard = none) (s x : Operand) (ho : o.op = .call { callee := .builtin .append, args := #[s, x], argTypes := #[22, 22] })
    (B : Nat) (v : Value) (cs ds : List ActV) (m : Nat) (hm : ds.length = m) (hs : a.eval s = v) (hown : ActRow w B v cs) (g : Nat) (hx : a.eval x = .slice (some ⟨g, 0, none⟩) m m)
    (hc : w.heap[g]? = some (.cells (ds.flatMap acells).toArray 33)) (hb : cs.length + m < 100000) (hB : B ≤ w.heap.size)
    (h : ∀ v' w', ActRow w' B v' (cs ++ ds) → w.grownBy w' v.ownBlock → wpList Try.prog ops Q rest (a.put o.dst v') w') : wpList Try.prog ops Q (o :: rest) a w := by
  obtain ⟨i0, hi0, he⟩ := Option.map_eq_some_iff.1 info_act
  simp only [Prod.mk.injEq] at he
  have hwf : ∀ z ∈ ds.flatMap acells, z.oneCell' = true := by
    intro z hz
    obtain ⟨d, _, hz⟩ := List.mem_flatMap.1 hz
    simp only [acells, List.mem_cons, List.not_mem_nil, or_false] at hz
    rcases hz with rfl | rfl | rfl | rfl <;> rfl
  obtain ⟨v', w', hrun, hown', hgr, _, hob⟩ := run_append_own_at (P := Try.prog) w B 22 o.type 33 i0 _ 4 40 Try.underlying22 hi0 he.1 he.2.1 he.2.2 rfl (by decide) v cs.length _ hown ⟨g, 0, none⟩ m m (ds.flatMap acells) (by rw [aflat_len, hm])
    (by
      intro j z hj
      rw [add_flat, Nat.zero_add]
      simp only [World.cell?, hc]
      simpa using hj) hwf (by unfold maxLen; omega) (by omega) hB
  refine wpList_plain hgd fun K hK => ?_
  unfold Oper.wp
  simp [execOp, ho, resolve, invoke, builtin, hs, hx, hrun, Result.andThen]
  refine hK _ _ (h v' w' ?_ hgr)
  unfold ActRow
  rw [List.flatMap_append, List.length_append, hm]
  simpa using hown'
/-- So many things stand there. -/
def Acts (w : World) (A : Option Addr) (n : Nat) : Prop := ∃ l : List ActV, l.length = n ∧ ActsAt w (fun b => w.heap.size ≤ b) A l
theorem Acts.below {w w' : World} {A : Option Addr} {n : Nat} (h : Acts w A n) (hb : Below w.heap.size w w') : Acts w' A n := by
  obtain ⟨l, hl, h⟩ := h
  refine ⟨l, hl, ?_⟩
  rcases h with e | ⟨g, off, e, hs, hlt, hc⟩
  · exact .inl e
  · exact .inr ⟨g, off, e, by have := hb.size; omega, Nat.lt_of_lt_of_le hlt hb.size, fun j c hj => (show ActAt w' g (off + j * 4) c from ActAt.off (S := fun b => w.heap.size ≤ b) (hc j c hj) ⟨hb.os, hb.tape, hb.output, hb.size, fun k hk _ => hb.block k hk⟩ hs)⟩
theorem Acts.part {w : World} {g off n : Nat} (h : Acts w (some ⟨g, off, none⟩) n) (a m : Nat) (ha : a + m ≤ n) : Acts w (some ⟨g, off + a * 4, none⟩) m := by
  obtain ⟨l, hl, h⟩ := h
  refine ⟨(l.drop a).take m, by rw [List.length_take, List.length_drop]; omega, ?_⟩
  rcases h with e | ⟨g', off', e, hs, hlt, hc⟩
  · rw [e]; exact .inl (by simp)
  · cases e
    refine .inr ⟨g, off + a * 4, rfl, hs, hlt, fun j c hj => ?_⟩
    have h1 : l[a + j]? = some c := by
      rw [List.getElem?_take] at hj
      split at hj
      · rw [List.getElem?_drop] at hj
        exact hj
      · cases hj
    have := hc (a + j) c h1
    rw [show off + (a + j) * 4 = off + a * 4 + j * 4 by omega] at this
    exact this
theorem ActRow.have_ {w : World} {B : Nat} {v : Value} {cs : List ActV} {n : Nat} (h : ActRow w B v cs) (hn : cs.length = n) (h0 : 0 < n) : ∃ g cap, v = .slice (some ⟨g, 0, none⟩) n cap ∧ n ≤ cap ∧ cap ≤ maxLen ∧ Acts w (some ⟨g, 0, none⟩) n := by
  have h' := h
  obtain ⟨_, ⟨rfl, e⟩ | ⟨g, cap, cur, rfl, hB, hb, h1, h2, h3, ht⟩⟩ := h
  · omega
  · obtain ⟨A, cap2, e, ha⟩ := h'.acts
    cases e
    subst hn
    refine ⟨g, cap, rfl, h1, h2, cs, rfl, ?_⟩
    rcases ha with e | ⟨g', off, e, _, hlt, hc⟩
    · exact .inl e
    · exact .inr ⟨g', off, e, by omega, hlt, hc⟩
section
variable (w : World) (A : Option Addr) (n cap : Nat) (h : Acts w A n) (hc1 : n ≤ cap) (hc2 : cap ≤ maxLen)
theorem says_n (ends : Int) (h : Acts w A n) (hc1 : n ≤ cap) (hc2 : cap ≤ maxLen) : Calls Try.prog 4 #[.int .i64 ends, .slice A n cap] w fun e w' => e = .returned (.bool true) ∧ Below w.heap.size w w' := by
  obtain ⟨l, rfl, h⟩ := h
  exact says_walk ends A l cap w h hc1 hc2
theorem true_n (ends : Int) (h : Acts w A n) (hc1 : n ≤ cap) (hc2 : cap ≤ maxLen) : Calls Try.prog 5 #[.int .i64 ends, .slice A n cap] w fun e w' => e = .returned (.bool true) ∧ Below w.heap.size w w' := by
  obtain ⟨l, rfl, h⟩ := h
  exact true_walk ends A l cap w h hc1 hc2
theorem count_n (ends : Int) (h : Acts w A n) (hc1 : n ≤ cap) (hc2 : cap ≤ maxLen) : Calls Try.prog 6 #[.int .i64 ends, .slice A n cap] w fun e w' => e = .returned (.bool true) ∧ Below w.heap.size w w' := by
  obtain ⟨l, rfl, h⟩ := h
  exact count_walk ends A l cap w h hc1 hc2
theorem fair_n (ends bits : Int) (h : Acts w A n) (hc1 : n ≤ cap) (hc2 : cap ≤ maxLen) : Calls Try.prog 3 #[.int .i64 ends, .slice A n cap, .int .u64 bits] w fun e w' => e = .returned (.bool true) ∧ Below w.heap.size w w' := by
  obtain ⟨l, rfl, h⟩ := h
  exact fair_walk ends bits A l cap w h hc1 hc2
theorem turns_n (ends i : Int) (h : Acts w A n) (hc1 : n ≤ cap) (hc2 : cap ≤ maxLen) : Calls Try.prog 7 #[.int .i64 ends, .slice A n cap, .int .i64 i] w fun e w' => e = .returned (.bool true) ∧ Below w.heap.size w w' := by
  obtain ⟨l, rfl, h⟩ := h
  exact turns_walk ends i A l cap w h hc1 hc2
end
end Go.Proofs.Ytonfpifikblnjaa.Net
