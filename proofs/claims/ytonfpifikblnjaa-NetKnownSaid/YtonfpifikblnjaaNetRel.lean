/- The net and the document's, as data: what one does the other does. No function in sight. -/
import Derived.Test.YtonfpifikblnjaaNetHas
namespace Go.Proofs.Ytonfpifikblnjaa.Net
open Go.RowKit

structure Rel (D : Nt) (R : Rf) : Prop where
  n : D.n = R.n
  rows : ∀ j, j ≤ D.n → D.row j = (R.row j).map R.get
  all : ∀ j, j ≤ D.n → ∀ k ∈ R.row j, k < R.all.length
theorem get_some {R : Rf} {k : Nat} {p : Pk} (h : R.all[k]? = some p) : R.get k = p := by unfold Rf.get; rw [h]; rfl
theorem Rel.ok {D : Nt} {R : Rf} (h : Rel D R) (ho : D.OK) (hl : R.all.length < 9000) : R.OK := by
  refine ⟨fun j hj k hk => h.all j (by rw [h.n]; exact hj) k hk, fun k hk p hp => ?_, ?_, fun j hj => ?_, hl⟩
  · rw [← h.n, ← get_some hp]
    exact ho.to_ _ (by rw [h.rows 0 (Nat.zero_le _)]; exact List.mem_map.2 ⟨k, hk, rfl⟩)
  · have := ho.way
    rw [h.rows 0 (Nat.zero_le _), List.length_map] at this
    exact this
  · rw [← h.n] at hj
    have := ho.box j hj
    rw [h.rows (j + 1) hj, List.length_map] at this
    exact this
theorem Rel.len {D : Nt} {R : Rf} (h : Rel D R) (j : Nat) (hj : j ≤ D.n) : (D.row j).length = (R.row j).length := by rw [h.rows j hj, List.length_map]
theorem Rel.is {D : Nt} {R : Rf} (h : Rel D R) (i : Int) : D.is i = R.is i := by unfold Nt.is Rf.is; rw [h.n]
theorem Rel.set {D : Nt} {R : Rf} (h : Rel D R) (j : Nat) (l : List Nat) (hl : ∀ k ∈ l, k < R.all.length) {ps : List Pk} (hps : ps = l.map R.get) : Rel (D.set j ps) (R.set j l) := by
  refine ⟨h.n, fun x hx => ?_, fun x hx k hk => ?_⟩
  · show (if x = j then ps else D.row x) = (if x = j then l else R.row x).map R.get
    split
    · exact hps
    · exact h.rows x hx
  · have hk : k ∈ (if x = j then l else R.row x) := hk
    split at hk
    · exact hl k hk
    · exact h.all x hx k hk
theorem eraseIdx_map' {α β : Type} (f : α → β) (l : List α) (i : Nat) : (l.map f).eraseIdx i = (l.eraseIdx i).map f := by
  rw [List.eraseIdx_eq_take_drop_succ, List.eraseIdx_eq_take_drop_succ, List.map_append, List.map_take, List.map_drop]
theorem Rel.less {D : Nt} {R : Rf} (h : Rel D R) (j i : Nat) (hj : j ≤ D.n) : Rel (D.less j i) (R.set j ((R.row j).eraseIdx i)) :=
  h.set j _ (fun k hk => h.all j hj k (List.mem_of_mem_eraseIdx hk)) (by rw [h.rows j hj, eraseIdx_map'])
theorem Rel.more {D : Nt} {R : Rf} (h : Rel D R) (j k : Nat) (hj : j ≤ D.n) (hk : k < R.all.length) : Rel (D.more j (R.get k)) (R.set j (R.row j ++ [k])) :=
  h.set j _ (fun x hx => by
    rcases List.mem_append.1 hx with hx | hx
    · exact h.all j hj x hx
    · simp at hx; subst hx; exact hk) (by rw [h.rows j hj, List.map_append]; rfl)
theorem Rel.push {D : Nt} {R : Rf} (h : Rel D R) (p : Pk) : Rel (D.more 0 p) (R.push p) := by
  have hget : ∀ k, k < R.all.length → (R.push p).get k = R.get k := fun k hk => by
    unfold Rf.get
    show ((R.all ++ [p])[k]?).getD _ = _
    rw [List.getElem?_append_left hk]
  have hnew : (R.push p).get R.all.length = p := by
    unfold Rf.get
    show ((R.all ++ [p])[R.all.length]?).getD _ = _
    rw [List.getElem?_append_right (Nat.le_refl _), Nat.sub_self]
    rfl
  have hmap : ∀ j, j ≤ D.n → (R.row j).map (R.push p).get = (R.row j).map R.get := fun j hj => List.map_congr_left (fun k hk => hget k (h.all j hj k hk))
  refine ⟨h.n, fun j hj => ?_, fun j hj k hk => ?_⟩
  · show (if j = 0 then D.row 0 ++ [p] else D.row j) = (if j = 0 then R.row 0 ++ [R.all.length] else R.row j).map (R.push p).get
    split
    · rw [List.map_append, hmap 0 (Nat.zero_le _), h.rows 0 (Nat.zero_le _)]
      show _ ++ [p] = _ ++ [(R.push p).get R.all.length]
      rw [hnew]
    · rw [hmap j hj]; exact h.rows j hj
  · have hk : k ∈ (if j = 0 then R.row 0 ++ [R.all.length] else R.row j) := hk
    show k < (R.all ++ [p]).length
    rw [List.length_append]
    split at hk
    · rcases List.mem_append.1 hk with hk | hk
      · have := h.all 0 (Nat.zero_le _) k hk; simp; omega
      · simp at hk; subst hk; simp
    · have := h.all j hj k hk; simp; omega
theorem Rel.there {D : Nt} {R : Rf} (h : Rel D R) (i : Int) : D.there i = if R.there i = true then 0 else 5 := by
  have hl := h.len 0 (Nat.zero_le _)
  unfold Nt.there Rf.there
  rw [hl]
  by_cases h1 : i < 0
  · rw [if_pos (.inl h1), decide_eq_false (by omega : ¬ (0 : Int) ≤ i)]
    rfl
  · by_cases h2 : ((R.row 0).length : Int) ≤ i
    · rw [if_pos (.inr h2), decide_eq_true (by omega : (0 : Int) ≤ i), decide_eq_false (by omega : ¬ i < ((R.row 0).length : Int))]
      rfl
    · rw [if_neg (by omega), decide_eq_true (by omega : (0 : Int) ≤ i), decide_eq_true (by omega : i < ((R.row 0).length : Int))]
      rfl
theorem Rel.nth {D : Nt} {R : Rf} (h : Rel D R) (j z : Nat) (hj : j ≤ D.n) {k : Nat} (hk : (R.row j)[z]? = some k) : D.nth j z = R.get k := by
  unfold Nt.nth
  rw [h.rows j hj, List.getElem?_map, hk]
  rfl
theorem Rel.made {D : Nt} {R : Rf} (h : Rel D R) (ho : D.OK) (p : Pk) : (R.made p).1 = (if 256 ≤ (D.row 0).length then (3 : Int) else 0) ∧ Rel (if 256 ≤ (D.row 0).length then D else D.more 0 p) (R.made p).2 ∧ (R.made p).2.all.length ≤ R.all.length + 1 := by
  have hl := h.len 0 (Nat.zero_le _)
  have hw := ho.way
  unfold Rf.made
  by_cases hf : (R.row 0).length = 256
  · rw [if_pos hf, if_pos (by omega), if_pos (by omega)]
    exact ⟨rfl, h, Nat.le_succ _⟩
  · rw [if_neg hf, if_neg (by omega), if_neg (by omega)]
    exact ⟨rfl, h.push p, by show (R.all ++ [p]).length ≤ _; rw [List.length_append]; simp⟩
theorem off_yes {R : Rf} {z k : Nat} (ht : R.there (z : Int) = true) (hk : (R.row 0)[z]? = some k) : R.off (z : Int) = ((k, true), R.set 0 ((R.row 0).eraseIdx z)) := by
  unfold Rf.off
  rw [if_pos ht, Int.toNat_natCast, hk]
  rfl
theorem off_no {R : Rf} {i : Int} (ht : ¬ R.there i = true) : R.off i = ((0, false), R) := by
  unfold Rf.off
  rw [if_neg ht]
theorem rel_does {D : Nt} {R : Rf} (h : Rel D R) (ho : D.OK) (c : ActV) : (D.does c).1 = (R.has c).1 ∧ Rel (D.does c).2 (R.has c).2 ∧ (R.has c).2.all.length ≤ R.all.length + 1 := by
  have hm : c.k.toNat % 8 = 0 ∨ c.k.toNat % 8 = 1 ∨ c.k.toNat % 8 = 2 ∨ c.k.toNat % 8 = 3 ∨ c.k.toNat % 8 = 4 ∨ c.k.toNat % 8 = 5 ∨ c.k.toNat % 8 = 6 ∨ c.k.toNat % 8 = 7 := by omega
  have hsend : c.k.toNat % 8 = 0 ∨ c.k.toNat % 8 = 1 → (D.does c).1 = (R.has c).1 ∧ Rel (D.does c).2 (R.has c).2 ∧ (R.has c).2.all.length ≤ R.all.length + 1 := by
    intro hk
    rw [does_0 D c hk, has_0 R c hk]
    dsimp only
    unfold Nt.send Rf.send
    dsimp only
    rw [h.is, h.is]
    by_cases hi : R.is c.i = true ∧ R.is c.to = true
    · rw [if_pos hi, if_pos hi]
      obtain ⟨h1, h2, h3⟩ := h.made ho ⟨c.i, c.to, c.b⟩
      rw [h1]
      by_cases hf : 256 ≤ (D.row 0).length
      · rw [if_pos hf] at h2 ⊢
        rw [if_pos hf]
        exact ⟨rfl, h2, h3⟩
      · rw [if_neg hf] at h2 ⊢
        rw [if_neg hf]
        exact ⟨rfl, h2, h3⟩
    · rw [if_neg hi, if_neg hi]
      exact ⟨rfl, h, Nat.le_succ _⟩
  rcases hm with hm | hm | hm | hm | hm | hm | hm | hm
  · exact hsend (.inl hm)
  · exact hsend (.inr hm)
  · rw [does_2 D c hm, has_2 R c hm]
    dsimp only
    unfold Nt.deliver Rf.deliver
    dsimp only
    rw [h.there]
    by_cases ht : R.there c.i = true
    · obtain ⟨z, hz, hzl⟩ := Rf.there_nat ht
      rw [if_pos ht]
      obtain ⟨k, hk⟩ : ∃ k, (R.row 0)[z]? = some k := ⟨_, List.getElem?_eq_getElem hzl⟩
      have hkl := h.all 0 (Nat.zero_le _) k (List.mem_of_getElem? hk)
      rw [hz] at ht ⊢
      rw [off_yes ht hk, Int.toNat_natCast, h.nth 0 z (Nat.zero_le _) hk]
      simp only [if_true]
      have hl := h.less 0 z (Nat.zero_le _)
      refine ⟨trivial, ?_, ?_⟩
      · have hto := ho.to_ (R.get k) (by rw [h.rows 0 (Nat.zero_le _)]; exact List.mem_map.2 ⟨k, List.mem_of_getElem? hk, rfl⟩)
        have hjn : (R.get k).to.toNat + 1 ≤ D.n := by omega
        unfold Nt.boxed Rf.boxes
        rw [hl.len _ hjn, show (R.set 0 ((R.row 0).eraseIdx z)).get k = R.get k from rfl]
        by_cases hf : ((R.set 0 ((R.row 0).eraseIdx z)).row ((R.get k).to.toNat + 1)).length < 32
        · rw [if_pos hf, if_pos hf]
          exact hl.more _ k hjn hkl
        · rw [if_neg hf, if_neg hf]
          exact hl
      · unfold Rf.boxes
        split <;> exact Nat.le_succ _
    · rw [if_neg ht, off_no ht]
      exact ⟨rfl, h, Nat.le_succ _⟩
  · rw [does_3 D c hm, has_3 R c hm]
    dsimp only
    unfold Nt.drop Rf.drop
    dsimp only
    rw [h.there]
    by_cases ht : R.there c.i = true
    · obtain ⟨z, hz, hzl⟩ := Rf.there_nat ht
      obtain ⟨k, hk⟩ : ∃ k, (R.row 0)[z]? = some k := ⟨_, List.getElem?_eq_getElem hzl⟩
      rw [if_pos ht]
      rw [hz] at ht ⊢
      rw [off_yes ht hk, Int.toNat_natCast]
      simp only [if_true]
      exact ⟨trivial, h.less 0 z (Nat.zero_le _), Nat.le_succ _⟩
    · rw [if_neg ht, off_no ht]
      exact ⟨rfl, h, Nat.le_succ _⟩
  · rw [does_4 D c hm, has_4 R c hm]
    dsimp only
    unfold Nt.double Rf.double
    rw [h.there]
    by_cases ht : R.there c.i = true
    · obtain ⟨z, hz, hzl⟩ := Rf.there_nat ht
      obtain ⟨k, hk⟩ : ∃ k, (R.row 0)[z]? = some k := ⟨_, List.getElem?_eq_getElem hzl⟩
      rw [if_pos ht, if_pos rfl, if_pos ht, hz, Int.toNat_natCast, hk, h.nth 0 z (Nat.zero_le _) hk, Option.getD_some]
      obtain ⟨h1, h2, h3⟩ := h.made ho (R.get k)
      rw [h1]
      by_cases hf : 256 ≤ (D.row 0).length
      · rw [if_pos hf] at h2 ⊢
        rw [if_pos hf]
        exact ⟨rfl, h2, h3⟩
      · rw [if_neg hf] at h2 ⊢
        rw [if_neg hf]
        exact ⟨rfl, h2, h3⟩
    · rw [if_neg ht, if_neg (by decide), if_neg ht]
      exact ⟨rfl, h, Nat.le_succ _⟩
  · rw [does_5 D c hm, has_5 R c hm]
    dsimp only
    unfold Nt.delay Rf.delay
    dsimp only
    rw [h.there]
    by_cases ht : R.there c.i = true
    · obtain ⟨z, hz, hzl⟩ := Rf.there_nat ht
      obtain ⟨k, hk⟩ : ∃ k, (R.row 0)[z]? = some k := ⟨_, List.getElem?_eq_getElem hzl⟩
      have hkl := h.all 0 (Nat.zero_le _) k (List.mem_of_getElem? hk)
      rw [if_pos ht]
      rw [hz] at ht ⊢
      rw [off_yes ht hk, Int.toNat_natCast, h.nth 0 z (Nat.zero_le _) hk]
      simp only [if_true]
      exact ⟨trivial, (h.less 0 z (Nat.zero_le _)).more 0 k (Nat.zero_le _) hkl, Nat.le_succ _⟩
    · rw [if_neg ht, off_no ht]
      exact ⟨rfl, h, Nat.le_succ _⟩
  · rw [does_6 D c hm, has_6 R c hm]
    dsimp only
    have hw : D.waits c.to = R.waits c.to := by
      unfold Nt.waits Rf.waits
      rw [h.is]
      by_cases hi : R.is c.to = true
      · obtain ⟨z, hz, hzn⟩ := Rf.is_nat hi
        rw [if_pos hi, if_pos hi, hz, Int.toNat_natCast, h.len (z + 1) (by rw [h.n]; exact hzn)]
      · rw [if_neg hi, if_neg hi]
    unfold Nt.receive Rf.receive
    rw [hw]
    by_cases h0 : R.waits c.to = 0
    · rw [if_pos h0, if_pos h0]
      exact ⟨rfl, h, Nat.le_succ _⟩
    · rw [if_neg h0, if_neg h0]
      obtain ⟨z, hz, hzn⟩ : ∃ z : Nat, c.to = (z : Int) ∧ z < R.n := by
        unfold Rf.waits at h0
        split at h0
        · exact Rf.is_nat (by assumption)
        · exact absurd rfl h0
      rw [hz] at h0 ⊢
      rw [rwaits_nat R z hzn] at h0
      have hjn : z + 1 ≤ D.n := by rw [h.n]; exact hzn
      obtain ⟨k, hk⟩ : ∃ k, (R.row (z + 1))[0]? = some k := ⟨_, List.getElem?_eq_getElem (by omega)⟩
      rw [Int.toNat_natCast, hk, h.nth (z + 1) 0 hjn hk]
      exact ⟨rfl, h.less (z + 1) 0 hjn, Nat.le_succ _⟩
  · rw [does_7 D c hm, has_7 R c hm]
    dsimp only
    unfold Nt.clear Rf.clear
    rw [h.is]
    by_cases hi : R.is c.to = true
    · rw [if_pos hi, if_pos hi]
      exact ⟨rfl, h.set _ [] (fun k hk => by simp at hk) rfl, Nat.le_succ _⟩
    · rw [if_neg hi, if_neg hi]
      exact ⟨rfl, h, Nat.le_succ _⟩
theorem rel_fresh (n : Nat) : Rel (fresh n) (rfresh n) := ⟨rfl, fun _ _ => rfl, fun _ _ k hk => by simp [rfresh] at hk⟩
end Go.Proofs.Ytonfpifikblnjaa.Net
