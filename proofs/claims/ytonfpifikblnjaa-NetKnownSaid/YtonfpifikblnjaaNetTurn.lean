/- What the net's functions do, as data; put and take on a net's rows. -/
import Derived.Test.YtonfpifikblnjaaNetOps
namespace Go.Proofs.Ytonfpifikblnjaa.Net
open Go.RowKit

def Nt.less (D : Nt) (j i : Nat) : Nt := D.set j ((D.row j).eraseIdx i)
def Nt.more (D : Nt) (j : Nat) (k : Pk) : Nt := D.set j (D.row j ++ [k])
def Nt.nth (D : Nt) (j i : Nat) : Pk := ((D.row j)[i]?).getD ⟨0, 0, []⟩
theorem Nt.nth_get {D : Nt} {j i : Nat} (h : i < (D.row j).length) : (D.row j)[i]? = some (D.nth j i) := by
  unfold Nt.nth
  rw [List.getElem?_eq_getElem h]
  rfl
theorem Nt.nth_mem {D : Nt} {j i : Nat} (h : i < (D.row j).length) : D.nth j i ∈ D.row j := List.mem_of_getElem? (Nt.nth_get h)
theorem Nt.less_row (D : Nt) (j i x : Nat) : (D.less j i).row x = if x = j then (D.row j).eraseIdx i else D.row x := rfl
theorem Nt.more_row (D : Nt) (j : Nat) (k : Pk) (x : Nat) : (D.more j k).row x = if x = j then D.row j ++ [k] else D.row x := rfl
theorem Nt.OK.sub {D : Nt} (h : D.OK) (j : Nat) (l : List Pk) (hl : l.Sublist (D.row j)) : (D.set j l).OK := by
  have hs : ∀ x, ((D.set j l).row x).Sublist (D.row x) := fun x => by
    by_cases e : x = j
    · subst e; rw [Nt.set_same]; exact hl
    · rw [Nt.set_ne _ _ e]; exact List.Sublist.refl _
  exact ⟨h.pos, h.most, Nat.le_trans (hs 0).length_le h.way, fun i hi => Nat.le_trans (hs (i + 1)).length_le (h.box i hi), fun p hp => h.to_ p ((hs 0).subset hp), fun x p hp => h.small x p ((hs x).subset hp)⟩
theorem Nt.OK.less {D : Nt} (h : D.OK) (j i : Nat) : (D.less j i).OK := h.sub j _ (List.eraseIdx_sublist _ _)
theorem Nt.OK.more {D : Nt} (h : D.OK) (j : Nat) (k : Pk) (hk : k.b.length ≤ 1000) (h0 : j = 0 → (D.row 0).length < 256 ∧ 0 ≤ k.to ∧ k.to < (D.n : Int)) (h1 : ∀ i, j = i + 1 → (D.row j).length < 32) : (D.more j k).OK := by
  refine ⟨h.pos, h.most, ?_, fun i hi => ?_, fun p hp => ?_, fun x p hp => ?_⟩
  · rw [Nt.more_row]
    split
    · rename_i e
      have := (h0 e.symm).1
      rw [← e, List.length_append]
      simp; omega
    · exact h.way
  · rw [Nt.more_row]
    split
    · rename_i e
      have := h1 i e.symm
      rw [List.length_append]
      simp; omega
    · exact h.box i hi
  · rw [Nt.more_row] at hp
    split at hp
    · rename_i e
      rcases List.mem_append.1 hp with hp | hp
      · exact h.to_ p (e ▸ hp)
      · simp at hp; subst hp; exact (h0 e.symm).2
    · exact h.to_ p hp
  · rw [Nt.more_row] at hp
    split at hp
    · rcases List.mem_append.1 hp with hp | hp
      · exact h.small j p hp
      · simp at hp; subst hp; exact hk
    · exact h.small x p hp

/-- What a Send answers, and leaves. -/
def Nt.send (D : Nt) (k : Pk) : Int × Nt := if D.is k.src = true ∧ D.is k.to = true then (if 256 ≤ (D.row 0).length then (3, D) else (0, D.more 0 k)) else (2, D)
def Nt.drop (D : Nt) (i : Int) : Int × Nt := (D.there i, if D.there i = 0 then D.less 0 i.toNat else D)
def Nt.boxed (D : Nt) (k : Pk) : Nt := if (D.row (k.to.toNat + 1)).length < 32 then D.more (k.to.toNat + 1) k else D
def Nt.deliver (D : Nt) (i : Int) : Int × Nt := (D.there i, if D.there i = 0 then (D.less 0 i.toNat).boxed (D.nth 0 i.toNat) else D)
def Nt.double (D : Nt) (i : Int) : Int × Nt := if D.there i = 0 then (if 256 ≤ (D.row 0).length then (3, D) else (0, D.more 0 (D.nth 0 i.toNat))) else (D.there i, D)
def Nt.delay (D : Nt) (i : Int) : Int × Nt := (D.there i, if D.there i = 0 then (D.less 0 i.toNat).more 0 (D.nth 0 i.toNat) else D)
def Nt.receive (D : Nt) (to : Int) : Option Pk × Nt := if D.waits to = 0 then (none, D) else (some (D.nth (to.toNat + 1) 0), D.less (to.toNat + 1) 0)
def Nt.clear (D : Nt) (to : Int) : Nt := if D.is to = true then D.set (to.toNat + 1) [] else D

theorem Nt.there_in {D : Nt} {i : Int} (h : D.there i = 0) : ∃ z : Nat, i = (z : Int) ∧ z < (D.row 0).length := by
  unfold Nt.there at h
  split at h
  · exact absurd h (by decide)
  · exact ⟨i.toNat, by omega, by omega⟩
theorem Nt.there_out {D : Nt} {i : Int} (h : D.there i ≠ 0) : D.there i = 5 := by
  unfold Nt.there at h ⊢
  split at h
  · rw [if_pos (by assumption)]
  · exact absurd rfl h

section
variable {w w' : World} {S : Nat → Prop} {nb bb j : Nat} {D : Nt} {L : Nat → List (Nat × Pk)}
/-- The blocks of a net that may have grown since memory had B blocks. -/
def Sm (S : Nat → Prop) (B : Nat) : Nat → Prop := fun b => S b ∨ B ≤ b
theorem NetIn.put (h : NetIn w S nb bb D L) (hj : j ≤ D.n) {B : Nat} (hB : B ≤ w.heap.size) (k : Pk) (A : Option Addr) (cap : Nat) (hb : Bytes w (Sm S B) A k.b) (hok : (D.more j k).OK) :
    Calls Try.prog 30 #[.pointer (some ⟨pb nb bb j, po j, none⟩), .agg #[.int .i64 k.src, .int .i64 k.to, .slice A k.b.length cap]] w fun e w' => e = .returned (.tuple #[]) ∧ NetAt w' (fun b => Sm S B b ∧ b < w'.heap.size) nb (D.more j k) ∧ OffU S w w' := by
  obtain ⟨t, ht, hu, hn⟩ := h.tpb j
  obtain ⟨hr, hrow⟩ := h.rows j hj
  have hlen : (L j).length < 1000000 := by
    rw [show (L j).length = (D.row j).length by rw [hrow, List.length_map]]
    cases j with
    | zero => have := h.ok.way; omega
    | succ j => have := h.ok.box j hj; omega
  refine (put_at (Sm S B) _ _ _ k t A cap w (hr.mono (fun b _ hs => .inl hs)) ht hu hn (fun b hb => .inr (Nat.le_trans hB hb)) hb hlen).mono ?_
  rintro e w' ⟨rfl, g, hg, hrow', hoff⟩
  have hglt : g < w'.heap.size := (hrow'.chain.link (g, k) (by simp)).1.lt
  refine ⟨rfl, ⟨bb, _, h.turn (S' := fun b => Sm S B b ∧ b < w'.heap.size) (D' := D.more j k) hj (fun b hb hs => ⟨.inl hs, Nat.lt_of_lt_of_le hb hoff.size⟩) (fun b hb => hb.2) (hrow'.mono (fun b hb hs => ⟨hs, hb⟩)) hoff (fun b hb => ?_) ?_ hok⟩, (OffU.cells hoff (h.noU8 hj)).mono ?_⟩
  · rw [List.map_append] at hb
    rcases List.mem_append.1 hb with hb | hb
    · exact .inl hb
    · simp at hb; subst hb; exact .inr hg
  · rw [List.map_append, ← hrow]
    rfl
  · rintro b hb ⟨o, ⟨rfl, _⟩ | ⟨hm, _⟩⟩
    · exact h.spb j
    · exact (h.link hj b hm).2
theorem NetIn.take (h : NetIn w S nb bb D L) (hj : j ≤ D.n) (i : Nat) (hi : i < (D.row j).length) :
    Calls Try.prog 33 #[.pointer (some ⟨pb nb bb j, po j, none⟩), .int .i64 (i : Int)] w fun e w' => ∃ A cap, e = .returned (.agg #[.int .i64 (D.nth j i).src, .int .i64 (D.nth j i).to, .slice A (D.nth j i).b.length cap]) ∧ Bytes w' S A (D.nth j i).b ∧ (∃ L', NetIn w' S nb bb (D.less j i) L') ∧ OffU S w w' := by
  obtain ⟨t, ht, hu, hn⟩ := h.tpb j
  obtain ⟨hr, hrow⟩ := h.rows j hj
  have hget := Nt.nth_get hi
  obtain ⟨g, hg⟩ : ∃ g, (L j)[i]? = some (g, D.nth j i) := by
    rw [hrow, List.getElem?_map] at hget
    rcases e : (L j)[i]? with _ | p
    · rw [e] at hget; simp at hget
    · rw [e] at hget
      simp at hget
      exact ⟨p.1, by rw [← hget]⟩
  refine (take_at S _ _ i g (L j) (D.nth j i) t w hr ht hu hn hg).mono ?_
  rintro e w' ⟨A, cap, rfl, hby, hrow', hoff⟩
  refine ⟨A, cap, rfl, hby, ⟨_, h.turn (S' := S) (D' := D.less j i) hj (fun b hb hs => hs) (fun b hb => Nat.lt_of_lt_of_le (h.lt b hb) hoff.size) hrow' hoff (fun b hb => .inl ?_) ?_ (h.ok.less j i)⟩, (OffU.cells hoff (h.noU8 hj)).mono ?_⟩
  · obtain ⟨p, hp, rfl⟩ := List.mem_map.1 hb
    exact List.mem_map.2 ⟨p, List.mem_of_mem_eraseIdx hp, rfl⟩
  · rw [List.eraseIdx_eq_take_drop_succ, List.map_append, List.map_take, List.map_drop, ← hrow, ← List.eraseIdx_eq_take_drop_succ]
    rfl
  · rintro b hb ⟨o, ⟨rfl, _⟩ | ⟨hm, _⟩⟩
    · exact h.spb j
    · exact (h.link hj b hm).2
theorem Turn.keep (h : NetAt w S nb D) : Turn S S w w := ⟨OffU.refl _ _, fun _ hb => .inl hb, h.lt⟩
theorem Turn.same (h : NetAt w' S nb D) (ho : OffU S w w') : Turn S S w w' := ⟨ho, fun _ hb => .inl hb, h.lt⟩
theorem drew_grown (w : World) (row : Option Nat) : w.grownBy w.drew row := ⟨rfl, rfl, rfl, Nat.le_refl _, fun _ _ _ => rfl⟩
end
end Go.Proofs.Ytonfpifikblnjaa.Net
