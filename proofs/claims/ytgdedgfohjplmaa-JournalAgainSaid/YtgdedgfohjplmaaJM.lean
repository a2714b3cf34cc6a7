/- The journal: what a disk and a journal have in common, whatever is written. No program in sight. -/
import Derived.Test.YtgdedgfohjplmaaJL
import Derived.Test.YtgdedgfohjplmaaJI
namespace Go.Proofs.Ytgdedgfohjplmaa.Jnl
open Go.RowKit Go.Maps Sec

/-- The records that stand from 'used' on, as far as u. -/
inductive Recp (now : Nat → List UInt8) (base half op first : Nat) : Nat → Nat → Nat → List (List UInt8) → Nat → Prop
  | nil {used n last : Nat} : Recp now base half op first used n last [] used
  | step {used n last s M u : Nat} {f : Nat → List UInt8} {ls : List (List UInt8)} (h : Wy now base half used 82 (first + n) s M f) (h1 : last ≤ s) (h2 : s ≤ op) (r : Recp now base half op first (used + M) (n + 1) s ls u) : Recp now base half op first used n last (joined f M :: ls) u
section
variable {now now' : Nat → List UInt8} {base half op first used n last u : Nat} {ls : List (List UInt8)}
theorem Recp.le (h : Recp now base half op first used n last ls u) : used ≤ u := by
  induction h with
  | nil => exact Nat.le_refl _
  | step h h1 h2 r ih => omega
theorem Recp.room (h : Recp now base half op first used n last ls u) (hu : used ≤ half - 1) : u ≤ half - 1 := by
  induction h with
  | nil => exact hu
  | step h h1 h2 r ih => exact ih h.room
theorem Wy.frame {c : UInt8} {k s M : Nat} {f : Nat → List UInt8} (h : Wy now base half used c k s M f) (he : ∀ x, used ≤ x → x < used + M → now' (base + 1 + x) = now (base + 1 + x)) : Wy now' base half used c k s M f :=
  ⟨h.one, fun i hi => by
    have := he (used + i) (by omega) (by omega)
    rw [show base + 1 + used + i = base + 1 + (used + i) by omega, this, show base + 1 + (used + i) = base + 1 + used + i by omega]
    exact h.run i hi, h.room⟩
theorem Wn.frame {c : UInt8} {k : Nat} (h : Wn now base half used c k) (he : ∀ x, x < half - 1 → now' (base + 1 + x) = now (base + 1 + x)) : Wn now' base half used c k := by
  obtain ⟨s, M, q, f, h1, h2, h3, h4⟩ := h
  refine ⟨s, M, q, f, fun i hi => ?_, h2, h3, ?_⟩
  · rw [show base + 1 + used + i = base + 1 + (used + i) by omega, he _ (by omega), show base + 1 + (used + i) = base + 1 + used + i by omega]
    exact h1 i hi
  · rcases h4 with h4 | h4
    · exact .inl h4
    · by_cases h5 : half - 1 ≤ used + q
      · exact .inl h5
      · refine .inr ?_
        rw [show base + 1 + used + q = base + 1 + (used + q) by omega, he _ (by omega), show base + 1 + (used + q) = base + 1 + used + q by omega]
        exact h4
theorem Recp.frame (h : Recp now base half op first used n last ls u) (he : ∀ x, used ≤ x → x < u → now' (base + 1 + x) = now (base + 1 + x)) : Recp now' base half op first used n last ls u := by
  induction h with
  | nil => exact .nil
  | step h h1 h2 r ih =>
    have := r.le
    have := h.one
    exact .step (h.frame (fun x a b => he x a (by omega))) h1 h2 (ih (fun x a b => he x (by omega) b))
theorem Recp.mono {op' : Nat} (h : Recp now base half op first used n last ls u) (ho : op ≤ op') : Recp now base half op' first used n last ls u := by
  induction h with
  | nil => exact .nil
  | step h h1 h2 r ih => exact .step h h1 (by omega) ih
theorem Recp.snoc {M : Nat} {f : Nat → List UInt8} (h : Recp now base half op first used n last ls u) (hl : last ≤ op) (hw : Wy now base half u 82 (first + (n + ls.length)) op M f) : Recp now base half op first used n last (ls ++ [joined f M]) (u + M) := by
  induction h with
  | nil => exact .step hw hl (Nat.le_refl _) .nil
  | step h h1 h2 r ih =>
    refine .step h h1 h2 (ih h2 ?_)
    rw [List.length_cons] at hw
    rw [show ∀ a b : Nat, a + 1 + b = a + (b + 1) by intros; omega]
    exact hw
theorem Recp.recs (h : Recp now base half op first used n last ls u) (hw : Wn now base half u 82 (first + (n + ls.length))) : Recs now base half op first used n last ls u := by
  induction h with
  | nil => exact .stop (.inl hw)
  | step h h1 h2 r ih =>
    refine .step h h1 h2 (ih ?_)
    rw [List.length_cons] at hw
    rw [show ∀ a b : Nat, a + 1 + b = a + (b + 1) by intros; omega]
    exact hw
end
/-- A sector of a room: no part, or a part; a record's part has a number below N, or N itself and a stamp below o. -/
def Sec2 (b : List UInt8) (N o : Nat) : Prop := NoPart b ∨ ∃ (c : UInt8) (s k i n : Nat) (l : List UInt8), IsPart b c s k i n l ∧ (c = 82 → k < N ∨ (k = N ∧ s < o))
theorem Sec2.mono {b : List UInt8} {N o N' o' : Nat} (h : Sec2 b N o) (hN : N < N' ∨ (N = N' ∧ o ≤ o')) : Sec2 b N' o' := by
  rcases h with h | ⟨c, s, k, i, n, l, h1, h2⟩
  · exact .inl h
  · refine .inr ⟨c, s, k, i, n, l, h1, fun hc => ?_⟩
    rcases h2 hc with h | ⟨h, h3⟩
    · exact .inl (by omega)
    · rcases hN with hN | ⟨hN, hO⟩
      · exact .inl (by omega)
      · exact .inr ⟨by omega, by omega⟩
theorem Sec2.noughts (N o : Nat) : Sec2 noughts N o := .inl ⟨0, rfl, by decide, by decide⟩
theorem Sec2.ends {b : List UInt8} {N o s M : Nat} (h : Sec2 b N o) {k q : Nat} (hk : N < k ∨ (N = k ∧ (o = 0 ∨ (0 < q ∧ o ≤ s)))) : Ends b 82 s k M q := by
  rcases h with h | ⟨c, s', k', i, n, l, h1, h2⟩
  · exact .inl h
  · refine .inr ⟨c, s', k', i, n, l, h1, ?_⟩
    by_cases hc : c = 82
    · rcases h2 hc with h3 | ⟨h3, h4⟩
      · exact .inr (.inl (by omega))
      · rcases hk with hk | ⟨hk, h5 | ⟨h5, h6⟩⟩
        · exact .inr (.inl (by omega))
        · omega
        · exact .inr (.inr (.inr ⟨h5, .inl (by omega)⟩))
    · exact .inl hc
/-- A disk and the journal that Open finds on it. -/
structure Fit (D : Dsk) (J : Jn) (o K : Nat) : Prop where
  off : D.off = false
  armed : D.armed = none
  n8 : 8 ≤ D.n
  n16 : D.n ≤ 16384
  area : J.area ≤ 1
  head : D.now (J.area * (D.n / 2)) = headB J.gen J.op J.first J.size
  gen : 1 ≤ J.gen ∧ J.gen ≤ K
  op : 1 ≤ J.op ∧ J.op ≤ K
  first : 1 ≤ J.first ∧ J.first + J.recs.length ≤ K
  size : J.size ≤ 1048576
  st : ∃ M fs, Wy D.now (J.area * (D.n / 2)) (D.n / 2) 0 67 0 J.gen M fs ∧ joined fs M = J.st ∧ J.st.length = J.size ∧ Recp D.now (J.area * (D.n / 2)) (D.n / 2) J.op J.first M 0 0 J.recs J.used
  wn : Wn D.now (J.area * (D.n / 2)) (D.n / 2) J.used 82 (J.first + J.recs.length)
  own : ∀ x, x < D.n / 2 - 1 → Sec2 (D.now (J.area * (D.n / 2) + 1 + x)) (J.first + J.recs.length) o
  oth : ∀ x, x < D.n / 2 - 1 → Sec2 (D.now ((1 - J.area) * (D.n / 2) + 1 + x)) (J.first + J.recs.length) 0
  hd2 : D.now ((1 - J.area) * (D.n / 2)) = noughts ∨ ∃ g o f n, D.now ((1 - J.area) * (D.n / 2)) = headB g o f n ∧ (1 ≤ g ∧ g < J.gen) ∧ (1 ≤ o ∧ o ≤ K) ∧ (1 ≤ f ∧ f ≤ K) ∧ n ≤ 1048576
theorem Fit.used {D : Dsk} {J : Jn} {o K : Nat} (h : Fit D J o K) : J.used ≤ D.n / 2 - 1 := by
  obtain ⟨M, fs, h1, _, _, h2⟩ := h.st
  exact h2.room (by have := h1.room; omega)
theorem Fit.less {D : Dsk} {J : Jn} {o o' K K' : Nat} (h : Fit D J o K) (ho : o ≤ o') (hK : K ≤ K') : Fit D J o' K' :=
  { h with
    gen := ⟨h.gen.1, by have := h.gen.2; omega⟩
    op := ⟨h.op.1, by have := h.op.2; omega⟩
    first := ⟨h.first.1, by have := h.first.2; omega⟩
    own := fun x hx => (h.own x hx).mono (.inr ⟨rfl, ho⟩)
    hd2 := by
      rcases h.hd2 with h2 | ⟨g, o, f, n, h1, h2, h3, h4, h5⟩
      · exact .inl h2
      · exact .inr ⟨g, o, f, n, h1, h2, ⟨h3.1, by omega⟩, ⟨h4.1, by omega⟩, h5⟩ }
theorem Fit.same {D D' : Dsk} {J : Jn} {o K : Nat} (h : Fit D J o K) (hn : D'.n = D.n) (hw : D'.now = D.now) (ho : D'.off = false) (ha : D'.armed = none) : Fit D' J o K := by
  obtain ⟨_, _, h3, h4, h5, h6, h7, h8, h9, h10, h11, h12, h13, h14, h15⟩ := h
  rw [← hn] at h3 h4 h6 h11 h12 h13 h14 h15
  rw [← hw] at h6 h11 h12 h13 h14 h15
  exact ⟨ho, ha, h3, h4, h5, h6, h7, h8, h9, h10, h11, h12, h13, h14, h15⟩
theorem Fit.bears {D : Dsk} {J : Jn} {o K : Nat} (h : Fit D J o K) (hK : K ≤ 1000000) : Bears D J := by
  obtain ⟨M, fs, h1, h2, h3, h4⟩ := h.st
  exact ⟨h.area, h.head, ⟨h.gen.1, by have := h.gen.2; omega⟩, ⟨h.op.1, by have := h.op.2; omega⟩, ⟨h.first.1, by have := h.first.2; omega⟩, h.size, M, fs, h1, h2, h3, h4.recs (by rw [Nat.zero_add]; exact h.wn)⟩
/-- Places of the two areas. -/
theorem place {a b h y z : Nat} (ha : a ≤ 1) (hb : b ≤ 1) (hy : y < h) (hz : z < h) (e : a * h + y = b * h + z) : a = b ∧ y = z := by
  obtain rfl | rfl : a = 0 ∨ a = 1 := by omega
  · obtain rfl | rfl : b = 0 ∨ b = 1 := by omega
    · omega
    · omega
  · obtain rfl | rfl : b = 0 ∨ b = 1 := by omega
    · omega
    · omega
theorem push_now (D : Dsk) (p : Nat) (l : List UInt8) (y : Nat) : (D.push p l).now y = if y = p then l else D.now y := rfl
theorem pushes_now (D : Dsk) (base : Nat) (f : Nat → List UInt8) (M y : Nat) : (pushes D base f (upto M)).now y = if base ≤ y ∧ y < base + M then f (y - base) else D.now y := by
  induction M with
  | zero => rw [if_neg (by omega)]; rfl
  | succ M ih =>
    rw [upto_succ, pushes_snoc, push_now]
    by_cases h : y = base + M
    · rw [if_pos h, if_pos (by omega), h, Nat.add_sub_cancel_left]
    · rw [if_neg h, ih]
      by_cases h2 : base ≤ y ∧ y < base + M
      · rw [if_pos h2, if_pos (by omega)]
      · rw [if_neg h2, if_neg (by omega)]
end Go.Proofs.Ytgdedgfohjplmaa.Jnl

/- The journal: what stays of the tie of disk and journal when it is opened, written to, cut. No program in sight. -/
namespace Go.Proofs.Ytgdedgfohjplmaa.Jnl
open Go.RowKit Go.Maps Sec

/-- It is opened. -/
theorem Fit.reopen {D : Dsk} {J : Jn} {o K : Nat} (h : Fit D J o K) : Fit (D.push (J.area * (D.n / 2)) (headB J.gen (J.op + 1) J.first J.size)) { J with op := J.op + 1 } o (K + 1) := by
  obtain ⟨p, hp⟩ : ∃ p, p = D.n / 2 := ⟨_, rfl⟩
  have h8 := h.n8
  have ha := h.area
  have room : ∀ b, b ≤ 1 → ∀ x, x < p - 1 → (D.push (J.area * p) (headB J.gen (J.op + 1) J.first J.size)).now (b * p + 1 + x) = D.now (b * p + 1 + x) := fun b hb x hx => by
    rw [push_now, if_neg]
    intro e
    have := place (h := p) (y := 1 + x) (z := 0) hb ha (by omega) (by omega) (by omega)
    omega
  have hoth : (D.push (J.area * p) (headB J.gen (J.op + 1) J.first J.size)).now ((1 - J.area) * p) = D.now ((1 - J.area) * p) := by
    rw [push_now, if_neg]
    intro e
    have := place (h := p) (y := 0) (z := 0) (a := 1 - J.area) (b := J.area) (by omega) ha (by omega) (by omega) (by omega)
    omega
  obtain ⟨M, fs, h1, h2, h3, h4⟩ := h.st
  have h15 := h.hd2
  have h11 := h.wn
  have h12 := h.own
  have h13 := h.oth
  have hu := h.used
  rw [← hp] at h1 h4 h11 h12 h13 h15 hu ⊢
  refine ⟨h.off, h.armed, h.n8, h.n16, h.area, ?_, ⟨h.gen.1, by have := h.gen.2; show J.gen ≤ K + 1; omega⟩, ⟨by show 1 ≤ J.op + 1; omega, by have := h.op.2; show J.op + 1 ≤ K + 1; omega⟩, ⟨h.first.1, by have := h.first.2; show J.first + J.recs.length ≤ K + 1; omega⟩, h.size, ⟨M, fs, ?_, h2, h3, ?_⟩, ?_, ?_, ?_, ?_⟩ <;> show _ <;> (try rw [show (D.push (J.area * p) (headB J.gen (J.op + 1) J.first J.size)).n = D.n from rfl, ← hp])
  · show (D.push (J.area * p) _).now (J.area * p) = _
    rw [push_now, if_pos rfl]
  · exact h1.frame (fun x _ hx => room _ ha x (by have := h1.room; omega))
  · exact (h4.mono (by show J.op ≤ J.op + 1; omega)).frame (fun x _ hx => room _ ha x (by omega))
  · exact h11.frame (fun x hx => room _ ha x hx)
  · intro x hx
    show Sec2 ((D.push _ _).now (J.area * p + 1 + x)) _ _
    rw [room _ ha x hx]
    exact h12 x hx
  · intro x hx
    show Sec2 ((D.push _ _).now ((1 - J.area) * p + 1 + x)) _ _
    rw [room _ (by omega) x hx]
    exact h13 x hx
  · show (D.push _ _).now ((1 - J.area) * p) = _ ∨ ∃ g o f n, (D.push _ _).now ((1 - J.area) * p) = _ ∧ _
    rw [hoth]
    rcases h15 with h2 | ⟨g, o, f, n, h1, h2, h3, h4, h5⟩
    · exact .inl h2
    · exact .inr ⟨g, o, f, n, h1, h2, ⟨h3.1, by omega⟩, ⟨h4.1, by omega⟩, h5⟩
theorem parts_full {n i : Nat} (h : i < parts n) : (i + 1) * 102 ≤ n ∨ i + 1 = parts n := by unfold parts at *; omega
theorem parts_all (n : Nat) : n ≤ parts n * 102 := by unfold parts; omega
theorem parts_small {n : Nat} (h : n ≤ 1048576) : parts n < 65536 := by unfold parts; omega
theorem part_is {c : UInt8} {s k i : Nat} {l : List UInt8} (hc : c = 67 ∨ c = 82) (hs : s < 9223372036854775808) (hk : k < 9223372036854775808) (hl : l.length ≤ 1048576) (hi : i < parts l.length) : IsPart (partB c s k i (parts l.length) (chunk l i)) c s k i (parts l.length) (chunk l i) := by
  refine ⟨rfl, hc, hs, hk, hi, parts_small hl, chunk_le l i, ?_⟩
  rcases parts_full hi with h | h
  · refine .inl ?_
    rw [chunk_length]
    omega
  · exact .inr h
theorem joined_chunk (l : List UInt8) (t : Nat) : joined (chunk l) t = l.take (t * 102) := by
  induction t with
  | zero => simp [joined]
  | succ t ih =>
    rw [joined_succ, ih, Nat.succ_mul, List.take_add]
    rfl
theorem joined_parts (l : List UInt8) : joined (chunk l) (parts l.length) = l := by
  rw [joined_chunk]
  exact List.take_of_length_le (parts_all _)
/-- Where a row of sectors in one area is seen. -/
theorem pushes_at (D : Dsk) {a used q p : Nat} (f : Nat → List UInt8) (ha : a ≤ 1) (hp : 1 ≤ p) (hr : used + q ≤ p - 1) :
    (∀ x, (pushes D (a * p + (1 + used)) f (upto q)).now (a * p + 1 + x) = if used ≤ x ∧ x < used + q then f (x - used) else D.now (a * p + 1 + x)) ∧ (∀ y, y < p → (pushes D (a * p + (1 + used)) f (upto q)).now ((1 - a) * p + y) = D.now ((1 - a) * p + y)) ∧ (pushes D (a * p + (1 + used)) f (upto q)).now (a * p) = D.now (a * p) := by
  refine ⟨fun x => ?_, fun y hy => ?_, ?_⟩
  · rw [pushes_now]
    by_cases h : used ≤ x ∧ x < used + q
    · rw [if_pos h, if_pos (by omega)]
      congr 1
      omega
    · rw [if_neg h, if_neg (by omega)]
  · rw [pushes_now, if_neg]
    rintro ⟨h1, h2⟩
    have := place (a := 1 - a) (b := a) (h := p) (y := y) (z := 1 + used + ((1 - a) * p + y - (a * p + (1 + used)))) (by omega) ha hy (by omega) (by omega)
    omega
  · rw [pushes_now, if_neg]
    omega
/-- A record is written. -/
theorem Fit.app {D : Dsk} {J : Jn} {o K : Nat} {l : List UInt8} (h : Fit D J o K) (hK : K ≤ 1000000) (hl : l.length ≤ 1048576) (hr : parts l.length ≤ D.n / 2 - 1 - J.used) : Fit (appD D J l) (J.app l) 0 (K + 1) := by
  obtain ⟨p, hp⟩ : ∃ p, p = D.n / 2 := ⟨_, rfl⟩
  have h8 := h.n8
  have ha := h.area
  have hu := h.used
  have hf := h.first
  have hop := h.op
  have hn : (appD D J l).n = D.n ∧ (appD D J l).off = D.off ∧ (appD D J l).armed = D.armed := ⟨(pushes_n ..).1, (pushes_n ..).2.1, (pushes_n ..).2.2.1⟩
  obtain ⟨hin, hout, hhd⟩ := pushes_at D (a := J.area) (used := J.used) (q := parts l.length) (p := p) (fun i => partB 82 J.op (J.first + J.recs.length) i (parts l.length) (chunk l i)) ha (by omega) (by omega)
  have e : appD D J l = pushes D (J.area * p + (1 + J.used)) (fun i => partB 82 J.op (J.first + J.recs.length) i (parts l.length) (chunk l i)) (upto (parts l.length)) := by rw [hp]; rfl
  rw [← e] at hin hout hhd
  obtain ⟨M, fs, h1, h2, h3, h4⟩ := h.st
  have h6 := h.head
  have h15 := h.hd2
  have h12 := h.own
  have h13 := h.oth
  rw [← hp] at h1 h4 h6 h12 h13 h15 hu hr
  have part : ∀ i, i < parts l.length → IsPart (partB 82 J.op (J.first + J.recs.length) i (parts l.length) (chunk l i)) 82 J.op (J.first + J.recs.length) i (parts l.length) (chunk l i) := fun i hi => part_is (.inr rfl) (by omega) (by omega) hl hi
  have hlen : (J.app l).recs.length = J.recs.length + 1 := by simp [Jn.app]
  have own' : ∀ x, x < p - 1 → Sec2 ((appD D J l).now (J.area * p + 1 + x)) (J.first + (J.recs.length + 1)) 0 := fun x hx => by
    rw [hin]
    by_cases hx2 : J.used ≤ x ∧ x < J.used + parts l.length
    · rw [if_pos hx2]
      exact .inr ⟨82, _, _, _, _, _, part _ (by omega), fun _ => .inl (by omega)⟩
    · rw [if_neg hx2]
      exact (h12 x hx).mono (.inl (by omega))
  have hM : J.used + parts l.length ≤ p - 1 := by omega
  refine ⟨hn.2.1.trans h.off, hn.2.2.trans h.armed, by rw [hn.1]; exact h8, by rw [hn.1]; exact h.n16, ha, ?_, ⟨h.gen.1, by have := h.gen.2; show J.gen ≤ K + 1; omega⟩, ⟨hop.1, by show J.op ≤ K + 1; omega⟩, ⟨hf.1, by rw [hlen]; show J.first + _ ≤ _; omega⟩, h.size, ⟨M, fs, ?_, h2, h3, ?_⟩, ?_, ?_, ?_, ?_⟩ <;> (try rw [hn.1, ← hp]) <;> (try rw [hlen])
  · exact hhd.trans h6
  · have hle := h4.le
    exact h1.frame (fun x _ hx => by
      show (appD D J l).now (J.area * p + 1 + x) = _
      rw [hin, if_neg (by omega)])
  · have hle := h4.le
    have h5 : Recp (appD D J l).now (J.area * p) p J.op J.first M 0 0 J.recs J.used := h4.frame (fun x _ hx => by
      rw [hin, if_neg (by omega)])
    have h7 := h5.snoc (M := parts l.length) (f := chunk l) (Nat.zero_le _) ⟨parts_one _, fun i hi => by
      have := hin (J.used + i)
      rw [show J.area * p + 1 + J.used + i = J.area * p + 1 + (J.used + i) by omega, this, if_pos (by omega), Nat.add_sub_cancel_left, Nat.zero_add]
      exact part i hi, hM⟩
    rw [joined_parts] at h7
    exact h7
  · refine ⟨0, 1, 0, fun _ => [], fun i hi => by omega, by decide, hM, ?_⟩
    by_cases hend : p - 1 ≤ J.used + parts l.length
    · exact .inl hend
    · refine .inr ?_
      show Ends ((appD D J l).now (J.area * p + 1 + (J.used + parts l.length) + 0)) _ _ _ _ _
      exact (own' (J.used + parts l.length) (by omega)).ends (.inr ⟨rfl, .inl rfl⟩)
  · exact own'
  · intro x hx
    show Sec2 ((appD D J l).now ((1 - J.area) * p + 1 + x)) _ _
    rw [show (1 - J.area) * p + 1 + x = (1 - J.area) * p + (1 + x) by omega, hout _ (by omega), show (1 - J.area) * p + (1 + x) = (1 - J.area) * p + 1 + x by omega]
    exact (h13 x hx).mono (.inl (by show J.first + J.recs.length < J.first + (J.recs.length + 1); omega))
  · show (appD D J l).now ((1 - J.area) * p) = _ ∨ ∃ g o f n, (appD D J l).now ((1 - J.area) * p) = _ ∧ _
    have := hout 0 (by omega)
    rw [Nat.add_zero] at this
    rw [this]
    rcases h15 with h2 | ⟨g, o, f, n, h1, h2, h3, h4, h5⟩
    · exact .inl h2
    · exact .inr ⟨g, o, f, n, h1, h2, ⟨h3.1, by omega⟩, ⟨h4.1, by omega⟩, h5⟩
/-- A record is cut amid its sectors. -/
theorem Fit.app_cut {D C : Dsk} {J : Jn} {o K q : Nat} {l : List UInt8} (h : Fit D J o K) (hK : K ≤ 1000000) (ho : o ≤ J.op) (hl : l.length ≤ 1048576) (hr : parts l.length ≤ D.n / 2 - 1 - J.used) (hq : q < parts l.length) (hn : C.n = D.n) (hoff : C.off = false) (harm : C.armed = none)
    (hnow : C.now = (pushes D (J.area * (D.n / 2) + (1 + J.used)) (fun i => partB 82 J.op (J.first + J.recs.length) i (parts l.length) (chunk l i)) (upto q)).now) : Fit C J (J.op + 1) K := by
  obtain ⟨p, hp⟩ : ∃ p, p = D.n / 2 := ⟨_, rfl⟩
  have h8 := h.n8
  have ha := h.area
  have hu := h.used
  have hf := h.first
  have hop := h.op
  obtain ⟨hin, hout, hhd⟩ := pushes_at D (a := J.area) (used := J.used) (q := q) (p := p) (fun i => partB 82 J.op (J.first + J.recs.length) i (parts l.length) (chunk l i)) ha (by omega) (by omega)
  rw [← hp] at hnow
  rw [← hnow] at hin hout hhd
  obtain ⟨M, fs, h1, h2, h3, h4⟩ := h.st
  have h6 := h.head
  have h15 := h.hd2
  have h12 := h.own
  have h13 := h.oth
  have h11 := h.wn
  rw [← hp] at h1 h4 h6 h11 h12 h13 h15 hu hr
  have part : ∀ i, i < parts l.length → IsPart (partB 82 J.op (J.first + J.recs.length) i (parts l.length) (chunk l i)) 82 J.op (J.first + J.recs.length) i (parts l.length) (chunk l i) := fun i hi => part_is (.inr rfl) (by omega) (by omega) hl hi
  have own' : ∀ x, x < p - 1 → Sec2 (C.now (J.area * p + 1 + x)) (J.first + J.recs.length) (J.op + 1) := fun x hx => by
    rw [hin]
    by_cases hx2 : J.used ≤ x ∧ x < J.used + q
    · rw [if_pos hx2]
      exact .inr ⟨82, _, _, _, _, _, part _ (by omega), fun _ => .inr ⟨rfl, by omega⟩⟩
    · rw [if_neg hx2]
      exact (h12 x hx).mono (.inr ⟨rfl, by omega⟩)
  refine ⟨hoff, harm, by rw [hn]; exact h8, by rw [hn]; exact h.n16, ha, ?_, h.gen, hop, hf, h.size, ⟨M, fs, ?_, h2, h3, ?_⟩, ?_, ?_, ?_, ?_⟩ <;> (try rw [hn, ← hp])
  · exact hhd.trans h6
  · have hle := h4.le
    exact h1.frame (fun x _ hx => by rw [hin, if_neg (by omega)])
  · exact h4.frame (fun x _ hx => by rw [hin, if_neg (by omega)])
  · by_cases hq0 : q = 0
    · refine h11.frame (fun x hx => ?_)
      rw [hin, if_neg (by omega)]
    · refine ⟨J.op, parts l.length, q, chunk l, fun i hi => ?_, hq, by omega, .inr ?_⟩
      · rw [show J.area * p + 1 + J.used + i = J.area * p + 1 + (J.used + i) by omega, hin, if_pos (by omega), Nat.add_sub_cancel_left]
        exact part i (by omega)
      · rw [show J.area * p + 1 + J.used + q = J.area * p + 1 + (J.used + q) by omega, hin, if_neg (by omega)]
        exact (h12 (J.used + q) (by omega)).ends (.inr ⟨rfl, .inr ⟨by omega, ho⟩⟩)
  · exact own'
  · intro x hx
    rw [show (1 - J.area) * p + 1 + x = (1 - J.area) * p + (1 + x) by omega, hout _ (by omega), show (1 - J.area) * p + (1 + x) = (1 - J.area) * p + 1 + x by omega]
    exact h13 x hx
  · have := hout 0 (by omega)
    rw [Nat.add_zero] at this
    rw [this]
    exact h15
/-- A state is written. -/
theorem Fit.ck {D : Dsk} {J : Jn} {K : Nat} {l : List UInt8} (h : Fit D J 0 K) (hK : K ≤ 1000000) (hl : l.length ≤ 1048576) (hr : parts l.length ≤ D.n / 2 - 1) : Fit (ckD D J l) (J.ck l) 0 (K + 1) := by
  obtain ⟨p, hp⟩ : ∃ p, p = D.n / 2 := ⟨_, rfl⟩
  have h8 := h.n8
  have ha := h.area
  have hf := h.first
  have hop := h.op
  have hg := h.gen
  have hn : (ckD D J l).n = D.n ∧ (ckD D J l).off = D.off ∧ (ckD D J l).armed = D.armed := ⟨(ckP_n D J l).1, (ckP_n D J l).2.1, (ckP_n D J l).2.2.1⟩
  obtain ⟨hin, hout, hhd⟩ := pushes_at D (a := 1 - J.area) (used := 0) (q := parts l.length) (p := p) (fun i => partB 67 (J.gen + 1) 0 i (parts l.length) (chunk l i)) (by omega) (by omega) (by omega)
  have e : ckP D J l = pushes D ((1 - J.area) * p + (1 + 0)) (fun i => partB 67 (J.gen + 1) 0 i (parts l.length) (chunk l i)) (upto (parts l.length)) := by rw [hp]; rfl
  have ec : ∀ y, (ckD D J l).now y = if y = (1 - J.area) * p then headB (J.gen + 1) J.op (J.first + J.recs.length) l.length else (ckP D J l).now y := fun y => by rw [hp]; rfl
  have e1 : 1 - (1 - J.area) = J.area := by omega
  rw [← e, e1] at hout
  rw [← e] at hin
  have hin' : ∀ x, x < p - 1 → (ckD D J l).now ((1 - J.area) * p + 1 + x) = if x < parts l.length then partB 67 (J.gen + 1) 0 x (parts l.length) (chunk l x) else D.now ((1 - J.area) * p + 1 + x) := fun x hx => by
    rw [ec, if_neg (by omega), hin]
    by_cases hx2 : x < parts l.length
    · rw [if_pos hx2, if_pos (by omega)]; rfl
    · rw [if_neg hx2, if_neg (by omega)]
  have hout' : ∀ y, y < p → (ckD D J l).now (J.area * p + y) = D.now (J.area * p + y) := fun y hy => by
    rw [ec, if_neg, hout y hy]
    intro e2
    have := place (a := J.area) (b := 1 - J.area) (h := p) (y := y) (z := 0) ha (by omega) hy (by omega) (by omega)
    omega
  have h6 := h.head
  have h12 := h.own
  have h13 := h.oth
  rw [← hp] at h6 h12 h13 hr
  have part : ∀ i, i < parts l.length → IsPart (partB 67 (J.gen + 1) 0 i (parts l.length) (chunk l i)) 67 (J.gen + 1) 0 i (parts l.length) (chunk l i) := fun i hi => part_is (.inl rfl) (by omega) (by omega) hl hi
  have own' : ∀ x, x < p - 1 → Sec2 ((ckD D J l).now ((1 - J.area) * p + 1 + x)) (J.first + J.recs.length) 0 := fun x hx => by
    rw [hin' x hx]
    by_cases hx2 : x < parts l.length
    · rw [if_pos hx2]
      exact .inr ⟨67, _, _, _, _, _, part _ hx2, fun h => absurd h (by decide)⟩
    · rw [if_neg hx2]
      exact h13 x hx
  have hone := parts_one l.length
  refine ⟨hn.2.1.trans h.off, hn.2.2.trans h.armed, by rw [hn.1]; exact h8, by rw [hn.1]; exact h.n16, by show 1 - J.area ≤ 1; omega, ?_, ⟨by show 1 ≤ J.gen + 1; omega, by show J.gen + 1 ≤ K + 1; omega⟩, ⟨hop.1, by show J.op ≤ K + 1; omega⟩, ⟨by show 1 ≤ J.first + J.recs.length; omega, by show J.first + J.recs.length + 0 ≤ K + 1; omega⟩, hl, ⟨parts l.length, chunk l, ?_, joined_parts l, rfl, ?_⟩, ?_, ?_, ?_, ?_⟩ <;> (try rw [hn.1, ← hp]) <;> show _
  · show (ckD D J l).now ((1 - J.area) * p) = _
    rw [ec, if_pos rfl]
    rfl
  · refine ⟨hone, fun i hi => ?_, by omega⟩
    show IsPart ((ckD D J l).now ((1 - J.area) * p + 1 + 0 + i)) _ _ _ _ _ _
    rw [Nat.add_zero, hin' i (by omega), if_pos hi]
    exact part i hi
  · exact .nil
  · refine ⟨0, 1, 0, fun _ => [], fun i hi => by omega, by decide, hr, ?_⟩
    by_cases hend : p - 1 ≤ parts l.length
    · exact .inl hend
    · refine .inr ?_
      show Ends ((ckD D J l).now ((1 - J.area) * p + 1 + parts l.length)) _ _ _ _ _
      exact (own' (parts l.length) (by omega)).ends (.inr ⟨rfl, .inl rfl⟩)
  · exact own'
  · intro x hx
    show Sec2 ((ckD D J l).now ((1 - (1 - J.area)) * p + 1 + x)) _ _
    rw [e1, show J.area * p + 1 + x = J.area * p + (1 + x) by omega, hout' _ (by omega), show J.area * p + (1 + x) = J.area * p + 1 + x by omega]
    exact h12 x hx
  · show (ckD D J l).now ((1 - (1 - J.area)) * p) = _ ∨ ∃ g o f n, (ckD D J l).now ((1 - (1 - J.area)) * p) = _ ∧ _
    have := hout' 0 (by omega)
    rw [Nat.add_zero] at this
    rw [e1, this]
    exact .inr ⟨J.gen, J.op, J.first, J.size, h6, ⟨hg.1, by show J.gen < J.gen + 1; omega⟩, ⟨hop.1, by omega⟩, ⟨hf.1, by omega⟩, h.size⟩
/-- A state is cut amid its sectors, ahead of its head. -/
theorem Fit.ck_cut {D C : Dsk} {J : Jn} {o K q : Nat} {l : List UInt8} (h : Fit D J o K) (hK : K ≤ 1000000) (hl : l.length ≤ 1048576) (hr : parts l.length ≤ D.n / 2 - 1) (hq : q ≤ parts l.length) (hn : C.n = D.n) (hoff : C.off = false) (harm : C.armed = none)
    (hnow : C.now = (pushes D ((1 - J.area) * (D.n / 2) + 1) (fun i => partB 67 (J.gen + 1) 0 i (parts l.length) (chunk l i)) (upto q)).now) : Fit C J o K := by
  obtain ⟨p, hp⟩ : ∃ p, p = D.n / 2 := ⟨_, rfl⟩
  have h8 := h.n8
  have ha := h.area
  have hg := h.gen
  obtain ⟨hin, hout, hhd⟩ := pushes_at D (a := 1 - J.area) (used := 0) (q := q) (p := p) (fun i => partB 67 (J.gen + 1) 0 i (parts l.length) (chunk l i)) (by omega) (by omega) (by omega)
  have e1 : 1 - (1 - J.area) = J.area := by omega
  rw [← hp] at hnow
  have hnow' : C.now = (pushes D ((1 - J.area) * p + (1 + 0)) (fun i => partB 67 (J.gen + 1) 0 i (parts l.length) (chunk l i)) (upto q)).now := hnow
  rw [← hnow'] at hin hout hhd
  rw [e1] at hout
  obtain ⟨M, fs, h1, h2, h3, h4⟩ := h.st
  have h6 := h.head
  have h15 := h.hd2
  have h12 := h.own
  have h13 := h.oth
  have h11 := h.wn
  have hu := h.used
  rw [← hp] at h1 h4 h6 h11 h12 h13 h15 hu hr
  have hroom : ∀ x, x < p - 1 → C.now (J.area * p + 1 + x) = D.now (J.area * p + 1 + x) := fun x hx => by
    rw [show J.area * p + 1 + x = J.area * p + (1 + x) by omega, hout _ (by omega)]
  refine ⟨hoff, harm, by rw [hn]; exact h8, by rw [hn]; exact h.n16, ha, ?_, hg, h.op, h.first, h.size, ⟨M, fs, ?_, h2, h3, ?_⟩, ?_, ?_, ?_, ?_⟩ <;> (try rw [hn, ← hp])
  · have := hout 0 (by omega)
    rw [Nat.add_zero] at this
    rw [this]
    exact h6
  · exact h1.frame (fun x _ hx => hroom x (by have := h1.room; omega))
  · exact h4.frame (fun x _ hx => hroom x (by omega))
  · exact h11.frame hroom
  · intro x hx
    rw [hroom x hx]
    exact h12 x hx
  · intro x hx
    rw [hin]
    by_cases hx2 : 0 ≤ x ∧ x < 0 + q
    · rw [if_pos hx2]
      exact .inr ⟨67, _, _, _, _, _, part_is (.inl rfl) (by omega) (by omega) hl (by omega), fun h => absurd h (by decide)⟩
    · rw [if_neg hx2]
      exact h13 x hx
  · rw [hhd]
    exact h15
end Go.Proofs.Ytgdedgfohjplmaa.Jnl

/- The journal: a new one; opening as Fit tells; what is found behind a cut. -/
namespace Go.Proofs.Ytgdedgfohjplmaa.Jnl
open Go.RowKit Go.Maps Sec

theorem Fit.fresh (n : Nat) (h8 : 8 ≤ n) (h16 : n ≤ 16384) : Fit (opened (freshDisk n) none).2 newJ 0 1 := by
  obtain ⟨p, hp⟩ : ∃ p, p = n / 2 := ⟨_, rfl⟩
  obtain ⟨E, hE⟩ : ∃ E, E = (opened (freshDisk n) none).2 := ⟨_, rfl⟩
  have hpn : parts ([] : List UInt8).length = 1 := by decide
  have e : E = (pushes (freshDisk n) (0 * p + (1 + 0)) (fun i => partB 67 1 0 i (parts ([] : List UInt8).length) (chunk [] i)) (upto (parts ([] : List UInt8).length))).push (0 * p) (headB 1 1 1 0) := by rw [hp]; exact hE
  have hn : E.n = n ∧ E.off = false ∧ E.armed = none := by
    rw [e]
    exact ⟨(pushes_n ..).1, (pushes_n ..).2.1, (pushes_n ..).2.2.1⟩
  have hnow : ∀ y, E.now y = if y = 0 then headB 1 1 1 0 else if y = 1 then partB 67 1 0 0 1 [] else noughts := fun y => by
    rw [e, push_now]
    by_cases h0 : y = 0
    · rw [if_pos h0, if_pos (by omega)]
    · rw [if_neg h0, if_neg (by omega), pushes_now, hpn]
      by_cases h1 : y = 1
      · rw [if_pos h1, if_pos (by omega), h1]
        show partB 67 1 0 (1 - (0 * p + (1 + 0))) 1 (chunk [] (1 - (0 * p + (1 + 0)))) = _
        rw [show 1 - (0 * p + (1 + 0)) = 0 by omega]
        rfl
      · rw [if_neg h1, if_neg (by omega)]
        rfl
  have part : IsPart (partB 67 1 0 0 1 []) 67 1 0 0 1 [] := ⟨rfl, .inl rfl, by decide, by decide, by decide, by decide, by decide, .inr rfl⟩
  rw [← hE]
  have sec : ∀ y N, Sec2 (E.now (1 + y)) N 0 := fun y N => by
    rw [hnow, if_neg (by omega)]
    by_cases h1 : 1 + y = 1
    · rw [if_pos h1]
      exact .inr ⟨67, _, _, _, _, _, part, fun h => absurd h (by decide)⟩
    · rw [if_neg h1]
      exact Sec2.noughts N 0
  refine ⟨hn.2.1, hn.2.2, by rw [hn.1]; exact h8, by rw [hn.1]; exact h16, by decide, ?_, by decide, by decide, by decide, by decide, ⟨1, fun _ => [], ?_, rfl, rfl, .nil⟩, ?_, ?_, ?_, ?_⟩ <;> (try rw [hn.1, ← hp]) <;> show _
  · show E.now (0 * p) = _
    rw [hnow, if_pos (by omega)]
    rfl
  · refine ⟨by decide, fun i hi => ?_, by omega⟩
    show IsPart (E.now (0 * p + 1 + 0 + i)) _ _ _ _ _ _
    rw [hnow, if_neg (by omega), if_pos (by omega), show i = 0 by omega]
    exact part
  · refine ⟨0, 1, 0, fun _ => [], fun i hi => by omega, by decide, by show 1 + 0 ≤ p - 1; omega, .inr ?_⟩
    show Ends (E.now (0 * p + 1 + 1 + 0)) _ _ _ _ _
    rw [hnow, if_neg (by omega), if_neg (by omega)]
    exact (Sec2.noughts 0 0).ends (.inl (by decide))
  · intro x hx
    show Sec2 (E.now (0 * p + 1 + x)) _ _
    rw [show 0 * p + 1 + x = 1 + x by omega]
    exact sec x _
  · intro x hx
    show Sec2 (E.now ((1 - 0) * p + 1 + x)) _ _
    rw [show (1 - 0) * p + 1 + x = 1 + (p + x) by omega]
    exact sec _ _
  · refine .inl ?_
    show E.now ((1 - 0) * p) = _
    rw [hnow, if_neg (by omega), if_neg (by omega)]
theorem Fit.other {D : Dsk} {J : Jn} {o K : Nat} (h : Fit D J o K) (hK : K ≤ 1000000) : ∃ P, AreaOk D (1 - J.area) P ∧ ∀ r, P r → r = none ∨ ∃ J', r = some J' ∧ J'.gen < J.gen := by
  rcases h.hd2 with h2 | ⟨g, o, f, n, h1, h2, h3, h4, h5⟩
  · exact ⟨_, .zero h2, fun r hr => .inl hr⟩
  · refine ⟨_, .any g o f n h1 ⟨h2.1, by have := h.gen.2; omega⟩ ⟨h3.1, by omega⟩ ⟨h4.1, by omega⟩ h5 (fun x hx => ?_), fun r hr => ?_⟩
    · rcases h.oth x hx with h6 | ⟨c, s, k, i, n, l, h6, _⟩
      · exact .inl h6
      · exact .inr ⟨c, s, k, i, n, l, h6⟩
    · cases r with
      | none => exact .inl rfl
      | some J' => exact .inr ⟨J', rfl, by have := hr J' rfl; omega⟩
set_option maxRecDepth 100000 in
theorem open_fit (Sd : Nat → Prop) (d : Nat) (D : Dsk) (J : Jn) (o K : Nat) (w : World) (h : DiskAt w Sd d D) (hlt : ∀ b, Sd b → b < w.heap.size) (hwr : D.wr.length + 70000 < 1000000) (hf : Fit D J o K) (hK : K ≤ 1000000) :
    Calls Try.prog 9 #[.pointer (some ⟨d, 0, none⟩)] w fun e w' => ∃ jb Sj Sd', e = .returned (.tuple #[.pointer (some ⟨jb, 0, none⟩), .int .i64 0]) ∧ JAt w' Sj jb d { J with op := J.op + 1 } ∧ DiskAt w' Sd' d (D.push (J.area * (D.n / 2)) (headB J.gen (J.op + 1) J.first J.size)) ∧ (∀ b, Sj b → w.heap.size ≤ b ∧ ¬ Sd' b) ∧ (∀ b, Sd' b → (Sd b ∨ w.heap.size ≤ b) ∧ b < w'.heap.size) ∧ Off Sd w w' := by
  obtain ⟨P, hP, hP2⟩ := hf.other hK
  have hb := AreaOk.bears J rfl (hf.bears hK)
  have ha := hf.area
  have hfr : ∀ (R : Option Jn), R = some J → R = none → ∀ b, b < 2 → D.now (b * (D.n / 2)) = noughts := fun R h1 h2 => by rw [h1] at h2; cases h2
  have hop : ∀ J', some J = some J' → J'.op + 1 ≤ 4611686018427387904 ∧ J'.gen ≤ 4611686018427387904 ∧ J'.first ≤ 4611686018427387904 ∧ J'.size ≤ 1048576 := fun J' e => by
    cases e
    have h1 := hf.op
    have h2 := hf.gen
    have h3 := hf.first
    exact ⟨by omega, by omega, by omega, hf.size⟩
  obtain h0 | h0 : J.area = 0 ∨ J.area = 1 := by omega
  · rw [show 1 - J.area = 1 by omega] at hP
    rw [h0] at hb
    have hR : ∀ r, Pre (fun r => r = some J) P 2 r → r = some J := by
      rintro r ⟨r0, r1, e0, h1, e⟩
      subst e0
      rcases hP2 r1 h1 with rfl | ⟨J', rfl, h2⟩
      · exact e
      · rw [e]
        show (if J'.gen > J.gen then some J' else some J) = _
        rw [if_neg (by omega)]
    exact open_at (some J) Sd d D w h hlt hf.off hf.armed hwr (by have := hf.n8; omega) hb hP hR (hfr _ rfl) hop
  · rw [show 1 - J.area = 0 by omega] at hP
    rw [h0] at hb
    have hR : ∀ r, Pre P (fun r => r = some J) 2 r → r = some J := by
      rintro r ⟨r0, r1, h1, e1, e⟩
      subst e1
      rcases hP2 r0 h1 with rfl | ⟨J', rfl, h2⟩
      · exact e
      · rw [e]
        show (if J.gen > J'.gen then some J else some J') = _
        rw [if_pos (by omega)]
    exact open_at (some J) Sd d D w h hlt hf.off hf.armed hwr (by have := hf.n8; omega) hP hb hR (hfr _ rfl) hop
set_option maxRecDepth 100000 in
theorem open_fresh (Sd : Nat → Prop) (d n : Nat) (w : World) (h : DiskAt w Sd d (freshDisk n)) (hlt : ∀ b, Sd b → b < w.heap.size) (h8 : 8 ≤ n) :
    Calls Try.prog 9 #[.pointer (some ⟨d, 0, none⟩)] w fun e w' => ∃ jb Sj Sd', e = .returned (.tuple #[.pointer (some ⟨jb, 0, none⟩), .int .i64 0]) ∧ JAt w' Sj jb d newJ ∧ DiskAt w' Sd' d (opened (freshDisk n) none).2 ∧ (∀ b, Sj b → w.heap.size ≤ b ∧ ¬ Sd' b) ∧ (∀ b, Sd' b → (Sd b ∨ w.heap.size ≤ b) ∧ b < w'.heap.size) ∧ Off Sd w w' :=
  open_at none Sd d (freshDisk n) w h hlt rfl rfl (by show 0 + 70000 < 1000000; omega) (by show 4 ≤ n; omega) (.zero rfl) (.zero rfl) (by
    rintro r ⟨r0, r1, h0, h1, e⟩
    rw [e, h0, h1]
    rfl) (fun _ _ _ => rfl) (fun J e => by cases e)
end Go.Proofs.Ytgdedgfohjplmaa.Jnl

/- The journal: what is found behind a cut. No program in sight. -/
namespace Go.Proofs.Ytgdedgfohjplmaa.Jnl
open Go.RowKit Go.Maps Sec

/-- What is now is what was, and the writes. -/
def Coh (D : Dsk) : Prop := D.now = behind D.base D.wr
theorem Coh.push {D : Dsk} (h : Coh D) (p : Nat) (l : List UInt8) : Coh (D.push p l) := by
  unfold Coh at *
  show upd D.now p l = behind D.base (D.wr ++ [(p, l)])
  unfold behind at *
  rw [List.foldl_append, ← h]
  rfl
theorem Coh.pushes {D : Dsk} (h : Coh D) (b : Nat) (f : Nat → List UInt8) (is : List Nat) : Coh (pushes D b f is) := by
  induction is generalizing D with
  | nil => exact h
  | cons i is ih => exact ih (h.push _ _)
theorem pushes_base (D : Dsk) (b : Nat) (f : Nat → List UInt8) (is : List Nat) : (pushes D b f is).base = D.base ∧ (pushes D b f is).wr = D.wr ++ is.map (fun i => (b + i, f i)) := by
  induction is generalizing D with
  | nil => exact ⟨rfl, (List.append_nil _).symm⟩
  | cons i is ih =>
    obtain ⟨h1, h2⟩ := ih (D := D.push (b + i) (f i))
    refine ⟨h1, ?_⟩
    show (Jnl.pushes (D.push (b + i) (f i)) b f is).wr = _
    rw [h2]
    show (D.wr ++ [(b + i, f i)]) ++ _ = _
    rw [List.append_assoc]
    rfl
theorem cut_now (D : Dsk) (q : Nat) (hq : q ≤ D.wr.length) : (D.cut (q : Int)).now = behind D.base (D.wr.take q) ∧ (D.cut (q : Int)).base = behind D.base (D.wr.take q) := by
  have e : (max 0 (min (D.wr.length : Int) (q : Int))).toNat = q := by omega
  unfold Dsk.cut
  rw [e]
  exact ⟨rfl, rfl⟩
theorem cut_all {D : Dsk} (h : Coh D) : (D.cut (D.wr.length : Int)).now = D.now := by
  rw [(cut_now D _ (Nat.le_refl _)).1, List.take_length]
  exact h.symm
theorem upto_take (M q : Nat) (h : q ≤ M) : (upto M).take q = upto q := by
  induction M with
  | zero => have : q = 0 := by omega
            rw [this]; rfl
  | succ M ih =>
    by_cases h2 : q = M + 1
    · rw [h2]
      exact List.take_of_length_le (by rw [upto_length]; exact Nat.le_refl _)
    · rw [upto_succ, List.take_append_of_le_length (by rw [upto_length]; omega), ih (by omega)]
/-- A settled disk, a row written to it, cut. -/
theorem cut_pushes {D : Dsk} (hb : D.base = D.now) (hw : D.wr = []) (b : Nat) (f : Nat → List UInt8) (M q : Nat) (hq : q ≤ M) : behind (pushes D b f (upto M)).base ((pushes D b f (upto M)).wr.take q) = (pushes D b f (upto q)).now := by
  have hc : Coh D := by unfold Coh; rw [hb, hw]; rfl
  have h1 := hc.pushes b f (upto q)
  unfold Coh at h1
  rw [h1, (pushes_base D b f (upto M)).1, (pushes_base D b f (upto M)).2, (pushes_base D b f (upto q)).1, (pushes_base D b f (upto q)).2, hw, List.nil_append, List.nil_append, ← List.map_take, upto_take M q hq]
theorem cut_app {D : Dsk} (hb : D.base = D.now) (hw : D.wr = []) {J : Jn} {l : List UInt8} (q : Nat) (hq : q ≤ (appD D J l).wr.length) : ((appD D J l).cut (q : Int)).now = (pushes D (J.area * (D.n / 2) + (1 + J.used)) (fun i => partB 82 J.op (J.first + J.recs.length) i (parts l.length) (chunk l i)) (upto q)).now := by
  rw [(cut_now _ q hq).1]
  refine cut_pushes hb hw _ _ _ q ?_
  have : (appD D J l).wr.length = parts l.length := by
    unfold appD
    rw [(pushes_n ..).2.2.2, hw, upto_length]
    exact Nat.zero_add _
  omega
theorem app_wr (D : Dsk) (J : Jn) (l : List UInt8) : (appD D J l).wr.length = D.wr.length + parts l.length := by
  unfold appD
  rw [(pushes_n ..).2.2.2, upto_length]
theorem ck_wr (D : Dsk) (J : Jn) (l : List UInt8) : (ckD D J l).wr.length = D.wr.length + parts l.length + 1 := by
  show ((ckP D J l).wr ++ [_]).length = _
  rw [List.length_append, (ckP_n D J l).2.2.2]
  rfl
theorem settled_coh {D : Dsk} (hb : D.base = D.now) (hw : D.wr = []) : Coh D := by unfold Coh; rw [hb, hw]; rfl
theorem Coh.app {D : Dsk} (h : Coh D) (J : Jn) (l : List UInt8) : Coh (appD D J l) := h.pushes _ _ _
theorem Coh.ck {D : Dsk} (h : Coh D) (J : Jn) (l : List UInt8) : Coh (ckD D J l) := (h.pushes _ _ _).push _ _
/-- Cut amid a record. -/
theorem found_app {D : Dsk} {J : Jn} {o K q : Nat} {l : List UInt8} (h : Fit D J o K) (hK : K ≤ 1000000) (ho : o ≤ J.op) (hl : l.length ≤ 1048576) (hr : parts l.length ≤ D.n / 2 - 1 - J.used) (hb : D.base = D.now) (hw : D.wr = []) (hq : q ≤ (appD D J l).wr.length) :
    (q < (appD D J l).wr.length → Fit ((appD D J l).cut (q : Int)) J (J.op + 1) K) ∧ (q = (appD D J l).wr.length → Fit ((appD D J l).cut (q : Int)) (J.app l) 0 (K + 1)) := by
  have hwr : (appD D J l).wr.length = parts l.length := by rw [app_wr, hw]; exact Nat.zero_add _
  have hn : ((appD D J l).cut (q : Int)).n = D.n := (pushes_n ..).1
  refine ⟨fun hq2 => h.app_cut hK ho hl hr (by omega) hn rfl rfl (cut_app hb hw q hq), fun hq2 => ?_⟩
  have hf := h.app hK hl hr
  refine hf.same rfl ?_ rfl rfl
  rw [hq2]
  exact cut_all ((settled_coh hb hw).app J l)
/-- Cut amid a state. -/
theorem found_ck {D : Dsk} {J : Jn} {K q : Nat} {l : List UInt8} (h : Fit D J 0 K) (hK : K ≤ 1000000) (hl : l.length ≤ 1048576) (hr : parts l.length ≤ D.n / 2 - 1) (hb : D.base = D.now) (hw : D.wr = []) (hq : q ≤ (ckD D J l).wr.length) :
    Fit ((ckD D J l).cut (q : Int)) J 0 K ∨ Fit ((ckD D J l).cut (q : Int)) (J.ck l) 0 (K + 1) := by
  have hwr : (ckD D J l).wr.length = parts l.length + 1 := by rw [ck_wr, hw]; show 0 + _ + 1 = _; omega
  have hwp : (ckP D J l).wr.length = parts l.length := by rw [(ckP_n D J l).2.2.2, hw]; exact Nat.zero_add _
  have hn : ((ckD D J l).cut (q : Int)).n = D.n := (ckP_n D J l).1
  by_cases hq2 : q = (ckD D J l).wr.length
  · refine .inr ((h.ck hK hl hr).same rfl ?_ rfl rfl)
    rw [hq2]
    exact cut_all ((settled_coh hb hw).ck J l)
  · refine .inl (h.ck_cut hK hl hr (q := q) (by omega) hn rfl rfl ?_)
    rw [(cut_now _ q hq).1, ← cut_pushes hb hw _ _ (parts l.length) q (by omega)]
    show behind (ckP D J l).base (((ckP D J l).wr ++ [_]).take q) = behind (ckP D J l).base ((ckP D J l).wr.take q)
    rw [List.take_append_of_le_length (by omega)]
/-- Cut amid an opening. -/
theorem found_open {C : Dsk} {J : Jn} {o K r : Nat} (h : Fit C J o K) (hb : C.base = C.now) (hw : C.wr = []) (hr : r ≤ (C.push (J.area * (C.n / 2)) (headB J.gen (J.op + 1) J.first J.size)).wr.length) :
    ∃ op, op ≤ J.op + 1 ∧ Fit ((C.push (J.area * (C.n / 2)) (headB J.gen (J.op + 1) J.first J.size)).cut (r : Int)) { J with op := op } o (K + 1) := by
  have hl : (C.push (J.area * (C.n / 2)) (headB J.gen (J.op + 1) J.first J.size)).wr.length = 1 := by
    show (C.wr ++ [_]).length = 1
    rw [hw]
    rfl
  obtain rfl | rfl : r = 0 ∨ r = 1 := by omega
  · refine ⟨J.op, by omega, (h.less (Nat.le_refl _) (Nat.le_succ _)).same rfl ?_ rfl rfl⟩
    rw [(cut_now _ 0 (by omega)).1]
    exact hb
  · refine ⟨J.op + 1, Nat.le_refl _, h.reopen.same rfl ?_ rfl rfl⟩
    have := cut_all ((settled_coh hb hw).push (J.area * (C.n / 2)) (headB J.gen (J.op + 1) J.first J.size))
    rw [hl] at this
    exact this
/-- A disk that is settled. -/
def settled (D : Dsk) : Dsk := { D with base := D.now, wr := [] }
theorem Fit.settle {D : Dsk} {J : Jn} {o K : Nat} (h : Fit D J o K) : Fit (settled D) J o K := h.same rfl rfl h.off h.armed
theorem Fit.all {D : Dsk} {J : Jn} {o K : Nat} (h : Fit D J o K) (hc : Coh D) : Fit (D.cut (D.wr.length : Int)) J o K := h.same rfl (cut_all hc) rfl rfl
/-- What a call of the law's put leads to. -/
def putR (D : Dsk) (J : Jn) (ck : Bool) (l : List UInt8) : Dsk × Jn :=
  if ck = true then (if D.n / 2 - 1 < parts l.length then (D, J) else (ckD D J l, J.ck l)) else (if D.n / 2 - 1 - J.used < parts l.length then (D, J) else (appD D J l, J.app l))
theorem putR_fit {D : Dsk} {J : Jn} {K : Nat} {l : List UInt8} (ck : Bool) (h : Fit D J 0 K) (hK : K ≤ 1000000) (hl : l.length ≤ 1048576) : Fit (putR D J ck l).1 (putR D J ck l).2 0 (K + 1) ∧ (putR D J ck l).1.n = D.n ∧ (putR D J ck l).1.wr.length ≤ D.wr.length + parts l.length + 1 ∧ (Coh D → Coh (putR D J ck l).1) := by
  unfold putR
  cases ck with
  | true =>
    rw [if_pos rfl]
    by_cases h1 : D.n / 2 - 1 < parts l.length
    · rw [if_pos h1]
      exact ⟨h.less (Nat.le_refl _) (Nat.le_succ _), rfl, by show D.wr.length ≤ _; omega, fun h => h⟩
    · rw [if_neg h1]
      exact ⟨h.ck hK hl (by omega), (ckP_n D J l).1, by show (ckD D J l).wr.length ≤ _; rw [ck_wr]; exact Nat.le_refl _, fun h => h.ck J l⟩
  | false =>
    rw [if_neg (by decide)]
    by_cases h1 : D.n / 2 - 1 - J.used < parts l.length
    · rw [if_pos h1]
      exact ⟨h.less (Nat.le_refl _) (Nat.le_succ _), rfl, by show D.wr.length ≤ _; omega, fun h => h⟩
    · rw [if_neg h1]
      exact ⟨h.app hK hl (by omega), (pushes_n ..).1, by show (appD D J l).wr.length ≤ _; rw [app_wr]; omega, fun h => h.app J l⟩
/-- What is found behind a cut of a call: what there was ahead of it, or behind it. -/
theorem putR_cut {D : Dsk} {J : Jn} {K q : Nat} {l : List UInt8} (ck : Bool) (h : Fit D J 0 K) (hK : K ≤ 1000000) (hl : l.length ≤ 1048576) (hb : D.base = D.now) (hw : D.wr = []) (hq : q ≤ (putR D J ck l).1.wr.length) :
    ∃ Jc, (Jc = J ∨ Jc = (putR D J ck l).2) ∧ Fit ((putR D J ck l).1.cut (q : Int)) Jc (J.op + 1) (K + 1) := by
  have same : D.wr = [] → ∀ q : Nat, q ≤ D.wr.length → Fit (D.cut (q : Int)) J (J.op + 1) (K + 1) := fun hw q hq => by
    refine (h.less (Nat.zero_le _) (Nat.le_succ _)).same rfl ?_ rfl rfl
    rw [(cut_now D q hq).1, hw, hb, List.take_nil]
    rfl
  unfold putR at hq ⊢
  cases ck with
  | true =>
    rw [if_pos rfl] at hq ⊢
    by_cases h1 : D.n / 2 - 1 < parts l.length
    · rw [if_pos h1] at hq ⊢
      exact ⟨J, .inl rfl, same hw q hq⟩
    · rw [if_neg h1] at hq ⊢
      rcases found_ck h hK hl (by omega) hb hw hq with h2 | h2
      · exact ⟨J, .inl rfl, h2.less (Nat.zero_le _) (Nat.le_succ _)⟩
      · exact ⟨J.ck l, .inr rfl, h2.less (Nat.zero_le _) (Nat.le_refl _)⟩
  | false =>
    rw [if_neg (by decide)] at hq ⊢
    by_cases h1 : D.n / 2 - 1 - J.used < parts l.length
    · rw [if_pos h1] at hq ⊢
      exact ⟨J, .inl rfl, same hw q hq⟩
    · rw [if_neg h1] at hq ⊢
      have h2 := found_app (q := q) h hK (Nat.zero_le _) hl (by omega) hb hw hq
      by_cases hq2 : q = (appD D J l).wr.length
      · exact ⟨J.app l, .inr rfl, (h2.2 hq2).less (Nat.zero_le _) (Nat.le_refl _)⟩
      · exact ⟨J, .inl rfl, (h2.1 (by show q < (appD D J l).wr.length; have : q ≤ (appD D J l).wr.length := hq; omega)).less (Nat.le_refl _) (Nat.le_succ _)⟩
end Go.Proofs.Ytgdedgfohjplmaa.Jnl
