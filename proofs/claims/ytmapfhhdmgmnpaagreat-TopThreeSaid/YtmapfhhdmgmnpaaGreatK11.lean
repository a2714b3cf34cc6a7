import Derived.Test.YtmapfhhdmgmnpaaGreatK01
import Derived.Test.YtmapfhhdmgmnpaaGreatK10
namespace Go.Ev
open Go Go.Proofs Tryz
open TP (Str Tree Nd Mk)
set_option maxRecDepth 100000
set_option maxHeartbeats 4000000
def ofP (p : TP.Piece) : GPiece := ⟨p.keep, p.drop, p.put⟩
theorem encT_ofP (l : List TP.Piece) : l.flatMap encT = (l.map ofP).flatMap pieceC := by
  induction l with
  | nil => rfl
  | cons p l ih => rw [List.map_cons, List.flatMap_cons, List.flatMap_cons, ih]; rfl
theorem Own.ok {e s : Nat} {l : List AB} {v : Value} {n : Nat} {cs : List Value} (h : Own e s l v n cs) : vok (Ev.mk l).ok v = true := by
  have key : ∀ b, b < l.length → (Ev.mk l).ok b = true := fun b hb => by
    rw [AS.ok_iff]
    exact .inl ⟨by rw [mk_next]; exact hb, by rw [mk_pend]; simp⟩
  cases h with
  | nil => rfl
  | zero h => simpa [vok] using key _ (List.getElem?_eq_some_iff.1 h).1
  | row h _ _ _ => simpa [vok] using key _ (List.getElem?_eq_some_iff.1 h).1
theorem done_does {l : List AB} {b : Nat} {m : Mk} {F : List Nat} (h : MkAt l b m F) (hl : l.length < 16777216) :
    ∃ v, Own 104 3 l v m.l.length (m.l.flatMap encT) ∧ ∀ d, Does prog (.call 217 [.pointer (some ⟨b, 0, none⟩)] d) (mk l) (.tuple #[v, .bool (decide (rightG (m.l.map ofP)))]) (mk l) := by
  obtain ⟨v, h1, ho, hne, _⟩ := h
  have hvk : vok (mk l).ok v = true := ho.ok
  refine ⟨v, ho, fun d => ?_⟩
  refine does_is func217 ntmps217 results217 rfl ?_ (by
    show vokL (mk l).ok [v, .bool _] = true
    simp only [vokL, hvk, Bool.true_and]; rfl)
  have fz : Frz (mk l) v (rowP (m.l.map ofP)) := by
    have := ho.frz hl (row_clean encT_clean m.l)
    rw [encT_ofP] at this
    unfold rowP
    rw [List.length_map]; exact this
  have c := right_fn (m.l.map ofP)
  replace fz := Hid.mk fz
  clear ho hne hvk
  refine burst ?_
  refine sDraw_free cfgOK (by kernel_rfl) ?_
  refine burst ?_
  refine sCall_bare c (.cons fz.out (.clean rfl)) rfl ?_
  refine burst ?_
  exact ⟨_, rfl, rfl⟩
theorem sCall_cap {ns : Nat} {dst : Option Tmp} {ops rest : List Oper} {k : List Item} {tm : Trie Value} {Q : Trie Value → AS → Prop} {g : FuncId} {args cap : List Value} {v : Value} {A A' : AS} (h : Does prog (.call g (args ++ cap) false) A v A') (hK : wRun prog false ns ops rest k (putD ns tm dst v) A' Q) : sCall prog false ns (.func (.func g) #[] cap.toArray) args dst ops rest k tm A Q := by
  unfold sCall wCall
  exact ⟨v, A', by simpa using h, fun e => by simp at e, hK⟩
def nuP (l : List TP.Piece) : Nat := (l.map fun p => (if 0 < p.keep then 1 else 0) + (if 0 < p.drop then 1 else 0)).sum
theorem nuP_le (l : List TP.Piece) : nuP l ≤ 2 * l.length := by
  induction l with
  | nil => simp [nuP]
  | cons p l ih =>
    simp only [nuP, List.map_cons, List.sum_cons, List.length_cons] at ih ⊢
    split <;> split <;> omega
theorem nuP_put (l : List TP.Piece) : nuP (TP.rowPut l).2 = nuP l ∧ (TP.rowPut l).2.length = l.length ∧ szP (TP.rowPut l).2 + (TP.rowPut l).1.length = szP l := by
  cases l with
  | nil => simp [TP.rowPut, szP]
  | cons p l =>
    rw [TP.rowPut]
    split
    · simp [nuP, szP]; omega
    · simp
theorem nuP_run (l : List TP.Piece) : nuP (TP.rowRun l).1 = nuP l := by
  induction l with
  | nil => rfl
  | cons p l ih =>
    rw [TP.rowRun]
    split
    · rfl
    · split
      · rfl
      · rw [ih]; simp [nuP, *]
theorem take_len (n : Nat) (l : List TP.Piece) : (TP.rowTake n l).length = l.length := by
  cases l with
  | nil => rfl
  | cons p l => rw [TP.rowTake]; split <;> simp
theorem nuP_take {n : Nat} {r : List TP.Piece} (h : ∀ m x, (TP.rowRun r).2 = some (m, x) → n ≤ m) : nuP (TP.rowTake n (TP.rowRun r).1) ≤ nuP (TP.rowRun r).1 ∧ szP (TP.rowTake n (TP.rowRun r).1) + (match (TP.rowRun r).2 with | some _ => n | none => 0) = szP (TP.rowRun r).1 ∧
    ((∃ x, (TP.rowRun r).2 = some (n, x)) → nuP (TP.rowTake n (TP.rowRun r).1) + 1 ≤ nuP (TP.rowRun r).1) := by
  cases hs : (TP.rowRun r).2 with
  | none =>
    rw [TP.rowRun_none hs]
    exact ⟨Nat.le_refl _, rfl, fun ⟨x, e⟩ => by cases e⟩
  | some s =>
    obtain ⟨m, x⟩ := s
    obtain ⟨p, r', e, h2⟩ := TP.rowRun_some hs
    have hn := h m x hs
    rw [e, TP.rowTake]
    rcases h2 with ⟨rfl, q1, rfl⟩ | ⟨rfl, q1, q2, rfl⟩
    · rw [if_pos q1]
      refine ⟨?_, ?_, fun ⟨y, e⟩ => ?_⟩
      · simp only [nuP, List.map_cons, List.sum_cons, q1, if_true]
        split <;> split <;> omega
      · simp only [szP, List.map_cons, List.sum_cons]; omega
      · cases e
        simp only [nuP, List.map_cons, List.sum_cons, q1, if_true, Nat.sub_self, Nat.lt_irrefl, if_false]
        omega
    · rw [if_neg (by omega)]
      refine ⟨?_, ?_, fun ⟨y, e⟩ => ?_⟩
      · simp only [nuP, List.map_cons, List.sum_cons, q2, if_true]
        split <;> split <;> omega
      · simp only [szP, List.map_cons, List.sum_cons]; omega
      · cases e
        simp only [nuP, List.map_cons, List.sum_cons, q2, if_true, Nat.sub_self, Nat.lt_irrefl, if_false]
        omega
def stepX (n : Nat) (dx dy : Bool) (x : Mk) : Mk := if (dx && dy) = true then x else if dx = true then x.drop n else if dy = true then x else x.kept n
def stepY (n : Nat) (dx dy : Bool) (y : Mk) : Mk := if (dx && dy) = true then y else if dx = true then y else if dy = true then y.drop n else y.kept n
theorem runs_none {p q : List TP.Piece} {x y : Mk} (h : (bothV p q).2.2.2 = false) : TP.runs ⟨p, q, x, y⟩ = none := by
  unfold bothV at h
  unfold TP.runs
  split at h <;> simp_all
theorem runs_some {p q : List TP.Piece} {x y : Mk} (h : (bothV p q).2.2.2 = true) : TP.runs ⟨p, q, x, y⟩ = some ⟨(bothR p q).1, (bothR p q).2, stepX (bothV p q).1 (bothV p q).2.1 (bothV p q).2.2.1 x, stepY (bothV p q).1 (bothV p q).2.1 (bothV p q).2.2.1 y⟩ := by
  unfold bothR
  rw [if_pos h]
  unfold bothV at h ⊢
  unfold TP.runs stepX stepY
  cases hp : (TP.rowRun p).2 with
  | none =>
    cases hq : (TP.rowRun q).2 with
    | none => rw [hp, hq] at h; simp at h
    | some s => obtain ⟨m, y'⟩ := s; simp [hp, hq]
  | some s =>
    obtain ⟨n, x'⟩ := s
    cases hq : (TP.rowRun q).2 with
    | none => simp [hp, hq]
    | some s => obtain ⟨m, y'⟩ := s; simp [hp, hq]
theorem runs_less {p q : List TP.Piece} (h : (bothV p q).2.2.2 = true) : nuP (bothR p q).1 + nuP (bothR p q).2 + 1 ≤ nuP p + nuP q ∧ szP (bothR p q).1 + szP (bothR p q).2 + (bothV p q).1 ≤ szP p + szP q ∧ (bothR p q).1.length = (TP.rowRun p).1.length ∧ (bothR p q).2.length = (TP.rowRun q).1.length := by
  have e : bothR p q = (TP.rowTake (bothV p q).1 (TP.rowRun p).1, TP.rowTake (bothV p q).1 (TP.rowRun q).1) := if_pos h
  rw [e]
  have hnp : ∀ m x, (TP.rowRun p).2 = some (m, x) → (bothV p q).1 ≤ m := fun m x h => by
    unfold bothV
    rw [h]
    cases (TP.rowRun q).2 with
    | none => exact Nat.le_refl _
    | some s => exact Nat.min_le_left _ _
  have hnq : ∀ m x, (TP.rowRun q).2 = some (m, x) → (bothV p q).1 ≤ m := fun m x h => by
    unfold bothV
    rw [h]
    cases (TP.rowRun p).2 with
    | none => exact Nat.le_refl _
    | some s => exact Nat.min_le_right _ _
  have tp := nuP_take hnp
  have tq := nuP_take hnq
  have rp := nuP_run p
  have rq := nuP_run q
  have sp := szP_sub (rowRun_suf p)
  have sq := szP_sub (rowRun_suf q)
  have key : nuP (TP.rowTake (bothV p q).1 (TP.rowRun p).1) + nuP (TP.rowTake (bothV p q).1 (TP.rowRun q).1) + 1 ≤ nuP p + nuP q ∧ szP (TP.rowTake (bothV p q).1 (TP.rowRun p).1) + szP (TP.rowTake (bothV p q).1 (TP.rowRun q).1) + (bothV p q).1 ≤ szP p + szP q := by
    clear hnp hnq e
    unfold bothV at *
    cases hp : (TP.rowRun p).2 with
    | none =>
      cases hq : (TP.rowRun q).2 with
      | none => rw [hp, hq] at h; simp at h
      | some s =>
        obtain ⟨m, y'⟩ := s
        rw [hp, hq] at tp tq
        have t3 := tq.2.2 ⟨y', rfl⟩
        simp only at tp tq t3 ⊢
        omega
    | some s =>
      obtain ⟨n, x'⟩ := s
      cases hq : (TP.rowRun q).2 with
      | none =>
        rw [hp, hq] at tp tq
        have t3 := tp.2.2 ⟨x', rfl⟩
        simp only at tp tq t3 ⊢
        omega
      | some s =>
        obtain ⟨m, y'⟩ := s
        rw [hp, hq] at tp tq
        simp only at tp tq ⊢
        by_cases hnm : n ≤ m
        · rw [Nat.min_eq_left hnm] at *
          have t3 := tp.2.2 ⟨x', rfl⟩
          omega
        · rw [Nat.min_eq_right (by omega)] at *
          have t3 := tq.2.2 ⟨y', rfl⟩
          omega
  exact ⟨key.1, key.2, take_len _ _, take_len _ _⟩
end Go.Ev
namespace Go.Ev
open Go Go.Proofs Tryz
open TP (Str Tree Nd Mk)
set_option maxRecDepth 100000
set_option maxHeartbeats 4000000
theorem fn_ex {ns : Nat} {f : FuncId} {fn : Func} {body : Code} {args : List Value} {rs : Array ResultVar} {R : Value → Prop} (hfn : prog.funcs[f]? = some fn) (hns : fn.ntmps = ns) (hrs : fn.results = rs) (hbody : fn.body = some body) (hargs : cleanL args = true)
    (h : W prog ns [.code body] (setArgs args 0 .nil) (mk []) fun tm A' => ∃ vs v, aresults prog tm A' rs.toList = some vs ∧ Frz A' (tupleOf vs) v ∧ R v)
    (h1 : args.length ≤ ns := by exact Nat.le_of_ble_eq_true rfl) (h2 : ns < 65535 := by decide) (hok : codeOk body = true := by kernel_rfl) : ∃ v, R v ∧ Fn prog f args v := by
  subst hns hrs
  exact fn_of cfgOK mixed hfn hbody h1 h2 hok hargs (by rw [mk_nil]; exact h)
theorem aFunc_func {tm : Trie Value} {g : FuncId} {x y : Array Operand} {A : AS} : aFunc tm (.func g) x y A = some (.func (.func g) (x.toList.map (ev tm)).toArray (y.toList.map (ev tm)).toArray, A) := rfl
theorem puts_sz (f : Bool) (p q : List TP.Piece) (x y : Mk) : (szM (TP.puts f ⟨p, q, x, y⟩).x + szP (TP.puts f ⟨p, q, x, y⟩).p + szP (TP.puts f ⟨p, q, x, y⟩).q = szM x + szP p + szP q ∧ szM (TP.puts f ⟨p, q, x, y⟩).y + szP (TP.puts f ⟨p, q, x, y⟩).p + szP (TP.puts f ⟨p, q, x, y⟩).q = szM y + szP p + szP q) ∧
    (nuP (TP.puts f ⟨p, q, x, y⟩).p = nuP p ∧ nuP (TP.puts f ⟨p, q, x, y⟩).q = nuP q) ∧ ((TP.puts f ⟨p, q, x, y⟩).p.length = p.length ∧ (TP.puts f ⟨p, q, x, y⟩).q.length = q.length) ∧ (TP.puts f ⟨p, q, x, y⟩).x.l.length ≤ x.l.length + 1 ∧ (TP.puts f ⟨p, q, x, y⟩).y.l.length ≤ y.l.length + 1 := by
  have tp := nuP_put p
  have tq := nuP_put q
  cases f with
  | true =>
    have e : TP.puts true ⟨p, q, x, y⟩ = ⟨(TP.rowPut p).2, (TP.rowPut q).2, (x.put (TP.rowPut p).1).kept (TP.rowPut q).1.length, (y.kept (TP.rowPut p).1.length).put (TP.rowPut q).1⟩ := rfl
    rw [e]
    have h1 := szM_put x (TP.rowPut p).1
    have h2 := szM_kept (x.put (TP.rowPut p).1) (TP.rowPut q).1.length
    have h3 := szM_kept y (TP.rowPut p).1.length
    have h4 := szM_put (y.kept (TP.rowPut p).1.length) (TP.rowPut q).1
    simp only [h2.1, h2.2, h4.1, h3.1, h1.1]
    rw [h3.2] at h4
    refine ⟨⟨by omega, by omega⟩, ⟨tp.1, tq.1⟩, ⟨tp.2.1, tq.2.1⟩, h1.2, h4.2⟩
  | false =>
    have e : TP.puts false ⟨p, q, x, y⟩ = ⟨(TP.rowPut p).2, (TP.rowPut q).2, (x.kept (TP.rowPut q).1.length).put (TP.rowPut p).1, (y.put (TP.rowPut q).1).kept (TP.rowPut p).1.length⟩ := rfl
    rw [e]
    have h1 := szM_put y (TP.rowPut q).1
    have h2 := szM_kept (y.put (TP.rowPut q).1) (TP.rowPut p).1.length
    have h3 := szM_kept x (TP.rowPut q).1.length
    have h4 := szM_put (x.kept (TP.rowPut q).1.length) (TP.rowPut p).1
    simp only [h2.1, h2.2, h4.1, h3.1, h1.1]
    rw [h3.2] at h4
    refine ⟨⟨by omega, by omega⟩, ⟨tp.1, tq.1⟩, ⟨tp.2.1, tq.2.1⟩, h4.2, h1.2⟩
theorem stepX_sz (n : Nat) (dx dy : Bool) (x : Mk) : szM (stepX n dx dy x) ≤ szM x + n ∧ (stepX n dx dy x).l.length ≤ x.l.length + 1 := by
  have h1 := szM_drop x n
  have h2 := szM_kept x n
  unfold stepX
  cases dx <;> cases dy <;> simp [h1, h2]
theorem stepY_sz (n : Nat) (dx dy : Bool) (y : Mk) : szM (stepY n dx dy y) ≤ szM y + n ∧ (stepY n dx dy y).l.length ≤ y.l.length + 1 := by
  have h1 := szM_drop y n
  have h2 := szM_kept y n
  unfold stepY
  cases dx <;> cases dy <;> simp [h1, h2]
theorem Own.rowV {l : List AB} {v : Value} {r : List TP.Piece} (h : Own 104 3 l v r.length (r.flatMap encT)) : RowV l v r := by
  generalize hn : r.length = n at h
  generalize hc : r.flatMap encT = cs at h
  cases h with
  | nil => exact .inr (.inl ⟨rfl, List.eq_nil_of_length_eq_zero hn⟩)
  | zero h => exact .inr (.inr (.inl ⟨_, _, rfl, List.eq_nil_of_length_eq_zero hn, h⟩))
  | row h _ _ _ => exact .inr (.inr (.inr ⟨_, [], n, by rw [hn]; rfl, by omega, by rw [List.nil_append, hc]; exact h⟩))
theorem four_start {l : List AB} {s1 s2 : Value} {N1 N2 : List TP.Piece} {f : Bool} {L1 : Nat} (o1 : Own 104 3 l s1 N1.length (N1.flatMap encT)) (o2 : Own 104 3 l s2 N2.length (N2.flatMap encT))
    (h1 : ∀ c, ownB s1 = some c → 1 ≤ c ∧ c < L1) (h2 : ∀ c, ownB s2 = some c → L1 ≤ c ∧ c < l.length) (hL1 : 1 ≤ L1) (hL : L1 ≤ l.length) (h0 : l[0]? = some (AB.cells [.bool f] 4 (0, 0))) :
    Four (((l ++ [AB.cells [.slice none 0 0] 330 (0, 0)] ++ [AB.cells [.slice none 0 0] 330 (0, 0)]).set l.length (AB.cells [s1] 330 (0, 0))).set (l.length + 1) (AB.cells [s2] 330 (0, 0)) ++ [AB.cells [.slice none 0 0, .int .i64 0] 239 (0, 0)] ++ [AB.cells [.slice none 0 0, .int .i64 0] 239 (0, 0)]) l.length (l.length + 1) (l.length + 1 + 1) (l.length + 1 + 1 + 1) 0 f N1 N2 ⟨[], 0⟩ ⟨[], 0⟩ := by
  have low : ∀ j, j < l.length → (((l ++ [AB.cells [.slice none 0 0] 330 (0, 0)] ++ [AB.cells [.slice none 0 0] 330 (0, 0)]).set l.length (AB.cells [s1] 330 (0, 0))).set (l.length + 1) (AB.cells [s2] 330 (0, 0)) ++ [AB.cells [.slice none 0 0, .int .i64 0] 239 (0, 0)] ++ [AB.cells [.slice none 0 0, .int .i64 0] 239 (0, 0)])[j]? = l[j]? := fun j hj => by
    rw [List.append_assoc, List.getElem?_append_left (by simp; omega), gset, if_neg (by omega), gset, if_neg (by omega), List.append_assoc, List.getElem?_append_left hj]
  have p1 := (o1.grow (l' := _) fun c hc => low c (by have := h1 c hc; omega)).rowV
  have p2 := (o2.grow (l' := _) fun c hc => low c (by have := h2 c hc; omega)).rowV
  have mem : ∀ {v : Value} {b j : Nat}, j ∈ b :: (ownB v).toList → j = b ∨ ownB v = some j := fun h => by
    rcases List.mem_cons.1 h with h | h
    · exact .inl h
    · exact .inr (by simpa using h)
  refine ⟨_, _, _, _, ⟨s1, ?_, p1, fun e => ?_, rfl⟩, ⟨s2, ?_, p2, fun e => ?_, rfl⟩, ⟨.slice none 0 0, ?_, .nil, by simp [ownB], rfl⟩, ⟨.slice none 0 0, ?_, .nil, by simp [ownB], rfl⟩, ?_, ⟨?_, ?_, ?_, ?_, ?_, ?_⟩, ?_, ?_, ?_, ?_⟩
  · rw [List.append_assoc, List.getElem?_append_left (by simp), gset, if_neg (by omega), gset, if_pos rfl]; simp
  · have := h1 _ e; omega
  · rw [List.append_assoc, List.getElem?_append_left (by simp), gset, if_pos rfl, gset, if_neg (by omega)]; simp
  · have := h2 _ e; omega
  · rw [List.getElem?_append_left (by simp), List.getElem?_append_right (by simp)]; simp
  · rw [List.getElem?_append_right (by simp)]; simp
  · rw [low 0 (by omega)]; exact h0
  · intro j hj hj2
    rcases mem hj with e | e <;> rcases mem hj2 with e2 | e2
    · omega
    · have := h2 _ e2; omega
    · have := h1 _ e; omega
    · have := h1 _ e; have := h2 _ e2; omega
  · intro j hj hj2
    simp [ownB] at hj2
    rcases mem hj with e | e
    · omega
    · have := h1 _ e; omega
  · intro j hj hj2
    simp [ownB] at hj2
    rcases mem hj with e | e
    · omega
    · have := h1 _ e; omega
  · intro j hj hj2
    simp [ownB] at hj2
    rcases mem hj with e | e
    · omega
    · have := h2 _ e; omega
  · intro j hj hj2
    simp [ownB] at hj2
    rcases mem hj with e | e
    · omega
    · have := h2 _ e; omega
  · intro j hj hj2
    simp [ownB] at hj hj2
    omega
  · intro h
    rcases mem h with e | e
    · omega
    · have := h1 _ e; omega
  · intro h
    rcases mem h with e | e
    · omega
    · have := h2 _ e; omega
  · simp [ownB]
  · simp [ownB]
theorem norm_szs {l : List GPiece} (h : rightG l) : (TP.norm (l.map toP)).length ≤ 4096 ∧ szP (TP.norm (l.map toP)) ≤ 8590983168 := by
  have h1 := fold_sz (l.map toP) ⟨[], 0⟩
  have h2 := szP_right h
  have h3 := h.1
  have e : ((l.map toP).foldl Mk.piece ⟨[], 0⟩).l = TP.norm (l.map toP) := rfl
  have e0 : szM ⟨[], 0⟩ = 0 := rfl
  have e2 : szM ((l.map toP).foldl Mk.piece ⟨[], 0⟩) = szP ((l.map toP).foldl Mk.piece ⟨[], 0⟩).l + ((l.map toP).foldl Mk.piece ⟨[], 0⟩).keep := rfl
  rw [e] at h1 e2
  simp only [List.length_nil, List.length_map] at h1
  omega
structure TrI (f : Bool) (s0 : TP.Tf) (N L0 S i : Nat) (l : List AB) (bp bq bx by' bf : Nat) (p q : List TP.Piece) (x y : Mk) : Prop where
  four : Four l bp bq bx by' bf f p q x y
  way : ∀ X Y, TP.Loops f ⟨p, q, x, y⟩ X Y → TP.Loops f s0 X Y
  nu : nuP p + nuP q + i ≤ N
  len : l.length + p.length + q.length ≤ L0 + 8 * i
  sx : szM x + szP p + szP q ≤ S
  sy : szM y + szP p + szP q ≤ S
  lx : x.l.length ≤ 2 * i
  ly : y.l.length ≤ 2 * i
def trV (X Y : Mk) : Value := if rightG (X.l.map ofP) ∧ rightG (Y.l.map ofP) then .tuple #[rowP (X.l.map ofP), rowP (Y.l.map ofP), .int .i64 0] else .tuple #[rowP [], rowP [], .int .i64 3]
theorem transform_fn (a b : List GPiece) (f : Bool) (ha : rightG a) (hb : rightG b) :
    ∃ X Y, TP.Loops f ⟨TP.norm (a.map toP), TP.norm (b.map toP), ⟨[], 0⟩, ⟨[], 0⟩⟩ X Y ∧ Fn prog 278 [rowP a, rowP b, .bool f] (trV X Y) := by
  have main : ∃ v, (∃ X Y, v = trV X Y ∧ TP.Loops f ⟨TP.norm (a.map toP), TP.norm (b.map toP), ⟨[], 0⟩, ⟨[], 0⟩⟩ X Y) ∧ Fn prog 278 [rowP a, rowP b, .bool f] v := by
    refine fn_ex func278 ntmps278 results278 rfl (cl3 (rowP_clean a) (rowP_clean b) rfl) ?_
    have c1 := right_fn a
    have c2 := right_fn b
    rw [decide_eq_true ha] at c1
    rw [decide_eq_true hb] at c2
    obtain ⟨s1, l1, d1, acc1, hl1⟩ := (norm_own a ha).does .id (cl1 (rowP_clean a)) (row_clean encT_clean _) [AB.cells [.bool f] 4 (0, 0)] (by simp)
    obtain ⟨s2, l2, d2, acc2, hl2⟩ := (norm_own b hb).does .id (cl1 (rowP_clean b)) (row_clean encT_clean _) l1 (by simp at hl1; omega)
    simp only [List.length_cons, List.length_nil] at hl1
    have ho2 := acc2.own
    have ho1 : Own 104 3 l2 s1 (TP.norm (a.map toP)).length ((TP.norm (a.map toP)).flatMap encT) := acc1.own.grow fun c hc => acc2.base c (acc1.off c hc).2
    have hd12 : ∀ c, ownB s1 = some c → 1 ≤ c ∧ c < l1.length := fun c hc => by have := acc1.off c hc; simpa using this
    have hd2 : ∀ c, ownB s2 = some c → l1.length ≤ c ∧ c < l2.length := fun c hc => acc2.off c hc
    have h0 : l2[0]? = some (AB.cells [.bool f] 4 (0, 0)) := by
      rw [acc2.base 0 (by have := acc1.len; simp at this; omega)]
      exact (acc1.base 0 (by simp)).trans rfl
    have hl0 : 1 ≤ l1.length := by have := acc1.len; simpa using this
    have hl12 : l1.length ≤ l2.length := acc2.len
    obtain ⟨a1, n1, rfl⟩ := ho1.slice
    obtain ⟨a2, n2, rfl⟩ := ho2.slice
    have hz1 := norm_szs ha
    have hz2 := norm_szs hb
    have hF4 := four_start (f := f) ho1 ho2 (fun c hc => by have := hd12 c hc; exact this) hd2 hl0 hl12 h0
    generalize hN1 : TP.norm (a.map toP) = N1 at *
    generalize hN2 : TP.norm (b.map toP) = N2 at *
    have g1 : (l2 ++ [AB.cells [.slice none 0 0] 330 (0, 0)] ++ [AB.cells [.slice none 0 0] 330 (0, 0)])[l2.length]? = some (AB.cells [.slice none 0 0] 330 (0, 0)) := by simp
    have g2 : (l2 ++ [AB.cells [.slice none 0 0] 330 (0, 0)] ++ [AB.cells [.slice none 0 0] 330 (0, 0)])[l2.length + 1]? = some (AB.cells [.slice none 0 0] 330 (0, 0)) := by simp
    have k0 : l2.length < 16777216 := by omega
    have k1 : l2.length + 2 < 16777216 := by omega
    have k2 : l2.length + 1 + 2 < 16777216 := by omega
    have k3 : l2.length + 1 + 1 + 2 < 16777216 := by omega
    have k4 : l2.length + 1 + 1 + 1 + 2 < 16777216 := by omega
    have k5 : l2.length + 1 < 16777216 := by omega
    have k6 : l2.length + 1 + 1 < 16777216 := by omega
    have k7 : l2.length + 1 + 1 + 1 < 16777216 := by omega
    have k8 : l2.length + 1 + 1 + 1 + 1 < 16777216 := by omega
    have hF := @aFunc_func
    have n01 : ¬ l2.length = l2.length + 1 := by omega
    have n10 : ¬ l2.length + 1 = l2.length := by omega
    refine burst ?_
    refine sCall_fn c1 ?_
    refine burst ?_
    refine sCall_fn c2 ?_
    refine burst ?_
    refine sCall_does d1 ?_
    refine burst ?_
    refine sCall_does d2 ?_
    refine burst ?_
    have hI : TrI f ⟨N1, N2, ⟨[], 0⟩, ⟨[], 0⟩⟩ (nuP N1 + nuP N2) 16388 34359738368 0 (((l2 ++ [AB.cells [.slice none 0 0] 330 (0, 0)] ++ [AB.cells [.slice none 0 0] 330 (0, 0)]).set l2.length (AB.cells [.slice a1 N1.length n1] 330 (0, 0))).set (l2.length + 1) (AB.cells [.slice a2 N2.length n2] 330 (0, 0)) ++ [AB.cells [.slice none 0 0, .int .i64 0] 239 (0, 0)] ++ [AB.cells [.slice none 0 0, .int .i64 0] 239 (0, 0)]) l2.length (l2.length + 1) (l2.length + 1 + 1) (l2.length + 1 + 1 + 1) 0 N1 N2 ⟨[], 0⟩ ⟨[], 0⟩ := by
      have e0 : szM ⟨[], 0⟩ = 0 := rfl
      exact ⟨hF4, fun X Y h => h, by omega, by simp; omega, by omega, by omega, by simp, by simp⟩
    replace hI := Hid.mk hI
    have hNN : nuP N1 + nuP N2 ≤ 16384 := by
      have := nuP_le N1
      have := nuP_le N2
      omega
    generalize (((l2 ++ [AB.cells [.slice none 0 0] 330 (0, 0)] ++ [AB.cells [.slice none 0 0] 330 (0, 0)]).set l2.length (AB.cells [.slice a1 N1.length n1] 330 (0, 0))).set (l2.length + 1) (AB.cells [.slice a2 N2.length n2] 330 (0, 0)) ++ [AB.cells [.slice none 0 0, .int .i64 0] 239 (0, 0)] ++ [AB.cells [.slice none 0 0, .int .i64 0] 239 (0, 0)]) = M at *
    generalize hbp : l2.length = bp at *
    generalize hbq : bp + 1 = bq at *
    generalize hbx : bq + 1 = bx at *
    generalize hby : bx + 1 = by' at *
    generalize nuP N1 + nuP N2 = N at *
    refine W_for N (fun i tm A => ∃ l p q x y, A = mk l ∧ tget tm 9 = .pointer (some ⟨bp, 0, none⟩) ∧ tget tm 10 = .pointer (some ⟨bq, 0, none⟩) ∧ tget tm 11 = .pointer (some ⟨bx, 0, none⟩) ∧ tget tm 12 = .pointer (some ⟨by', 0, none⟩) ∧ tget tm 13 = .func (.func 309) #[] #[.pointer (some ⟨bp, 0, none⟩), .pointer (some ⟨bq, 0, none⟩), .pointer (some ⟨0, 0, none⟩), .pointer (some ⟨bx, 0, none⟩), .pointer (some ⟨by', 0, none⟩)] ∧
      Hid (TrI f ⟨N1, N2, ⟨[], 0⟩, ⟨[], 0⟩⟩ N 16388 34359738368 i l bp bq bx by' 0 p q x y)) ?_ 0 _ _ (by omega) ⟨M, N1, N2, ⟨[], 0⟩, ⟨[], 0⟩, rfl, look, look, look, look, look, hI⟩
    clear hF4 hz1 hz2 hI h0 g1 g2 k0 k1 k2 k3 k4 k5 k6 k7 k8 n01 n10 d1 d2 c1 c2 acc1 acc2 ho1 ho2 hd12 hd2 hl0 hl12 hl1 hl2 hbp hbq hbx hby
    rintro i tm A hi ⟨l, p, q, x, y, rfl, h9, h10, h11, h12, h13, hI⟩ next
    replace next := Hid.mk next
    obtain ⟨h4, hway, hnu, hlen, hsx, hsy, hlx, hly⟩ := hI.out
    obtain ⟨l1, d1, h41, g1, g2⟩ := puts_does h4 (by omega) (by omega) (by omega) (by omega) (by omega)
    have hps := puts_sz f p q x y
    have hw2 : ∀ X Y, TP.runs (TP.puts f ⟨p, q, x, y⟩) = none → X = (TP.puts f ⟨p, q, x, y⟩).x → Y = (TP.puts f ⟨p, q, x, y⟩).y → TP.Loops f ⟨N1, N2, ⟨[], 0⟩, ⟨[], 0⟩⟩ X Y := fun X Y h e1 e2 => by
      subst e1 e2
      exact hway _ _ (.stop h)
    have hw3 : ∀ s', TP.runs (TP.puts f ⟨p, q, x, y⟩) = some s' → ∀ X Y, TP.Loops f s' X Y → TP.Loops f ⟨N1, N2, ⟨[], 0⟩, ⟨[], 0⟩⟩ X Y := fun s' h X Y h2 => hway _ _ (.next h h2)
    have ep : TP.puts f ⟨p, q, x, y⟩ = ⟨(TP.puts f ⟨p, q, x, y⟩).p, (TP.puts f ⟨p, q, x, y⟩).q, (TP.puts f ⟨p, q, x, y⟩).x, (TP.puts f ⟨p, q, x, y⟩).y⟩ := rfl
    rw [ep] at hw2 hw3
    clear ep hway h4
    generalize (TP.puts f ⟨p, q, x, y⟩).p = p1 at *
    generalize (TP.puts f ⟨p, q, x, y⟩).q = q1 at *
    generalize (TP.puts f ⟨p, q, x, y⟩).x = x1 at *
    generalize (TP.puts f ⟨p, q, x, y⟩).y = y1 at *
    obtain ⟨Fp, Fq, hp1, hq1, hdj, kpq⟩ := h41.onPQ
    have zp : szP p1 ≤ 34359738368 := by omega
    obtain ⟨l2, Fp2, Fq2, d2, hp2, hq2, hdj2, m2⟩ := both_does hp1 hq1 hdj (by omega) (by omega) (by omega)
    have h42 := kpq hp2 hq2 hdj2 m2
    have hl2 := m2.le
    have hlp := rowRun_len p1
    have hlq := rowRun_len q1
    have k0 : l.length < 16777216 := by omega
    have k1 : l1.length < 16777216 := by omega
    have k2 : l2.length < 16777216 := by omega
    have d1 := d1 false
    have d2 := d2 false
    cases hs : (bothV p1 q1).2.2.2 with
    | false =>
      have eV : bothV p1 q1 = (0, false, false, false) := by
        unfold bothV at hs ⊢
        split at hs <;> simp_all
      have hend : ∃ X Y, trV x1 y1 = trV X Y ∧ TP.Loops f ⟨N1, N2, ⟨[], 0⟩, ⟨[], 0⟩⟩ X Y := ⟨x1, y1, rfl, hw2 _ _ (runs_none hs) rfl rfl⟩
      replace hend := Hid.mk hend
      rw [eV] at d2
      obtain ⟨Fx, hx2, _⟩ := h42.onX
      obtain ⟨Fy, hy2, _⟩ := h42.onY
      obtain ⟨vx, ox, dx⟩ := done_does hx2 k2
      obtain ⟨vy, oy, dy⟩ := done_does hy2 k2
      have dx := dx false
      have dy := dy false
      have fx : Hid (Frz (mk l2) vx (rowP (x1.l.map ofP))) := ⟨by
        have := ox.frz k2 (row_clean encT_clean x1.l)
        rw [encT_ofP] at this
        unfold rowP
        rw [List.length_map]; exact this⟩
      have fy : Hid (Frz (mk l2) vy (rowP (y1.l.map ofP))) := ⟨by
        have := oy.frz k2 (row_clean encT_clean y1.l)
        rw [encT_ofP] at this
        unfold rowP
        rw [List.length_map]; exact this⟩
      clear ox oy hx2 hy2 h42 h41 hp1 hq1 hp2 hq2 kpq hw2 hw3 hs eV zp hps hdj hdj2 m2 hlp hlq hl2 g1 g2 hlen hnu hsx hsy hlx hly next hI hNN
      have ev : trV x1 y1 = if decide (rightG (x1.l.map ofP)) = true ∧ decide (rightG (y1.l.map ofP)) = true then .tuple #[rowP (x1.l.map ofP), rowP (y1.l.map ofP), .int .i64 0] else .tuple #[rowP [], rowP [], .int .i64 3] := by
        unfold trV; simp only [decide_eq_true_eq]
      rw [ev] at hend
      clear ev
      generalize decide (rightG (x1.l.map ofP)) = c1 at *
      generalize decide (rightG (y1.l.map ofP)) = c2 at *
      cases c1 <;> cases c2 <;> simp only [Bool.false_eq_true, and_false, false_and, and_self, if_false, if_true] at hend
      case true.true =>
        refine burst ?_
        refine sCall_cap d1 ?_
        refine burst ?_
        refine sCall_does d2 ?_
        refine burst ?_
        refine sCall_does dx ?_
        refine burst ?_
        refine sCall_does dy ?_
        refine burst ?_
        exact ⟨_, _, rfl, (.tuple (.cons fx.out (.cons fy.out (.clean rfl)))), hend.out⟩
      all_goals
        refine burst ?_
        refine sCall_cap d1 ?_
        refine burst ?_
        refine sCall_does d2 ?_
        refine burst ?_
        refine sCall_does dx ?_
        refine burst ?_
        refine sCall_does dy ?_
        refine burst ?_
        exact ⟨_, _, rfl, (.tuple (.cons .nil (.cons .nil (.clean rfl)))), hend.out⟩
    | true =>
      have hrs := runs_some (x := x1) (y := y1) hs
      have hrl := runs_less hs
      have hbl : (bothR p1 q1).1.length = (TP.rowRun p1).1.length ∧ (bothR p1 q1).2.length = (TP.rowRun q1).1.length := hrl.2.2
      replace hw3 := hw3 _ hrs
      have sX := stepX_sz (bothV p1 q1).1 (bothV p1 q1).2.1 (bothV p1 q1).2.2.1 x1
      have sY := stepY_sz (bothV p1 q1).1 (bothV p1 q1).2.1 (bothV p1 q1).2.2.1 y1
      obtain ⟨Fx, hx2, kx⟩ := h42.onX
      obtain ⟨Fy, hy2, ky⟩ := h42.onY
      have hlt : i < N := by
        have := hrl.1
        have := hps.2.1
        omega
      have hi1 : nuP p1 + nuP q1 = nuP p + nuP q := by have := hps.2.1; omega
      have kT : ∀ (l3 : List AB) (x3 y3 : Mk), Four l3 bp bq bx by' 0 f (bothR p1 q1).1 (bothR p1 q1).2 x3 y3 → l3.length ≤ l2.length + 2 → x3 = stepX (bothV p1 q1).1 (bothV p1 q1).2.1 (bothV p1 q1).2.2.1 x1 → y3 = stepY (bothV p1 q1).1 (bothV p1 q1).2.1 (bothV p1 q1).2.2.1 y1 → Hid (TrI f ⟨N1, N2, ⟨[], 0⟩, ⟨[], 0⟩⟩ N 16388 34359738368 (i + 1) l3 bp bq bx by' 0 (bothR p1 q1).1 (bothR p1 q1).2 x3 y3) := fun l3 x3 y3 hf hle e1 e2 => by
        obtain ⟨⟨z1, z2⟩, ⟨z3, z4⟩, ⟨z5, z6⟩, z7, z8⟩ := hps
        obtain ⟨r1, r2, r3, r4⟩ := hrl
        rw [← e1] at sX
        rw [← e2] at sY
        refine ⟨⟨hf, fun X Y h => hw3 X Y (e1 ▸ e2 ▸ h), ?_, ?_, ?_, ?_, ?_, ?_⟩⟩
        · omega
        · omega
        · omega
        · omega
        · omega
        · omega
      have hsz1 : szM x1 + (bothV p1 q1).1 < 4611686018427387904 := by
        obtain ⟨⟨z1, z2⟩, ⟨z3, z4⟩, ⟨z5, z6⟩, z7, z8⟩ := hps
        have := hrl.2.1
        omega
      have hsz2 : szM y1 + (bothV p1 q1).1 < 4611686018427387904 := by
        obtain ⟨⟨z1, z2⟩, ⟨z3, z4⟩, ⟨z5, z6⟩, z7, z8⟩ := hps
        have := hrl.2.1
        omega
      have hlx1 : x1.l.length + 1 ≤ 16777216 := by have := hps.2.2.2.1; omega
      have hly1 : y1.l.length + 1 ≤ 16777216 := by have := hps.2.2.2.2; omega
      have k2' : l2.length + 3 < 16777216 := by omega
      clear sX sY hw3 hrs hrl hbl hw2 zp hps hdj hdj2 m2 hlp hlq g1 g2 hlen hnu hsx hsy hlx hly hI hNN h41 hp1 hq1 hp2 hq2 kpq hi1
      generalize (bothR p1 q1).1 = p3 at *
      generalize (bothR p1 q1).2 = q3 at *
      rcases hV : bothV p1 q1 with ⟨n, dx, dy, fl⟩
      rw [hV] at hs d2 kT hsz1 hsz2
      simp only at hs d2 kT hsz1 hsz2
      subst hs
      clear hV
      cases dx <;> cases dy
      case true.true =>
        replace kT := kT l2 x1 y1 h42 (by omega) rfl rfl
        clear hx2 hy2 kx ky h42
        refine burst ?_
        refine sCall_cap d1 ?_
        refine burst ?_
        refine sCall_does d2 ?_
        refine burst ?_
        exact next.out _ _ hlt ⟨_, _, _, _, _, rfl, look, look, look, look, look, kT⟩
      case true.false =>
        obtain ⟨l3, F3, d3, hx3, m3⟩ := mdrop_does l2 bx x1 Fx n hx2 k2' hlx1 hsz1
        replace kT := kT l3 (x1.drop n) y1 (kx hx3 m3) m3.le rfl rfl
        have d3 := d3 false
        clear hx2 hy2 kx ky h42 hx3 m3
        refine burst ?_
        refine sCall_cap d1 ?_
        refine burst ?_
        refine sCall_does d2 ?_
        refine burst ?_
        refine sCall_does d3 ?_
        refine burst ?_
        exact next.out _ _ hlt ⟨_, _, _, _, _, rfl, look, look, look, look, look, kT⟩
      case false.true =>
        obtain ⟨l3, F3, d3, hy3, m3⟩ := mdrop_does l2 by' y1 Fy n hy2 k2' hly1 hsz2
        replace kT := kT l3 x1 (y1.drop n) (ky hy3 m3) m3.le rfl rfl
        have d3 := d3 false
        clear hx2 hy2 kx ky h42 hy3 m3
        refine burst ?_
        refine sCall_cap d1 ?_
        refine burst ?_
        refine sCall_does d2 ?_
        refine burst ?_
        refine sCall_does d3 ?_
        refine burst ?_
        exact next.out _ _ hlt ⟨_, _, _, _, _, rfl, look, look, look, look, look, kT⟩
      case false.false =>
        obtain ⟨v3, e3, hx3, m3⟩ := hx2.more n
        have h43 := kx hx3 m3
        obtain ⟨Fy3, hy3, ky3⟩ := h43.onY
        obtain ⟨v4, e4, hy4, m4⟩ := hy3.more n
        replace kT := kT _ (x1.kept n) (y1.kept n) (ky3 hy4 m4) (by simp) rfl rfl
        have hkx : x1.keep ≤ szM x1 := by unfold szM; omega
        have hky : y1.keep ≤ szM y1 := by unfold szM; omega
        have hw5 : IntKind.i64.wrap ((x1.keep : Int) + (n : Int)) = ((x1.keep + n : Nat) : Int) := by rw [wrap_in (by omega) (by omega)]; omega
        have hw6 : IntKind.i64.wrap ((y1.keep : Int) + (n : Int)) = ((y1.keep + n : Nat) : Int) := by rw [wrap_in (by omega) (by omega)]; omega
        clear hx2 hy2 kx ky h42 hx3 m3 h43 hy3 ky3 hy4 m4 hkx hky
        refine burst ?_
        refine sCall_cap d1 ?_
        refine burst ?_
        refine sCall_does d2 ?_
        refine burst ?_
        exact next.out _ _ hlt ⟨_, _, _, _, _, rfl, look, look, look, look, look, kT⟩
  obtain ⟨v, ⟨X, Y, rfl, h⟩, hf⟩ := main
  exact ⟨X, Y, h, hf⟩
end Go.Ev
namespace Go.Ev
open Go Go.Proofs Tryz
open TP (Str Tree Nd Mk)
set_option maxRecDepth 100000
set_option maxHeartbeats 4000000
theorem buildSlice_two {P : Program} {l : List AB} {t e s : Nat} {z : Value} {vs : List (Nat × Value)} {cs : List Value} (h1 : P.underlying t = some (.slice e)) (h2 : szof P e = some s) (h3 : zeroOf P e = some z) (h5 : 0 < s ∧ s ≤ 1048576) (hl : l.length + 2 < 16777216)
    (hf : Instr.fill (fun i => some (i * s, s)) ((Array.range (2 * s)).map ((if 2 * s = 0 then #[] else z.cells)[· % (if 2 * s = 0 then #[] else z.cells).size]!)) vs = some ⟨cs⟩) :
    abuildSlice P (mk l) t 2 vs = some (.slice (some ⟨l.length, 0, none⟩) 2 2, mk (l ++ [.cells cs e (0, 0)])) := by
  unfold abuildSlice
  rw [h1]
  simp only
  rw [h2, h3]
  simp only
  rw [if_neg (by unfold big; omega)]
  rw [hf]
  simp only
  rw [mk_anew hl]
theorem two27 {l : List AB} (a b : GOp) (hl : l.length + 2 < 16777216) : abuildSlice prog (mk l) 27 2 [(0, vOp a), (1, vOp b)] = some (.slice (some ⟨l.length, 0, none⟩) 2 2, mk (l ++ [.cells (opC a ++ opC b) 67 (0, 0)])) :=
  buildSlice_two underlying27 sz67 zr67 (by decide) hl (by kernel_rfl)
theorem two41 {l : List AB} {n m : Nat} {c d : List Value} (hl : l.length + 2 < 16777216) : abuildSlice prog (mk l) 41 2 [(0, frow n c), (1, frow m d)] = some (.slice (some ⟨l.length, 0, none⟩) 2 2, mk (l ++ [.cells [frow n c, frow m d] 27 (0, 0)])) :=
  buildSlice_two underlying41 sz27 zr27 (by decide) hl (by kernel_rfl)
inductive Arr (e : Nat) (l : List AB) : Value → Nat → List Value → Prop where
  | nil : Arr e l (.slice none 0 0) 0 []
  | arr {b n : Nat} {cs : List Value} : l[b]? = some (.cells cs e (0, 0)) → Arr e l (.slice (some ⟨b, 0, none⟩) n n) n cs
def FnA (f : FuncId) (args : List Value) (F : Value → Value) (e n : Nat) (cs : List Value) : Prop :=
  ∃ (sl : Value) (l : List AB), CallsW prog f args (mk []) (F sl) (mk l) ∧ Arr e l sl n cs ∧ l.length < 16777216
theorem FnA.does {f : FuncId} {args : List Value} {F : Value → Value} {e n : Nat} {cs : List Value} (h : FnA f args F e n cs) (hF : VCtx F) (hargs : cleanL args = true) (hcs : cleanL cs = true) (hn : n < big) (l : List AB) (hl : l.length + 2 < 16777216) :
    ∃ sl l', Does prog (.call f args false) (mk l) (F sl) (mk l') ∧ ((sl = .slice none 0 0 ∧ l' = l ∧ n = 0 ∧ cs = []) ∨ (sl = .slice (some ⟨l.length, 0, none⟩) n n ∧ l' = l ++ [AB.cells cs e (0, 0)])) := by
  obtain ⟨sl, m, hc, ho, hm⟩ := h
  rw [← mk_nil] at hc
  have hpd := mk_pend l
  have hroom : (mk l).next + 2 < 2 ^ 24 := by rw [mk_next]; omega
  cases ho with
  | nil =>
    have hcl : clean (F (.slice none 0 0)) = true := hF.ok _ _ rfl
    have hfn : Fn prog f args (F (.slice none 0 0)) := .of hc hargs (.clean hcl)
    exact ⟨_, l, hfn false (mk l), .inl ⟨rfl, rfl, rfl, rfl⟩⟩
  | @arr b n cs hb =>
    have hd := does_own (A := mk l) (v := F (.slice (some ⟨b, 0, none⟩) n n)) (v' := F (.slice (some ⟨l.length, 0, none⟩) n n)) (b := b) (ab := .cells cs e (0, 0)) (d := false) hc hargs (by rw [mk_get _ m b rfl (by simpa using hm)]; exact hb) hcs hpd hroom (fun φ ψ w V hE h1 h2 hV => hF.rv φ ψ w _ _ V hE (fun U hU => by
      simp only [RV] at hU ⊢
      subst hU
      rw [mk_next] at h1 h2
      simp [renA, renCap, h1, hn]) hV) (hF.ok _ _ (by
      simp only [vok]
      rw [AS.ok_iff]
      exact .inl ⟨by show l.length < (mk l).next + 1; rw [mk_next]; omega, by show l.length ∉ (mk l).pend; rw [hpd]; simp⟩))
    rw [mk_put] at hd
    exact ⟨_, _, hd, .inr ⟨rfl, rfl⟩⟩
theorem FnA.fn {f : FuncId} {args : List Value} {F : Value → Value} {e n : Nat} {cs : List Value} {v : Value} (h : FnA f args F e n cs) (hargs : cleanL args = true) (hF : ∀ {l : List AB} {sl : Value}, Arr e l sl n cs → l.length < 16777216 → Frz (mk l) (F sl) v) : Fn prog f args v := by
  obtain ⟨sl, l, hc, ho, hl⟩ := h
  rw [← mk_nil] at hc
  exact .of hc hargs (hF ho hl)
theorem fnA_is {ns : Nat} {f : FuncId} {fn : Func} {body : Code} {args : List Value} {F : Value → Value} {e n : Nat} {cs : List Value} {rs : Array ResultVar} (hfn : prog.funcs[f]? = some fn) (hns : fn.ntmps = ns) (hrs : fn.results = rs) (hbody : fn.body = some body)
    (h : W prog ns [.code body] (setArgs args 0 .nil) (mk []) fun tm A' => ∃ vs sl l, aresults prog tm A' rs.toList = some vs ∧ tupleOf vs = F sl ∧ A' = mk l ∧ Arr e l sl n cs ∧ l.length < 16777216)
    (h1 : args.length ≤ ns := by exact Nat.le_of_ble_eq_true rfl) (h2 : ns < 65535 := by decide) (hok : codeOk body = true := by kernel_rfl) : FnA f args F e n cs := by
  subst hns hrs
  obtain ⟨v0, A', ⟨sl, l, rfl, rfl, ho, hl⟩, hc⟩ := fn_calls (R := fun v0 A' => ∃ sl l, v0 = F sl ∧ A' = mk l ∧ Arr e l sl n cs ∧ l.length < 16777216) cfgOK mixed hfn hbody h1 h2 hok (by
    obtain ⟨m, hm⟩ := h
    refine ⟨m, ?_⟩
    have e : (fun (tm : Trie Value) (A' : AS) => ∃ vs sl l, aresults prog tm A' fn.results.toList = some vs ∧ tupleOf vs = F sl ∧ A' = mk l ∧ Arr e l sl n cs ∧ l.length < 16777216) = fun tm A' => ∃ vs, aresults prog tm A' fn.results.toList = some vs ∧ ∃ sl l, tupleOf vs = F sl ∧ A' = mk l ∧ Arr e l sl n cs ∧ l.length < 16777216 := by
      funext tm A'
      apply propext
      constructor
      · rintro ⟨vs, sl, l, q1, q2⟩; exact ⟨vs, q1, sl, l, q2⟩
      · rintro ⟨vs, q1, sl, l, q2⟩; exact ⟨vs, sl, l, q1, q2⟩
    rw [e] at hm; exact hm)
  exact ⟨sl, l, hc, ho, hl⟩
theorem arr0 {F : Value → Value} {e : Nat} {l : List AB} {vs : List Value} (h : tupleOf vs = F (.slice none 0 0)) (hl : l.length < 16777216) : ∃ vs' sl l', some vs = some vs' ∧ tupleOf vs' = F sl ∧ mk l = mk l' ∧ Arr e l' sl 0 [] ∧ l'.length < 16777216 := ⟨_, _, _, rfl, h, rfl, .nil, hl⟩
theorem arrN {F : Value → Value} {e b n : Nat} {cs : List Value} {l : List AB} {vs : List Value} (h : tupleOf vs = F (.slice (some ⟨b, 0, none⟩) n n)) (hb : l[b]? = some (.cells cs e (0, 0))) (hl : l.length < 16777216) : ∃ vs' sl l', some vs = some vs' ∧ tupleOf vs' = F sl ∧ mk l = mk l' ∧ Arr e l' sl n cs ∧ l'.length < 16777216 := ⟨_, _, _, rfl, h, rfl, .arr hb, hl⟩
end Go.Ev
namespace Go.Ev
open Go Go.Proofs Tryz
open TP (Str Tree Nd Mk)
set_option maxRecDepth 100000
set_option maxHeartbeats 4000000
def nd (a : GOp) (p : List Int) : List Int := (nodeG a p).getD []
def rowW (b a : GOp) (f : Bool) : List GOp :=
  if a.kind = 2 then (if a.path <+: b.path then [] else if b.kind = 3 ∧ a.path <+: b.to then [dropG (nd a b.path)] else [shiftG b a f])
  else if wonG b a then (if f = true then [shiftG b a f] else [])
  else if ¬ a.kind = 3 then [shiftG b a f]
  else if b.kind = 2 then (if b.path <+: a.path ∧ ¬ b.path = a.path ∧ ¬ b.path <+: a.to then [dropG (nd a a.path), dropG (nd (dropG (nd a a.path)) (nd a b.path))] else [shiftG b a f])
  else if b.kind = 3 ∧ b.path <+: a.to ∧ a.path <+: b.to then (if f = true then [undoG a, b] else [])
  else [shiftG b a f]
def textG (b a : GOp) : Prop := a.kind = 6 ∧ b.kind = 6 ∧ a.path = b.path
instance (b a : GOp) : Decidable (textG b a) := by unfold textG; infer_instance
def okO (o : GOp) : Prop := formG o ∧ o.to.length ≤ 65536 ∧ o.pieces.length ≤ 65536
theorem okO.len {o : GOp} (h : okO o) : lenG o := ⟨by have := h.1.1.1; omega, by have := h.2.1; omega⟩
section
variable {b a : GOp} {f : Bool}
theorem rowA_fn (hb : okO b) (ha : okO a) (h2 : a.kind = 2) : FnA 221 [vOp b, vOp a, .bool f] (fun s => .tuple #[s, .int .i64 0]) 67 (rowW b a f).length ((rowW b a f).flatMap opC) := by
  refine fnA_is func221 ntmps221 results221 rfl ?_
  have c1 := within_fn a.path b.path ha.len.1
  have e : rowW b a f = if a.path <+: b.path then [] else if b.kind = 3 ∧ a.path <+: b.to then [dropG (nd a b.path)] else [shiftG b a f] := if_pos h2
  rw [e]
  clear e
  replace h2 := decide_eq_true h2
  by_cases h1 : a.path <+: b.path
  · rw [if_pos h1]
    rw [decide_eq_true h1] at c1
    clear h1
    refine burst ?_
    refine sCall_fn c1 ?_
    refine burst ?_
    refine goto_to rfl ?_
    refine burst ?_
    exact arr0 rfl (by simp)
  rw [if_neg h1]
  rw [decide_eq_false h1] at c1
  clear h1
  have c2 := within_fn a.path b.to ha.len.1
  have c5 := shifted_fn b a ha.len hb.1 f
  by_cases h4 : b.kind = 3
  case neg =>
    rw [if_neg (fun h => h4 h.1)]
    replace h4 := decide_eq_false h4
    simp only [vOp, opC] at c5
    generalize shiftG b a f = s at *
    refine burst ?_
    refine sCall_fn c1 ?_
    refine burst ?_
    refine sCall_fn c5 ?_
    refine burst ?_
    exact arrN rfl rfl (by simp)
  by_cases h5 : a.path <+: b.to
  case neg =>
    rw [if_neg (fun h => h5 h.2)]
    replace h4 := decide_eq_true h4
    rw [decide_eq_false h5] at c2
    clear h5
    simp only [vOp, opC] at c5
    generalize shiftG b a f = s at *
    refine burst ?_
    refine sCall_fn c1 ?_
    refine burst ?_
    refine sCall_fn c2 ?_
    refine burst ?_
    refine sCall_fn c5 ?_
    refine burst ?_
    exact arrN rfl rfl (by simp)
  rw [if_pos ⟨h4, h5⟩]
  rw [decide_eq_true h5] at c2
  replace h4 := decide_eq_true h4
  have c3 := node_fn a ha.len b.path hb.1.1.near
  have c4 := sqdrop_fn (nd a b.path)
  change Fn _ _ _ (.tuple #[rowI (nd a b.path), _]) at c3
  generalize nd a b.path = q at *
  simp only [vOp, opC] at c3
  clear h5 c5
  refine burst ?_
  refine sCall_fn c1 ?_
  refine burst ?_
  refine sCall_fn c2 ?_
  refine burst ?_
  refine sCall_fn c3 ?_
  refine burst ?_
  refine sCall_fn c4 ?_
  refine burst ?_
  exact arrN rfl rfl (by simp)
theorem rowB_fn (hb : okO b) (ha : okO a) (h2 : ¬ a.kind = 2) (hw : wonG b a) : FnA 221 [vOp b, vOp a, .bool f] (fun s => .tuple #[s, .int .i64 0]) 67 (rowW b a f).length ((rowW b a f).flatMap opC) := by
  refine fnA_is func221 ntmps221 results221 rfl ?_
  have e : rowW b a f = if f = true then [shiftG b a f] else [] := by unfold rowW; rw [if_neg h2, if_pos hw]
  rw [e]
  have c1 := won_fn b a ha.len.1
  rw [decide_eq_true hw] at c1
  have c5 := shifted_fn b a ha.len hb.1 f
  replace h2 := decide_eq_false h2
  clear e hw
  simp only [vOp, opC] at c1 c5
  cases f with
  | false =>
    refine burst ?_
    refine sCall_fn c1 ?_
    refine burst ?_
    refine goto_to rfl ?_
    refine burst ?_
    exact arr0 rfl (by simp)
  | true =>
    generalize shiftG b a true = s at *
    refine burst ?_
    refine sCall_fn c1 ?_
    refine burst ?_
    refine sCall_fn c5 ?_
    refine burst ?_
    exact arrN rfl rfl (by simp)
end
end Go.Ev
namespace Go.Ev
open Go Go.Proofs Tryz
open TP (Str Tree Nd Mk)
set_option maxRecDepth 100000
set_option maxHeartbeats 4000000
section
variable {b a : GOp} {f : Bool}
theorem rowC_fn (hb : okO b) (ha : okO a) (h2 : ¬ a.kind = 2) (hw : ¬ wonG b a) (h3 : ¬ a.kind = 3) (ht : ¬ textG b a) : FnA 221 [vOp b, vOp a, .bool f] (fun s => .tuple #[s, .int .i64 0]) 67 (rowW b a f).length ((rowW b a f).flatMap opC) := by
  refine fnA_is func221 ntmps221 results221 rfl ?_
  have e : rowW b a f = [shiftG b a f] := by unfold rowW; rw [if_neg h2, if_neg hw, if_pos h3]
  rw [e]
  have c1 := won_fn b a ha.len.1
  rw [decide_eq_false hw] at c1
  have c5 := shifted_fn b a ha.len hb.1 f
  have c2 := same_fn a.path b.path ha.len.1
  replace h2 := decide_eq_false h2
  replace h3 := decide_eq_false h3
  clear e hw
  simp only [vOp, opC] at c1 c5
  generalize shiftG b a f = s at *
  by_cases h6 : a.kind = 6
  case neg =>
    replace h6 := decide_eq_false h6
    clear ht
    refine burst ?_
    refine sCall_fn c1 ?_
    refine burst ?_
    refine sCall_fn c5 ?_
    refine burst ?_
    exact arrN rfl rfl (by simp)
  by_cases h7 : b.kind = 6
  case neg =>
    replace h6 := decide_eq_true h6
    replace h7 := decide_eq_false h7
    clear ht
    refine burst ?_
    refine sCall_fn c1 ?_
    refine burst ?_
    refine sCall_fn c5 ?_
    refine burst ?_
    exact arrN rfl rfl (by simp)
  have h8 : ¬ a.path = b.path := fun h => ht ⟨h6, h7, h⟩
  rw [decide_eq_false h8] at c2
  replace h6 := decide_eq_true h6
  replace h7 := decide_eq_true h7
  clear ht h8
  refine burst ?_
  refine sCall_fn c1 ?_
  refine burst ?_
  refine sCall_fn c2 ?_
  refine burst ?_
  refine sCall_fn c5 ?_
  refine burst ?_
  exact arrN rfl rfl (by simp)
theorem rowT_fn (hb : okO b) (ha : okO a) (ht : textG b a) : ∃ X Y, TP.Loops f ⟨TP.norm (b.pieces.map toP), TP.norm (a.pieces.map toP), ⟨[], 0⟩, ⟨[], 0⟩⟩ X Y ∧
    FnA 221 [vOp b, vOp a, .bool f] (fun s => .tuple #[s, .int .i64 (if rightG (X.l.map ofP) ∧ rightG (Y.l.map ofP) then 0 else 3)]) 67 1 (opC { b with pieces := if rightG (X.l.map ofP) ∧ rightG (Y.l.map ofP) then X.l.map ofP else [] }) := by
  obtain ⟨h6, h7, h8⟩ := ht
  have hra : rightG a.pieces := by
    have := ha.1.2
    unfold formK at this
    simpa [h6] using this
  have hrb : rightG b.pieces := by
    have := hb.1.2
    unfold formK at this
    simpa [h7] using this
  obtain ⟨X, Y, hL, c3⟩ := transform_fn b.pieces a.pieces f hrb hra
  refine ⟨X, Y, hL, ?_⟩
  refine fnA_is func221 ntmps221 results221 rfl ?_
  have hw : ¬ wonG b a := fun h => by
    have := h.2.2; omega
  have c1 := won_fn b a ha.len.1
  rw [decide_eq_false hw] at c1
  have c2 := same_fn a.path b.path ha.len.1
  rw [decide_eq_true h8] at c2
  have h2 : decide (a.kind = 2) = false := decide_eq_false (by omega)
  have h3 : decide (a.kind = 3) = false := decide_eq_false (by omega)
  replace h6 := decide_eq_true h6
  replace h7 := decide_eq_true h7
  clear hw h8 hL
  simp only [vOp, opC] at c1
  unfold trV at c3
  generalize X.l.map ofP = x at *
  generalize Y.l.map ofP = y at *
  by_cases hr : rightG x ∧ rightG y
  · simp only [if_pos hr] at c3 ⊢
    clear hr
    refine burst ?_
    refine sCall_fn c1 ?_
    refine burst ?_
    refine sCall_fn c2 ?_
    refine burst ?_
    refine sCall_fn c3 ?_
    refine burst ?_
    exact arrN rfl rfl (by simp)
  · simp only [if_neg hr] at c3 ⊢
    clear hr
    refine burst ?_
    refine sCall_fn c1 ?_
    refine burst ?_
    refine sCall_fn c2 ?_
    refine burst ?_
    refine sCall_fn c3 ?_
    refine burst ?_
    exact arrN rfl rfl (by simp)
end
end Go.Ev
namespace Go.Ev
open Go Go.Proofs Tryz
open TP (Str Tree Nd Mk)
set_option maxRecDepth 100000
set_option maxHeartbeats 4000000
theorem lastI_nn {p : List Int} (h : mayP p) : 0 ≤ lastI p := by
  unfold lastI
  rcases List.eq_nil_or_concat p with rfl | ⟨q, x, rfl⟩
  · simp
  · have := h.2 x (by simp)
    simp; omega
theorem numI_near {o : GOp} (hm : movesG o) {p : List Int} {k : Int} (h0 : 0 ≤ k) (h1 : k ≤ 1048576) : 0 ≤ numI (chgOf o) p k ∧ numI (chgOf o) p k ≤ 1048577 := by
  have h : 0 ≤ (chgOf o).at_ := by
    unfold chgOf
    by_cases h : o.kind = 1
    · simp [h]
    · simp only [if_neg h]; exact lastI_nn hm.1.1
  unfold numI
  constructor <;> (split <;> split <;> omega)
theorem numL_near {o : GOp} (hm : movesG o) {p : List Int} (hp : mayP p) : ∀ x ∈ numL (chgOf o) p, 0 ≤ x ∧ x ≤ 1048577 := by
  intro x hx
  unfold numL at hx
  obtain ⟨j, hj, rfl⟩ := List.mem_map.1 hx
  have hj := List.mem_range.1 hj
  have := hp.2 p[j] (List.getElem_mem hj)
  have e : p.getD j 0 = p[j] := by simp [List.getD_eq_getElem?_getD, List.getElem?_eq_getElem hj]
  unfold numAt
  rw [e]
  exact numI_near hm (by omega) (by omega)
theorem nd_near {o : GOp} {p : List Int} (hp : mayP p) : nearP (nd o p) ∧ (nd o p).length ≤ 200 := by
  unfold nd nodeG
  split
  case isFalse => exact ⟨hp.near, by have := hp.1; simp; omega⟩
  rename_i hm
  split
  · rename_i ht
    split
    · rename_i hu
      have h3 : o.kind = 3 ∧ gapG o ∧ mayP o.to := by
        have h1 : ¬ o.kind = 1 := fun h => by simp [chgOf, h] at ht
        have h2 : ¬ o.kind = 2 := fun h => by simp [chgOf, h] at hu
        have h4 := hm.2
        rw [if_neg h1, if_neg h2] at h4
        have hk := hm.1.2
        unfold formK at hk
        rw [if_neg h1, if_neg h2] at hk
        split at h4
        · rename_i h3
          rw [if_pos h3] at hk
          exact ⟨h3, hk⟩
        · exact h4.elim
      have h1 := hp.1
      have h2 := h3.2.2.1
      have hl : (numL (chgOf o) o.to ++ [landI (chgOf o)] ++ p.drop o.path.length).length ≤ 200 := by
        simp [numL_length]; omega
      refine ⟨⟨by simp only [Option.getD_some]; omega, fun x hx => ?_⟩, hl⟩
      simp only [Option.getD_some, List.mem_append, List.mem_cons, List.not_mem_nil, or_false] at hx
      rcases hx with (hx | rfl) | hx
      · exact numL_near hm h3.2.2 x hx
      · have g1 := h3.2.1.1
        have g2 := h3.2.1.2
        have g3 := lastI_nn hm.1.1
        have e : (chgOf o).at_ = lastI o.path := by simp [chgOf, h3.1]
        have e2 : (chgOf o).gap = o.at_ := rfl
        unfold landI
        rw [e, e2]
        split <;> omega
      · have := hp.2 x (List.mem_of_mem_drop hx); omega
    · exact ⟨⟨by simp, by simp⟩, by simp⟩
  · refine ⟨⟨?_, numL_near hm hp⟩, ?_⟩
    · simp [numL_length]; have := hp.1; omega
    · simp [numL_length]; have := hp.1; omega
section
variable {b a : GOp} {f : Bool}
theorem rowW3 (h2 : a.kind = 3) (hw : ¬ wonG b a) : rowW b a f = if b.kind = 2 then (if b.path <+: a.path ∧ ¬ b.path = a.path ∧ ¬ b.path <+: a.to then [dropG (nd a a.path), dropG (nd (dropG (nd a a.path)) (nd a b.path))] else [shiftG b a f])
    else if b.kind = 3 ∧ b.path <+: a.to ∧ a.path <+: b.to then (if f = true then [undoG a, b] else []) else [shiftG b a f] := by
  unfold rowW; rw [if_neg (by omega), if_neg hw, if_neg (by omega)]
theorem rowD_fn (hb : okO b) (ha : okO a) (h3 : a.kind = 3) (hw : ¬ wonG b a) (hk : b.kind = 2) : FnA 221 [vOp b, vOp a, .bool f] (fun s => .tuple #[s, .int .i64 0]) 67 (rowW b a f).length ((rowW b a f).flatMap opC) := by
  refine fnA_is func221 ntmps221 results221 rfl ?_
  rw [rowW3 h3 hw, if_pos hk]
  have c1 := won_fn b a ha.len.1
  rw [decide_eq_false hw] at c1
  have c2 := within_fn b.path a.path hb.len.1
  have c3 := same_fn b.path a.path hb.len.1
  have c4 := within_fn b.path a.to hb.len.1
  have c5 := shifted_fn b a ha.len hb.1 f
  have c6 := node_fn a ha.len a.path ha.1.1.near
  have c7 := node_fn a ha.len b.path hb.1.1.near
  have n1 := nd_near (o := a) ha.1.1
  have n2 := nd_near (o := a) hb.1.1
  have c8 := node_fn (dropG (nd a a.path)) ⟨by have := n1.2; show (nd a a.path).length < _; omega, by simp [dropG, zeroO]⟩ (nd a b.path) n2.1
  have c9 := sqdrop_fn (nd a a.path)
  have c10 := sqdrop_fn (nd (dropG (nd a a.path)) (nd a b.path))
  have c11 := two27 (l := [AB.cells (opC b) 67 (0, 0), AB.cells (opC a) 67 (0, 0)]) (dropG (nd a a.path)) (dropG (nd (dropG (nd a a.path)) (nd a b.path))) (by simp)
  change Fn _ _ _ (.tuple #[rowI (nd a a.path), _]) at c6
  change Fn _ _ _ (.tuple #[rowI (nd a b.path), _]) at c7
  change Fn _ _ _ (.tuple #[rowI (nd (dropG (nd a a.path)) (nd a b.path)), _]) at c8
  generalize nd (dropG (nd a a.path)) (nd a b.path) = q3 at *
  generalize nd a a.path = q1 at *
  generalize nd a b.path = q2 at *
  generalize (nodeG (dropG q1) q2).isSome = s3 at *
  generalize (nodeG a a.path).isSome = s1 at *
  generalize (nodeG a b.path).isSome = s2 at *
  generalize shiftG b a f = s at *
  have h2 : decide (a.kind = 2) = false := decide_eq_false (by omega)
  have h4 : decide (a.kind = 3) = true := decide_eq_true h3
  have h5 : decide (b.kind = 2) = true := decide_eq_true hk
  simp only [vOp, opC] at c1 c5 c6 c7 c8 c11
  simp only [vOp, opC] at c9 c10
  simp only [List.cons_append, List.nil_append] at c11
  clear h3 hw hk n1 n2
  by_cases k1 : b.path <+: a.path
  case neg =>
    rw [if_neg (fun h => k1 h.1)]
    rw [decide_eq_false k1] at c2
    clear k1 c11
    refine burst ?_
    refine sCall_fn c1 ?_
    refine burst ?_
    refine sCall_fn c2 ?_
    refine burst ?_
    refine sCall_fn c5 ?_
    refine burst ?_
    exact arrN rfl rfl (by simp)
  rw [decide_eq_true k1] at c2
  by_cases k2 : b.path = a.path
  case pos =>
    rw [if_neg (fun h => h.2.1 k2)]
    rw [decide_eq_true k2] at c3
    clear k1 k2 c11
    refine burst ?_
    refine sCall_fn c1 ?_
    refine burst ?_
    refine sCall_fn c2 ?_
    refine burst ?_
    refine sCall_fn c3 ?_
    refine burst ?_
    refine sCall_fn c5 ?_
    refine burst ?_
    exact arrN rfl rfl (by simp)
  rw [decide_eq_false k2] at c3
  by_cases k3 : b.path <+: a.to
  case pos =>
    rw [if_neg (fun h => h.2.2 k3)]
    rw [decide_eq_true k3] at c4
    clear k1 k2 k3 c11
    refine burst ?_
    refine sCall_fn c1 ?_
    refine burst ?_
    refine sCall_fn c2 ?_
    refine burst ?_
    refine sCall_fn c3 ?_
    refine burst ?_
    refine sCall_fn c4 ?_
    refine burst ?_
    refine sCall_fn c5 ?_
    refine burst ?_
    exact arrN rfl rfl (by simp)
  rw [decide_eq_false k3] at c4
  rw [if_pos ⟨k1, k2, k3⟩]
  clear k1 k2 k3
  refine burst ?_
  refine sCall_fn c1 ?_
  refine burst ?_
  refine sCall_fn c2 ?_
  refine burst ?_
  refine sCall_fn c3 ?_
  refine burst ?_
  refine sCall_fn c4 ?_
  refine burst ?_
  refine sCall_fn c6 ?_
  refine burst ?_
  refine sCall_fn c7 ?_
  refine burst ?_
  refine sCall_fn c9 ?_
  refine burst ?_
  refine sCall_fn c8 ?_
  refine burst ?_
  refine sCall_fn c9 ?_
  refine burst ?_
  refine sCall_fn c10 ?_
  refine burst ?_
  exact arrN rfl rfl (by simp)
theorem rowE_fn (hb : okO b) (ha : okO a) (h3 : a.kind = 3) (hs : soundG a) (hw : ¬ wonG b a) (hk : ¬ b.kind = 2) : FnA 221 [vOp b, vOp a, .bool f] (fun s => .tuple #[s, .int .i64 0]) 67 (rowW b a f).length ((rowW b a f).flatMap opC) := by
  refine fnA_is func221 ntmps221 results221 rfl ?_
  rw [rowW3 h3 hw, if_neg hk]
  have c1 := won_fn b a ha.len.1
  rw [decide_eq_false hw] at c1
  have c2 := within_fn b.path a.to hb.len.1
  have c3 := within_fn a.path b.to ha.len.1
  have c5 := shifted_fn b a ha.len hb.1 f
  have c6 := undo_fn a ha.len ⟨ha.1, by rw [if_neg (by omega), if_neg (by omega), if_pos h3]; exact hs.2.2 h3⟩ h3
  have c11 := two27 (l := [AB.cells (opC b) 67 (0, 0), AB.cells (opC a) 67 (0, 0)]) (undoG a) b (by simp)
  generalize undoG a = u at *
  generalize shiftG b a f = s at *
  have h2 : decide (a.kind = 2) = false := decide_eq_false (by omega)
  have h4 : decide (a.kind = 3) = true := decide_eq_true h3
  have h5 : decide (b.kind = 2) = false := decide_eq_false hk
  simp only [vOp, opC] at c1 c5 c6 c11
  simp only [List.cons_append, List.nil_append] at c11
  clear h3 hw hk hs
  by_cases k1 : b.kind = 3
  case neg =>
    rw [if_neg (fun h => k1 h.1)]
    replace k1 := decide_eq_false k1
    clear c11
    refine burst ?_
    refine sCall_fn c1 ?_
    refine burst ?_
    refine sCall_fn c5 ?_
    refine burst ?_
    exact arrN rfl rfl (by simp)
  by_cases k2 : b.path <+: a.to
  case neg =>
    rw [if_neg (fun h => k2 h.2.1)]
    replace k1 := decide_eq_true k1
    rw [decide_eq_false k2] at c2
    clear c11 k2
    refine burst ?_
    refine sCall_fn c1 ?_
    refine burst ?_
    refine sCall_fn c2 ?_
    refine burst ?_
    refine sCall_fn c5 ?_
    refine burst ?_
    exact arrN rfl rfl (by simp)
  rw [decide_eq_true k2] at c2
  by_cases k3 : a.path <+: b.to
  case neg =>
    rw [if_neg (fun h => k3 h.2.2)]
    replace k1 := decide_eq_true k1
    rw [decide_eq_false k3] at c3
    clear c11 k2 k3
    refine burst ?_
    refine sCall_fn c1 ?_
    refine burst ?_
    refine sCall_fn c2 ?_
    refine burst ?_
    refine sCall_fn c3 ?_
    refine burst ?_
    refine sCall_fn c5 ?_
    refine burst ?_
    exact arrN rfl rfl (by simp)
  rw [decide_eq_true k3] at c3
  rw [if_pos ⟨k1, k2, k3⟩]
  replace k1 := decide_eq_true k1
  clear k2 k3
  cases f with
  | false =>
    clear c11
    refine burst ?_
    refine sCall_fn c1 ?_
    refine burst ?_
    refine sCall_fn c2 ?_
    refine burst ?_
    refine sCall_fn c3 ?_
    refine burst ?_
    refine goto_to rfl ?_
    refine burst ?_
    exact arr0 rfl (by simp)
  | true =>
    refine burst ?_
    refine sCall_fn c1 ?_
    refine burst ?_
    refine sCall_fn c2 ?_
    refine burst ?_
    refine sCall_fn c3 ?_
    refine burst ?_
    refine sDraw_free cfgOK (by kernel_rfl) ?_
    refine burst ?_
    refine sCall_fn c6 ?_
    refine burst ?_
    exact arrN rfl rfl (by simp)
end
end Go.Ev
namespace Go.Ev
open Go Go.Proofs Tryz
open TP (Str Tree Nd Mk)
set_option maxRecDepth 100000
set_option maxHeartbeats 4000000
theorem nd_len (o : GOp) (p : List Int) : (nd o p).length ≤ p.length + 65 := by
  unfold nd nodeG
  split
  case isFalse => simp
  rename_i hm
  split
  · rename_i ht
    split
    · rename_i hu
      have h3 : mayP o.to := by
        have h1 : ¬ o.kind = 1 := fun h => by simp [chgOf, h] at ht
        have h2 : ¬ o.kind = 2 := fun h => by simp [chgOf, h] at hu
        have h4 := hm.2
        rw [if_neg h1, if_neg h2] at h4
        have hk := hm.1.2
        unfold formK at hk
        rw [if_neg h1, if_neg h2] at hk
        split at h4
        · rename_i h3
          rw [if_pos h3] at hk
          exact hk.2
        · exact h4.elim
      have := h3.1
      simp [numL_length]; omega
    · simp
  · simp [numL_length]
theorem gapA_nd (a : GOp) (p : List Int) (k : Int) (f : Bool) : (gapA a p k f).1 = nd a p := by
  unfold gapA nd
  split <;> rename_i h <;> simp [h]
def sizeO (o : GOp) : Prop := o.path.length ≤ 1000 ∧ o.to.length ≤ 65536 ∧ o.pieces.length ≤ 65536
theorem okO.size {o : GOp} (h : okO o) : sizeO o := ⟨by have := h.1.1.1; omega, h.2.1, h.2.2⟩
theorem sizeO.len {o : GOp} (h : sizeO o) : lenG o := ⟨by have := h.1; omega, by have := h.2.1; omega⟩
theorem size_drop {p : List Int} (h : p.length ≤ 1000) : sizeO (dropG p) := ⟨h, by simp [dropG, zeroO], by simp [dropG, zeroO]⟩
theorem size_shift {b a : GOp} {f : Bool} (hb : okO b) : sizeO (shiftG b a f) := by
  have h1 := nd_len a b.path
  have h2 := nd_len a b.to
  have h3 := hb.1.1.1
  have h4 := hb.2
  have e : (nodeG a b.path).getD [] = nd a b.path := rfl
  unfold shiftG
  rw [e]
  split
  · exact ⟨by show (nd a b.path).length ≤ _; omega, h4⟩
  · split
    · rename_i k3
      have h5 : mayP b.to := by
        have := hb.1.2
        unfold formK at this
        simp [k3] at this
        exact this.2
      have := h5.1
      exact ⟨by show (nd a b.path).length ≤ _; omega, by show (gapA a b.to b.at_ f).1.length ≤ _; rw [gapA_nd]; omega, h4.2⟩
    · exact ⟨by show (nd a b.path).length ≤ _; omega, h4⟩
theorem size_undo {a : GOp} (ha : okO a) : sizeO (undoG a) := by
  have h1 := nd_len a a.path
  have h2 := nd_len a (chgOf a).from_
  have h3 := ha.1.1.1
  have h4 : (chgOf a).from_.length ≤ 64 := by simp only [chgOf]; split <;> simp; omega
  exact ⟨by show (nd a a.path).length ≤ _; omega, by show (nd a (chgOf a).from_).length ≤ _; omega, by simp [undoG, zeroO]⟩
theorem size_rowW {b a : GOp} {f : Bool} (hb : okO b) (ha : okO a) : (∀ o ∈ rowW b a f, sizeO o) ∧ (rowW b a f).length ≤ 2 := by
  have h1 := nd_len a b.path
  have h2 := nd_len a a.path
  have h3 := hb.1.1.1
  have h4 := ha.1.1.1
  have h5 := nd_len (dropG (nd a a.path)) (nd a b.path)
  have hs := size_shift (a := a) (f := f) hb
  have hu := size_undo ha
  have hst : sizeO (shiftG b a true) := size_shift hb
  have hbs := hb.size
  have d1 : sizeO (dropG (nd a b.path)) := size_drop (by omega)
  have d2 : sizeO (dropG (nd a a.path)) := size_drop (by omega)
  have d3 : sizeO (dropG (nd (dropG (nd a a.path)) (nd a b.path))) := size_drop (by omega)
  unfold rowW
  repeat' split
  all_goals simp [*]
def RowIs (b a : GOp) (f : Bool) (l : List GOp) (e : Int) : Prop :=
  (¬ textG b a ∧ l = rowW b a f ∧ e = 0) ∨ (textG b a ∧ ∃ X Y, TP.Loops f ⟨TP.norm (b.pieces.map toP), TP.norm (a.pieces.map toP), ⟨[], 0⟩, ⟨[], 0⟩⟩ X Y ∧
    l = [{ b with pieces := if rightG (X.l.map ofP) ∧ rightG (Y.l.map ofP) then X.l.map ofP else [] }] ∧ e = if rightG (X.l.map ofP) ∧ rightG (Y.l.map ofP) then 0 else 3)
theorem row_fnA {b a : GOp} {f : Bool} (hb : okO b) (ha : okO a) (hs : soundG a) : ∃ l e, RowIs b a f l e ∧ (∀ o ∈ l, sizeO o) ∧ l.length ≤ 2 ∧ (e = 0 ∨ e = 3) ∧ FnA 221 [vOp b, vOp a, .bool f] (fun s => .tuple #[s, .int .i64 e]) 67 l.length (l.flatMap opC) := by
  have hsz := size_rowW (f := f) hb ha
  by_cases ht : textG b a
  · obtain ⟨X, Y, hL, c⟩ := rowT_fn (f := f) hb ha ht
    refine ⟨_, _, .inr ⟨ht, X, Y, hL, rfl, rfl⟩, ?_, by simp, by split <;> simp, by simpa using c⟩
    intro o ho
    simp only [List.mem_cons, List.not_mem_nil, or_false] at ho
    subst ho
    refine ⟨hb.size.1, hb.2.1, ?_⟩
    show (if _ then _ else _ : List GPiece).length ≤ _
    split
    · rename_i h; have := h.1.1; omega
    · simp
  refine ⟨_, _, .inl ⟨ht, rfl, rfl⟩, hsz.1, hsz.2, .inl rfl, ?_⟩
  by_cases h2 : a.kind = 2
  · exact rowA_fn hb ha h2
  by_cases hw : wonG b a
  · exact rowB_fn hb ha h2 hw
  by_cases h3 : a.kind = 3
  case neg => exact rowC_fn hb ha h2 hw h3 ht
  by_cases hk : b.kind = 2
  · exact rowD_fn hb ha h3 hw hk
  · exact rowE_fn hb ha h3 hs hw hk
end Go.Ev
namespace Go.Ev
open Go Go.Proofs Tryz
open TP (Str Tree Nd Mk)
set_option maxRecDepth 100000
set_option maxHeartbeats 4000000
theorem W_again {P : Program} {ns : Nat} {b : Code} {k : List Item} {tm : Trie Value} {A : AS} {Q : Trie Value → AS → Prop} (h : W P ns (.code b :: .inLoop b :: k) tm A Q) : W P ns (.inLoop b :: k) tm A Q := by
  rw [W_inLoop]; exact h
theorem row0_frz {A : AS} {n : Nat} : Frz A (tupleOf [.slice none 0 0, .int .i64 n]) (.tuple #[rowO [], .int .i64 n]) := .tuple (.cons .nil (.clean rfl))
theorem rowN_frz {l : List AB} {n b : Nat} {cs : List Value} {os : List GOp} (h : l[b]? = some (AB.cells cs 67 (0, 0))) (hc : cs = os.flatMap opC) (hl : l.length < 16777216) (hn : os.length < big) : Frz (mk l) (tupleOf [.slice (some ⟨b, 0, none⟩) os.length os.length, .int .i64 n]) (.tuple #[rowO os, .int .i64 n]) := by
  subst hc
  refine .tuple (.cons (.row rfl (k := (os.flatMap opC).length) (l := os.flatMap opC) ?_ (.clean (row_clean opC_clean os)) (by rw [if_pos hn]; exact Nat.le_refl _)) (.clean rfl))
  rw [cellsAt_mk hl, h, cellsO_cells]
  show (if 0 + (os.flatMap opC).length ≤ (os.flatMap opC).length then some (((os.flatMap opC).drop 0).take (os.flatMap opC).length) else none) = _
  rw [if_pos (by omega), List.drop_zero, List.take_length]
theorem W_gen {P : Program} {ns : Nat} {k : List Item} {tm : Trie Value} {A : AS} {Q : Trie Value → AS → Prop} (I : Trie Value → AS → Prop) (h : I tm A) (h2 : ∀ tm A, I tm A → W P ns k tm A Q) : W P ns k tm A Q := h2 _ _ h
theorem behind_fn {b a : GOp} {f : Bool} (hb : okO b) (ha : okO a) (hsb : soundG b) (hsa : soundG a) : ∃ l e, RowIs b a f l e ∧ (∀ o ∈ l, sizeO o) ∧
    Fn prog 146 [vOp b, vOp a, .bool f] (if e = 0 ∧ ∀ o ∈ l, formG o then .tuple #[rowO (l.map bareG), .int .i64 0] else .tuple #[rowO [], .int .i64 3]) := by
  obtain ⟨l, e, hR, hsz, hlen, he, hF⟩ := row_fnA (f := f) hb ha hsa
  refine ⟨l, e, hR, hsz, ?_⟩
  refine fn_is func146 ntmps146 results146 rfl cfgOK mixed (cl3 (vOp_clean b) (vOp_clean a) rfl) ?_
  have c1 := sound_fn a ha.len
  have c2 := sound_fn b hb.len
  rw [decide_eq_true hsa] at c1
  rw [decide_eq_true hsb] at c2
  obtain ⟨sl, l', d3, hor⟩ := hF.does (.tup rfl) (cl3 (vOp_clean b) (vOp_clean a) rfl) (row_clean opC_clean l) (by unfold big; omega) [AB.cells (opC b) 67 (0, 0), AB.cells (opC a) 67 (0, 0)] (by simp)
  simp only [vOp, opC] at c1 c2 d3
  clear hR hF hsb hsa hb ha
  have i30 : decide ((3 : Int) = 0) = false := by decide
  have i00 : decide ((0 : Int) = 0) = true := by decide
  have i0 : decide ((0 : Int) < ((0 : Nat) : Int)) = false := by decide
  have i1 : decide ((0 : Int) < ((1 : Nat) : Int)) = true := by decide
  have i2 : decide ((1 : Int) < ((1 : Nat) : Int)) = false := by decide
  have i3 : decide ((0 : Int) < ((2 : Nat) : Int)) = true := by decide
  have i4 : decide ((1 : Int) < ((2 : Nat) : Int)) = true := by decide
  have i5 : decide ((2 : Int) < ((2 : Nat) : Int)) = false := by decide
  have iw1 : IntKind.i64.wrap (0 + 1) = 1 := by decide
  have iw2 : IntKind.i64.wrap (1 + 1) = 2 := by decide
  rcases he with rfl | rfl
  case inr =>
    rw [if_neg (fun h => by simp at h)]
    rcases hor with ⟨rfl, rfl, hl0, _⟩ | ⟨rfl, rfl⟩
    · clear hl0
      refine burst ?_
      refine sCall_fn c1 ?_
      refine burst ?_
      refine sCall_fn c2 ?_
      refine burst ?_
      refine sCall_does d3 ?_
      refine burst ?_
      exact ⟨_, rfl, row0_frz (n := 3)⟩
    · generalize l.flatMap opC = cs at *
      generalize l.length = n at *
      refine burst ?_
      refine sCall_fn c1 ?_
      refine burst ?_
      refine sCall_fn c2 ?_
      refine burst ?_
      refine sCall_does d3 ?_
      refine burst ?_
      exact ⟨_, rfl, row0_frz (n := 3)⟩
  simp only [true_and]
  rcases hor with ⟨rfl, rfl, hl0, _⟩ | ⟨rfl, rfl⟩
  · have hl0 := List.eq_nil_of_length_eq_zero hl0
    subst hl0
    rw [if_pos (by simp)]
    simp only [List.length_nil, List.map_nil] at d3 ⊢
    refine burst ?_
    refine sCall_fn c1 ?_
    refine burst ?_
    refine sCall_fn c2 ?_
    refine burst ?_
    refine sCall_does d3 ?_
    refine burst ?_
    refine W_gen (fun tm A => A = mk [AB.cells (opC b) 67 (0, 0), AB.cells (opC a) 67 (0, 0)] ∧ tget tm 8 = .slice none 0 0 ∧ tget tm 29 = .slice none 0 0 ∧ tget tm 30 = .int .i64 ((0 : Nat) : Int) ∧ tget tm 31 = .int .i64 0) ⟨rfl, look, look, look, look⟩ ?_
    rintro tm A ⟨rfl, t8, t29, t30, t31⟩
    refine W_again ?_
    refine burst ?_
    exact ⟨_, rfl, row0_frz (n := 0)⟩
  have eO : ∀ o, opC o = [.int .u8 o.kind, rowI o.path, .int .i64 o.at_, rowI o.to, .int .u64 o.id, .bool o.leaf, .string (bs o.label), .string (bs o.key), .string (bs o.value), .bool o.gone, rowP o.pieces] := fun _ => rfl
  match l, hlen with
  | [], _ =>
    rw [if_pos (by simp)]
    simp only [List.length_nil, List.length_cons, List.flatMap_nil, List.map_nil, List.cons_append, List.nil_append] at d3 ⊢
    refine burst ?_
    refine sCall_fn c1 ?_
    refine burst ?_
    refine sCall_fn c2 ?_
    refine burst ?_
    refine sCall_does d3 ?_
    refine burst ?_
    refine W_gen (fun tm A => A = mk [AB.cells (opC b) 67 (0, 0), AB.cells (opC a) 67 (0, 0), AB.cells [] 67 (0, 0)] ∧ tget tm 8 = .slice (some ⟨2, 0, none⟩) 0 0 ∧ tget tm 29 = .slice (some ⟨2, 0, none⟩) 0 0 ∧ tget tm 30 = .int .i64 ((0 : Nat) : Int) ∧ tget tm 31 = .int .i64 0) ⟨rfl, look, look, look, look⟩ ?_
    rintro tm A ⟨rfl, t8, t29, t30, t31⟩
    refine W_again ?_
    refine burst ?_
    exact ⟨_, rfl, rowN_frz (os := []) (n := 0) rfl rfl (by simp) (by simp [big])⟩
  | [x], _ =>
    have hx := hsz x (by simp)
    have c4 := formed_fn x hx.len
    have c5 := bare_fn x (by have := hx.1; omega) (by have := hx.2.1; omega) (by have := hx.2.2; omega)
    simp only [List.length_nil, List.length_cons, List.flatMap_nil, List.flatMap_cons, List.append_nil, List.cons_append, List.nil_append, opC, Nat.zero_add] at d3
    by_cases h1 : formG x
    case neg =>
      rw [if_neg (by simp [h1])]
      rw [decide_eq_false h1] at c4
      simp only [vOp, opC] at c4
      refine burst ?_
      refine sCall_fn c1 ?_
      refine burst ?_
      refine sCall_fn c2 ?_
      refine burst ?_
      refine sCall_does d3 ?_
      refine burst ?_
      refine W_gen (fun tm A => A = mk [AB.cells (opC b) 67 (0, 0), AB.cells (opC a) 67 (0, 0), AB.cells (opC x) 67 (0, 0)] ∧ tget tm 8 = .slice (some ⟨2, 0, none⟩) 1 1 ∧ tget tm 29 = .slice (some ⟨2, 0, none⟩) 1 1 ∧ tget tm 30 = .int .i64 ((1 : Nat) : Int) ∧ tget tm 31 = .int .i64 0) ⟨rfl, look, look, look, look⟩ ?_
      rintro tm A ⟨rfl, t8, t29, t30, t31⟩
      refine W_again ?_
      refine burst ?_
      refine sCall_fn c4 ?_
      refine burst ?_
      exact ⟨_, rfl, row0_frz (n := 3)⟩
    rw [if_pos (by simp [h1])]
    rw [decide_eq_true h1] at c4
    simp only [vOp, opC] at c4 c5
    rw [List.map_cons, List.map_nil]
    generalize bareG x = x' at *
    refine burst ?_
    refine sCall_fn c1 ?_
    refine burst ?_
    refine sCall_fn c2 ?_
    refine burst ?_
    refine sCall_does d3 ?_
    refine burst ?_
    refine W_gen (fun tm A => A = mk [AB.cells (opC b) 67 (0, 0), AB.cells (opC a) 67 (0, 0), AB.cells (opC x) 67 (0, 0)] ∧ tget tm 8 = .slice (some ⟨2, 0, none⟩) 1 1 ∧ tget tm 29 = .slice (some ⟨2, 0, none⟩) 1 1 ∧ tget tm 30 = .int .i64 ((1 : Nat) : Int) ∧ tget tm 31 = .int .i64 0) ⟨rfl, look, look, look, look⟩ ?_
    rintro tm A ⟨rfl, t8, t29, t30, t31⟩
    refine W_again ?_
    refine burst ?_
    refine sCall_fn c4 ?_
    refine burst ?_
    refine sCall_fn c5 ?_
    refine burst ?_
    refine W_gen (fun tm A => A = mk [AB.cells (opC b) 67 (0, 0), AB.cells (opC a) 67 (0, 0), AB.cells (opC x') 67 (0, 0), AB.cells (opC x) 67 (0, 0)] ∧ tget tm 8 = .slice (some ⟨2, 0, none⟩) 1 1 ∧ tget tm 29 = .slice (some ⟨2, 0, none⟩) 1 1 ∧ tget tm 30 = .int .i64 ((1 : Nat) : Int) ∧ tget tm 31 = .int .i64 1) ⟨rfl, look, look, look, look⟩ ?_
    rintro tm A ⟨rfl, t8, t29, t30, t31⟩
    refine W_again ?_
    refine burst ?_
    exact ⟨_, rfl, rowN_frz (os := [x']) (n := 0) rfl rfl (by simp) (by simp [big])⟩
  | [x, y], _ =>
    have hx := hsz x (by simp)
    have hy := hsz y (by simp)
    have c4 := formed_fn x hx.len
    have c5 := bare_fn x (by have := hx.1; omega) (by have := hx.2.1; omega) (by have := hx.2.2; omega)
    have c6 := formed_fn y hy.len
    have c7 := bare_fn y (by have := hy.1; omega) (by have := hy.2.1; omega) (by have := hy.2.2; omega)
    simp only [List.length_nil, List.length_cons, List.flatMap_nil, List.flatMap_cons, List.append_nil, List.cons_append, List.nil_append, opC, Nat.zero_add] at d3
    by_cases h1 : formG x
    case neg =>
      rw [if_neg (by simp [h1])]
      rw [decide_eq_false h1] at c4
      clear c5 c6 c7
      simp only [vOp, opC] at c4
      refine burst ?_
      refine sCall_fn c1 ?_
      refine burst ?_
      refine sCall_fn c2 ?_
      refine burst ?_
      refine sCall_does d3 ?_
      refine burst ?_
      refine W_gen (fun tm A => A = mk [AB.cells (opC b) 67 (0, 0), AB.cells (opC a) 67 (0, 0), AB.cells (opC x ++ opC y) 67 (0, 0)] ∧ tget tm 8 = .slice (some ⟨2, 0, none⟩) 2 2 ∧ tget tm 29 = .slice (some ⟨2, 0, none⟩) 2 2 ∧ tget tm 30 = .int .i64 ((2 : Nat) : Int) ∧ tget tm 31 = .int .i64 0) ⟨rfl, look, look, look, look⟩ ?_
      rintro tm A ⟨rfl, t8, t29, t30, t31⟩
      refine W_again ?_
      refine burst ?_
      refine sCall_fn c4 ?_
      refine burst ?_
      exact ⟨_, rfl, row0_frz (n := 3)⟩
    rw [decide_eq_true h1] at c4
    by_cases h2 : formG y
    case neg =>
      rw [if_neg (by simp [h2])]
      rw [decide_eq_false h2] at c6
      simp only [vOp, opC] at c4 c5 c6
      clear c7
      generalize bareG x = x' at *
      refine burst ?_
      refine sCall_fn c1 ?_
      refine burst ?_
      refine sCall_fn c2 ?_
      refine burst ?_
      refine sCall_does d3 ?_
      refine burst ?_
      refine W_gen (fun tm A => A = mk [AB.cells (opC b) 67 (0, 0), AB.cells (opC a) 67 (0, 0), AB.cells (opC x ++ opC y) 67 (0, 0)] ∧ tget tm 8 = .slice (some ⟨2, 0, none⟩) 2 2 ∧ tget tm 29 = .slice (some ⟨2, 0, none⟩) 2 2 ∧ tget tm 30 = .int .i64 ((2 : Nat) : Int) ∧ tget tm 31 = .int .i64 0) ⟨rfl, look, look, look, look⟩ ?_
      rintro tm A ⟨rfl, t8, t29, t30, t31⟩
      refine W_again ?_
      refine burst ?_
      refine sCall_fn c4 ?_
      refine burst ?_
      refine sCall_fn c5 ?_
      refine burst ?_
      refine W_gen (fun tm A => A = mk [AB.cells (opC b) 67 (0, 0), AB.cells (opC a) 67 (0, 0), AB.cells (opC x' ++ opC y) 67 (0, 0), AB.cells (opC x) 67 (0, 0)] ∧ tget tm 8 = .slice (some ⟨2, 0, none⟩) 2 2 ∧ tget tm 29 = .slice (some ⟨2, 0, none⟩) 2 2 ∧ tget tm 30 = .int .i64 ((2 : Nat) : Int) ∧ tget tm 31 = .int .i64 1) ⟨rfl, look, look, look, look⟩ ?_
      rintro tm A ⟨rfl, t8, t29, t30, t31⟩
      refine W_again ?_
      refine burst ?_
      refine sCall_fn c6 ?_
      refine burst ?_
      exact ⟨_, rfl, row0_frz (n := 3)⟩
    rw [if_pos (by simp [h1, h2])]
    rw [decide_eq_true h2] at c6
    simp only [vOp, opC] at c4 c5 c6 c7
    rw [List.map_cons, List.map_cons, List.map_nil]
    generalize bareG x = x' at *
    generalize bareG y = y' at *
    refine burst ?_
    refine sCall_fn c1 ?_
    refine burst ?_
    refine sCall_fn c2 ?_
    refine burst ?_
    refine sCall_does d3 ?_
    refine burst ?_
    refine W_gen (fun tm A => A = mk [AB.cells (opC b) 67 (0, 0), AB.cells (opC a) 67 (0, 0), AB.cells (opC x ++ opC y) 67 (0, 0)] ∧ tget tm 8 = .slice (some ⟨2, 0, none⟩) 2 2 ∧ tget tm 29 = .slice (some ⟨2, 0, none⟩) 2 2 ∧ tget tm 30 = .int .i64 ((2 : Nat) : Int) ∧ tget tm 31 = .int .i64 0) ⟨rfl, look, look, look, look⟩ ?_
    rintro tm A ⟨rfl, t8, t29, t30, t31⟩
    refine W_again ?_
    refine burst ?_
    refine sCall_fn c4 ?_
    refine burst ?_
    refine sCall_fn c5 ?_
    refine burst ?_
    refine W_gen (fun tm A => A = mk [AB.cells (opC b) 67 (0, 0), AB.cells (opC a) 67 (0, 0), AB.cells (opC x' ++ opC y) 67 (0, 0), AB.cells (opC x) 67 (0, 0)] ∧ tget tm 8 = .slice (some ⟨2, 0, none⟩) 2 2 ∧ tget tm 29 = .slice (some ⟨2, 0, none⟩) 2 2 ∧ tget tm 30 = .int .i64 ((2 : Nat) : Int) ∧ tget tm 31 = .int .i64 1) ⟨rfl, look, look, look, look⟩ ?_
    rintro tm A ⟨rfl, t8, t29, t30, t31⟩
    refine W_again ?_
    refine burst ?_
    refine sCall_fn c6 ?_
    refine burst ?_
    refine sCall_fn c7 ?_
    refine burst ?_
    refine W_gen (fun tm A => A = mk [AB.cells (opC b) 67 (0, 0), AB.cells (opC a) 67 (0, 0), AB.cells (opC x' ++ opC y') 67 (0, 0), AB.cells (opC x) 67 (0, 0), AB.cells (opC y) 67 (0, 0)] ∧ tget tm 8 = .slice (some ⟨2, 0, none⟩) 2 2 ∧ tget tm 29 = .slice (some ⟨2, 0, none⟩) 2 2 ∧ tget tm 30 = .int .i64 ((2 : Nat) : Int) ∧ tget tm 31 = .int .i64 2) ⟨rfl, look, look, look, look⟩ ?_
    rintro tm A ⟨rfl, t8, t29, t30, t31⟩
    refine W_again ?_
    refine burst ?_
    exact ⟨_, rfl, rowN_frz (os := [x', y']) (n := 0) rfl rfl (by simp) (by simp [big])⟩
end Go.Ev
namespace Go.Ev
open Go Go.Proofs Tryz
open TP (Str Tree Nd Mk)
set_option maxRecDepth 100000
set_option maxHeartbeats 4000000
theorem both_fn {a b : GOp} {f : Bool} (ha : okO a) (hb : okO b) (hsa : soundG a) (hsb : soundG b) : ∃ l e l' e', RowIs a b f l e ∧ RowIs b a (!f) l' e' ∧ (∀ o ∈ l, sizeO o) ∧ (∀ o ∈ l', sizeO o) ∧
    Fn prog 78 [vOp a, vOp b, .bool f] (if (e = 0 ∧ ∀ o ∈ l, formG o) ∧ (e' = 0 ∧ ∀ o ∈ l', formG o) then .tuple #[rowO (l.map bareG), rowO (l'.map bareG), .int .i64 0] else .tuple #[rowO [], rowO [], .int .i64 3]) := by
  obtain ⟨l, e, r1, s1, c1⟩ := behind_fn (f := f) ha hb hsa hsb
  obtain ⟨l', e', r2, s2, c2⟩ := behind_fn (f := !f) hb ha hsb hsa
  refine ⟨l, e, l', e', r1, r2, s1, s2, ?_⟩
  refine fn_is func78 ntmps78 results78 rfl cfgOK mixed (cl3 (vOp_clean a) (vOp_clean b) rfl) ?_
  have i30 : decide ((3 : Int) = 0) = false := by decide
  have i00 : decide ((0 : Int) = 0) = true := by decide
  have z0 : rowO [] = frow 0 [] := rfl
  simp only [vOp, opC] at c1 c2
  clear r1 r2 s1 s2
  by_cases h1 : e = 0 ∧ ∀ o ∈ l, formG o
  case neg =>
    rw [if_neg (fun h => h1 h.1)]
    rw [if_neg h1] at c1
    clear h1 c2
    refine burst ?_
    refine sCall_fn c1 ?_
    refine burst ?_
    exact ⟨_, rfl, .tuple (.cons .nil (.cons .nil (.clean rfl)))⟩
  rw [if_pos h1] at c1
  by_cases h2 : e' = 0 ∧ ∀ o ∈ l', formG o
  case neg =>
    rw [if_neg (fun h => h2 h.2)]
    rw [if_neg h2] at c2
    clear h1 h2
    generalize l.map bareG = x at *
    refine burst ?_
    refine sCall_fn c1 ?_
    refine burst ?_
    refine sCall_fn c2 ?_
    refine burst ?_
    exact ⟨_, rfl, .tuple (.cons .nil (.cons .nil (.clean rfl)))⟩
  rw [if_pos ⟨h1, h2⟩]
  rw [if_pos h2] at c2
  clear h1 h2
  generalize l.map bareG = x at *
  generalize l'.map bareG = y at *
  refine burst ?_
  refine sCall_fn c1 ?_
  refine burst ?_
  refine sCall_fn c2 ?_
  refine burst ?_
  exact ⟨_, rfl, .tuple (.cons (.clean (rowO_clean x)) (.cons (.clean (rowO_clean y)) (.clean rfl)))⟩
end Go.Ev
namespace Go.Ev
open Go Go.Proofs Tryz
open TP (Str Tree Nd Mk)
def strip (k : Nat) : Option (List Nat) → Option (List Nat)
  | some (i :: P) => if i = k then some P else none
  | _ => none
def numN (P t : Option (List Nat)) (c g : Nat) : List Nat → List Nat
  | [] => []
  | k :: r => ((if P = some [] ∧ c < k then k - 1 else k) + (if t = some [] ∧ g ≤ k then 1 else 0)) :: numN (strip k P) (strip k t) c g r
theorem strip_some {k : Nat} {P : Option (List Nat)} {X : List Nat} : strip k P = some X ↔ P = some (k :: X) := by
  unfold strip
  split
  · split
    · rename_i h; subst h; simp
    · rename_i h; simp [h]
  · rename_i h
    simp only [reduceCtorEq, false_iff]
    exact fun e => h _ _ e
theorem numN_none (c g : Nat) : ∀ q : List Nat, numN none none c g q = q
  | [] => rfl
  | k :: r => by rw [numN]; simp [strip, numN_none c g r]
theorem numN_ins (c g : Nat) : ∀ (q P : List Nat), numN none (some P) c g q = TP.nIns g P q
  | [], P => by cases P <;> rfl
  | k :: r, [] => by rw [numN]; simp [strip, numN_none, TP.nIns]; split <;> rfl
  | k :: r, i :: P => by
    rw [numN]
    simp only [reduceCtorEq, false_and, if_false, Option.some.injEq, Nat.add_zero, TP.nIns, strip]
    split
    · rw [numN_ins c g r P]
    · rw [numN_none]
theorem numN_del (c g : Nat) : ∀ (q P : List Nat), numN (some P) none c g q = TP.nDel c P q
  | [], P => by cases P <;> rfl
  | k :: r, [] => by rw [numN]; simp [strip, numN_none, TP.nDel]
  | k :: r, i :: P => by
    rw [numN]
    simp only [reduceCtorEq, false_and, if_false, Option.some.injEq, Nat.add_zero, TP.nDel, strip]
    split
    · rw [numN_del c g r P]
    · rw [numN_none]
theorem numN_mov (c g : Nat) : ∀ (q P t : List Nat), ¬ (P ++ [c]) <+: q → ¬ (P ++ [c]) <+: t → numN (some P) (some t) c g q = TP.nIns (TP.landG P c t g) (TP.nDel c P t) (TP.nDel c P q)
  | [], P, t, _, _ => by
    have : TP.nDel c P [] = [] := by cases P <;> rfl
    rw [this]
    generalize TP.nDel c P t = T
    cases T <;> rfl
  | k :: r, [], [], hq, _ => by
    have hk : c ≠ k := fun e => hq (by simp [e])
    rw [numN]
    simp only [strip, numN_none, TP.nDel, TP.nIns, TP.landG, true_and, List.cons.injEq, and_true]
    repeat' split
    all_goals omega
  | k :: r, [], i :: t, hq, ht => by
    have hk : c ≠ k := fun e => hq (by simp [e])
    have hi : c ≠ i := fun e => ht (by simp [e])
    rw [numN]
    have e2 : TP.landG [] c (i :: t) g = g := if_neg (fun h => by cases h.1)
    rw [e2]
    simp only [strip, TP.nDel, TP.nIns, true_and, reduceCtorEq, Option.some.injEq, false_and, if_false, Nat.add_zero]
    by_cases e : i = k
    · subst e
      rw [if_pos rfl, if_pos rfl, numN_ins]
    · rw [if_neg e, numN_none, if_neg (show ¬ (if c < i then i - 1 else i) = (if c < k then k - 1 else k) from by split <;> split <;> omega)]
  | k :: r, j :: P, [], hq, ht => by
    rw [numN]
    have e2 : TP.landG (j :: P) c [] g = g := if_neg (fun h => by cases h.1)
    rw [e2]
    simp only [strip, TP.nDel, true_and, reduceCtorEq, Option.some.injEq, false_and, if_false]
    by_cases e : j = k
    · subst e
      rw [if_pos rfl, if_pos rfl, numN_del]
      simp only [TP.nIns, List.cons.injEq, and_true]
      split <;> omega
    · rw [if_neg e, numN_none, if_neg e]
      simp only [TP.nIns, List.cons.injEq, and_true]
      split <;> omega
  | k :: r, j :: P, i :: t, hq, ht => by
    rw [numN]
    simp only [strip, TP.nDel, reduceCtorEq, Option.some.injEq, false_and, if_false, Nat.add_zero]
    have hl : j = i → TP.landG (j :: P) c (i :: t) g = TP.landG P c t g := fun e => by subst e; simp [TP.landG]
    have hl2 : j ≠ i → TP.landG (j :: P) c (i :: t) g = g := fun e => if_neg (fun h => e (List.cons.inj h.1).1)
    by_cases e : j = k
    · subst e
      rw [if_pos rfl, if_pos rfl]
      by_cases e3 : i = j
      · subst e3
        rw [if_pos rfl, if_pos rfl, hl rfl]
        simp only [TP.nIns, if_true]
        rw [numN_mov c g r P t (fun h => hq (List.cons_prefix_cons.2 ⟨rfl, h⟩)) (fun h => ht (List.cons_prefix_cons.2 ⟨rfl, h⟩))]
      · rw [if_neg e3, numN_del, if_neg (fun h => e3 h.symm)]
        simp only [TP.nIns, if_neg e3]
    · rw [if_neg e, if_neg e]
      by_cases e3 : i = k
      · subst e3
        rw [if_pos rfl, numN_ins, if_neg e, hl2 e]
        simp only [TP.nIns, if_true]
      · rw [if_neg e3, numN_none]
        split <;> simp only [TP.nIns, if_neg e3]
theorem numN_len (c g : Nat) : ∀ (q : List Nat) (P t : Option (List Nat)), (numN P t c g q).length = q.length
  | [], _, _ => rfl
  | k :: r, P, t => by rw [numN, List.length_cons, List.length_cons, numN_len c g r]
theorem ite_iff {p q : Prop} [Decidable p] [Decidable q] {α : Type} (h : p ↔ q) (a b : α) : (if p then a else b) = if q then a else b := by
  by_cases hp : p
  · rw [if_pos hp, if_pos (h.1 hp)]
  · rw [if_neg hp, if_neg (fun hq => hp (h.2 hq))]
theorem numN_get (c g : Nat) : ∀ (q : List Nat) (P t : Option (List Nat)) (j k : Nat), q[j]? = some k →
    (numN P t c g q)[j]? = some ((if P = some (q.take j) ∧ c < k then k - 1 else k) + (if t = some (q.take j) ∧ g ≤ k then 1 else 0))
  | [], _, _, j, k, h => by simp at h
  | x :: r, P, t, 0, k, h => by
    simp at h; subst h
    rw [numN, List.getElem?_cons_zero, List.take_zero]
  | x :: r, P, t, j + 1, k, h => by
    rw [numN, List.getElem?_cons_succ, numN_get c g r _ _ j k (by simpa using h)]
    have e1 : strip x P = some (r.take j) ↔ P = some ((x :: r).take (j + 1)) := strip_some
    have e2 : strip x t = some (r.take j) ↔ t = some ((x :: r).take (j + 1)) := strip_some
    congr 2
    · exact ite_iff (by rw [e1]) _ _
    · exact ite_iff (by rw [e2]) _ _
theorem toN_take (p : List Int) (j : Nat) : toN (p.take j) = (toN p).take j := by simp [toN, List.map_take]
theorem toN_eq {p q : List Int} (hp : ∀ x ∈ p, 0 ≤ x) (hq : ∀ x ∈ q, 0 ≤ x) : toN p = toN q ↔ p = q := ⟨toN_inj hp hq, fun e => by rw [e]⟩
theorem numL_toN {ch : GChg} {p : List Int} (hp : ∀ x ∈ p, 0 ≤ x) (hf : ∀ x ∈ ch.from_, 0 ≤ x) (ht : ∀ x ∈ ch.to, 0 ≤ x) (ha : 0 ≤ ch.at_) (hg : 0 ≤ ch.gap) :
    toN (numL ch p) = numN (if ch.takes = true then some (toN ch.from_) else none) (if ch.puts = true then some (toN ch.to) else none) ch.at_.toNat ch.gap.toNat (toN p) := by
  have hl : (toN p).length = p.length := by simp [toN]
  apply List.ext_getElem?
  intro j
  by_cases hj : j < p.length
  · have hx := hp p[j] (List.getElem_mem hj)
    have hk : (toN p)[j]? = some p[j].toNat := by simp [toN, hj]
    rw [numN_get _ _ _ _ _ _ _ hk]
    have hn : (toN (numL ch p))[j]? = some (numAt ch p j).toNat := by simp [toN, numL, hj]
    rw [hn]
    have ed : p.getD j 0 = p[j] := by simp [List.getD_eq_getElem?_getD, List.getElem?_eq_getElem hj]
    have e1 : (if ch.takes = true then some (toN ch.from_) else none) = some ((toN p).take j) ↔ (ch.takes = true ∧ p.take j = ch.from_) := by
      rw [← toN_take]
      split
      · rename_i h
        rw [Option.some.injEq, toN_eq hf (fun x hx => hp x (List.mem_of_mem_take hx))]
        simp [h, eq_comm]
      · rename_i h; simp [h]
    have e2 : (if ch.puts = true then some (toN ch.to) else none) = some ((toN p).take j) ↔ (ch.puts = true ∧ p.take j = ch.to) := by
      rw [← toN_take]
      split
      · rename_i h
        rw [Option.some.injEq, toN_eq ht (fun x hx => hp x (List.mem_of_mem_take hx))]
        simp [h, eq_comm]
      · rename_i h; simp [h]
    unfold numAt numI
    rw [ed]
    generalize p[j] = k at *
    congr 1
    have q1 : (ch.takes = true ∧ ch.at_ < k ∧ p.take j = ch.from_) ↔ ((if ch.takes = true then some (toN ch.from_) else none) = some ((toN p).take j) ∧ ch.at_.toNat < k.toNat) := by
      rw [e1]; exact ⟨fun h => ⟨⟨h.1, h.2.2⟩, by omega⟩, fun h => ⟨h.1.1, by omega, h.1.2⟩⟩
    have q2 : (ch.puts = true ∧ ch.gap ≤ k ∧ p.take j = ch.to) ↔ ((if ch.puts = true then some (toN ch.to) else none) = some ((toN p).take j) ∧ ch.gap.toNat ≤ k.toNat) := by
      rw [e2]; exact ⟨fun h => ⟨⟨h.1, h.2.2⟩, by omega⟩, fun h => ⟨h.1.1, by omega, h.1.2⟩⟩
    clear e1 e2
    by_cases a1 : ch.takes = true ∧ ch.at_ < k ∧ p.take j = ch.from_
    · rw [if_pos a1, if_pos (q1.1 a1)]
      by_cases a2 : ch.puts = true ∧ ch.gap ≤ k ∧ p.take j = ch.to
      · rw [if_pos a2, if_pos (q2.1 a2)]; omega
      · rw [if_neg a2, if_neg (fun h => a2 (q2.2 h))]; omega
    · rw [if_neg a1, if_neg (fun h => a1 (q1.2 h))]
      by_cases a2 : ch.puts = true ∧ ch.gap ≤ k ∧ p.take j = ch.to
      · rw [if_pos a2, if_pos (q2.1 a2)]; omega
      · rw [if_neg a2, if_neg (fun h => a2 (q2.2 h))]; omega
  · rw [List.getElem?_eq_none (by simp [toN, numL]; omega), List.getElem?_eq_none (by rw [numN_len]; omega)]
end Go.Ev
namespace Go.Ev
open Go Go.Proofs Tryz
open TP (Str Tree Nd Mk)
theorem kinds {o : GOp} (h : formG o) : o.kind = 1 ∨ o.kind = 2 ∨ o.kind = 3 ∨ o.kind = 4 ∨ o.kind = 5 ∨ o.kind = 6 := by
  have := h.2
  unfold formK at this
  repeat' split at this
  all_goals first | omega | exact this.elim
theorem moves_sound {a : GOp} (h : soundG a) : movesG a ↔ (a.kind = 1 ∨ a.kind = 2 ∨ a.kind = 3) := by
  unfold movesG
  constructor
  · rintro ⟨_, h2⟩
    repeat' split at h2
    · exact .inl (by assumption)
    · exact .inr (.inl (by assumption))
    · exact .inr (.inr (by assumption))
    · exact h2.elim
  · intro hk
    refine ⟨h.1, ?_⟩
    repeat' split
    · trivial
    · exact h.2.1 (by assumption)
    · exact h.2.2 (by assumption)
    · omega
theorem ch_nn {a : GOp} (h : soundG a) (hk : a.kind = 1 ∨ a.kind = 2 ∨ a.kind = 3) : (∀ x ∈ (chgOf a).from_, 0 ≤ x) ∧ 0 ≤ (chgOf a).at_ ∧ ((chgOf a).puts = true → (∀ x ∈ (chgOf a).to, 0 ≤ x) ∧ 0 ≤ (chgOf a).gap) := by
  have hp := h.1.1
  have hk2 := h.1.2
  unfold formK at hk2
  refine ⟨?_, ?_, fun hu => ?_⟩
  · unfold chgOf
    simp only
    split
    · simp
    · exact fun x hx => hp.nn x ((List.dropLast_sublist _).subset hx)
  · unfold chgOf
    simp only
    split
    · exact Int.le_refl _
    · exact lastI_nn hp
  · rcases hk with k | k | k
    · rw [if_pos k] at hk2
      simp only [chgOf, if_pos k]
      exact ⟨hp.nn, hk2.1.1⟩
    · simp [chgOf, k] at hu
    · rw [if_neg (by omega), if_neg (by omega), if_pos k] at hk2
      simp only [chgOf, if_neg (show ¬ a.kind = 1 by omega)]
      exact ⟨hk2.2.nn, hk2.1.1⟩
theorem toN_dropLast (p : List Int) : toN p.dropLast = TP.up (toN p) := by simp [toN, TP.up, List.map_dropLast]
theorem toN_last (p : List Int) : (lastI p).toNat = TP.last (toN p) := by
  unfold lastI TP.last toN
  rcases List.eq_nil_or_concat p with rfl | ⟨q, x, rfl⟩
  · rfl
  · simp
theorem numL_any {ch : GChg} {p : List Int} (hp : ∀ x ∈ p, 0 ≤ x) (hf : ∀ x ∈ ch.from_, 0 ≤ x) (ha : 0 ≤ ch.at_) (hu : ch.puts = true → (∀ x ∈ ch.to, 0 ≤ x) ∧ 0 ≤ ch.gap) :
    toN (numL ch p) = numN (if ch.takes = true then some (toN ch.from_) else none) (if ch.puts = true then some (toN ch.to) else none) ch.at_.toNat ch.gap.toNat (toN p) := by
  by_cases h : ch.puts = true
  · exact numL_toN hp hf (hu h).1 ha (hu h).2
  · have e : numL ch p = numL { ch with to := [], gap := 0 } p := by
      unfold numL numAt numI
      simp [h]
    rw [e, numL_toN (ch := { ch with to := [], gap := 0 }) hp hf (by simp) ha (Int.le_refl _)]
    simp only [if_neg h]
    have : ∀ (P : Option (List Nat)) (c g g' : Nat) (q : List Nat), numN P none c g q = numN P none c g' q := by
      intro P c g g' q
      induction q generalizing P with
      | nil => rfl
      | cons k r ih => rw [numN, numN]; simp [strip]; exact ih _
    exact this _ _ _ _ _
theorem prefix_toN {a : GOp} (h : soundG a) {p : List Int} (hp : ∀ x ∈ p, 0 ≤ x) : toN a.path <+: toN p ↔ a.path <+: p := toN_prefix h.1.1.nn hp
theorem nd_abs {a : GOp} (h : soundG a) {p : List Int} (hp : ∀ x ∈ p, 0 ≤ x) (hn : ¬ (a.kind = 2 ∧ a.path <+: p)) : toN (nd a p) = TP.node (absO a) (toN p) ∧ (nodeG a p).isSome = true := by
  have hm := moves_sound h
  by_cases hk : a.kind = 1 ∨ a.kind = 2 ∨ a.kind = 3
  case neg =>
    unfold nd nodeG
    rw [if_neg (fun q => hk (hm.1 q))]
    refine ⟨?_, rfl⟩
    unfold absO
    rw [if_neg (by omega), if_neg (by omega), if_neg (by omega)]
    split
    · rfl
    · split <;> rfl
  obtain ⟨n1, n2, n3⟩ := ch_nn h hk
  unfold nd nodeG
  rw [if_pos (hm.2 hk)]
  have hL := numL_any hp n1 n2 n3
  rcases hk with k | k | k
  · have ht : (chgOf a).takes = false := by simp [chgOf, k]
    rw [if_neg (by simp [ht])]
    refine ⟨?_, rfl⟩
    have hu : (chgOf a).puts = true := by simp [chgOf, k]
    rw [Option.getD_some, hL, ht, hu, if_neg (by simp), if_pos rfl, numN_ins]
    unfold absO
    rw [if_pos k]
    simp only [chgOf, if_pos k]
    rfl
  · have ht : (chgOf a).takes = true := by simp [chgOf, k]
    have hu : (chgOf a).puts = false := by simp [chgOf, k]
    rw [if_neg (fun q => hn ⟨k, q.2⟩)]
    refine ⟨?_, rfl⟩
    rw [Option.getD_some, hL, ht, hu, if_pos rfl, if_neg (by simp), numN_del]
    unfold absO
    rw [if_neg (by omega), if_pos k]
    simp only [chgOf, if_neg (show ¬ a.kind = 1 by omega)]
    rw [toN_dropLast, toN_last]
    rfl
  · have ht : (chgOf a).takes = true := by simp [chgOf, k]
    have hu : (chgOf a).puts = true := by simp [chgOf, k]
    have h3 := h.2.2 k
    have hk2 := h.1.2
    unfold formK at hk2
    rw [if_neg (by omega), if_neg (by omega), if_pos k] at hk2
    have htn := hk2.2.nn
    have ef : toN (chgOf a).from_ = TP.up (toN a.path) := by
      simp only [chgOf, if_neg (show ¬ a.kind = 1 by omega)]
      rw [toN_dropLast]
    have ea : (chgOf a).at_.toNat = TP.last (toN a.path) := by
      simp only [chgOf, if_neg (show ¬ a.kind = 1 by omega)]
      rw [toN_last]
    have eg : (chgOf a).gap = a.at_ := rfl
    have et : (chgOf a).to = a.to := by simp [chgOf, k]
    have hne : toN a.path ≠ [] := fun e => h3.1 (toN_nil.1 e)
    have hs := TP.snoc_of_ne hne
    have hL2 := numL_any htn n1 n2 n3
    have hnt : ¬ (TP.up (toN a.path) ++ [TP.last (toN a.path)]) <+: toN a.to := by
      rw [← hs, prefix_toN h htn]; exact h3.2
    rw [ht, hu, if_pos rfl, if_pos rfl, ef, ea, eg, et] at hL hL2
    rw [numN_mov _ _ _ _ _ hnt hnt, TP.nIns_self] at hL2
    have eabs : absO a = .mov (toN a.path) (toN a.to) a.at_.toNat := by
      unfold absO; rw [if_neg (by omega), if_neg (by omega), if_pos k]
    rw [eabs]
    show _ = TP.nMov (TP.up (toN a.path)) (TP.last (toN a.path)) (toN a.to) a.at_.toNat (toN p) ∧ _
    unfold TP.nMov
    have hpp := prefix_toN h hp
    rw [hs] at hpp
    by_cases hin : a.path <+: p
    · rw [if_pos ⟨ht, hin⟩, if_pos hu, if_pos (hpp.2 hin)]
      refine ⟨?_, rfl⟩
      rw [Option.getD_some]
      have e1 : ∀ (x y : List Int) (z : Int), toN (x ++ [z] ++ y) = toN x ++ z.toNat :: toN y := fun x y z => by simp [toN]
      rw [e1, hL2]
      have e2 : (landI (chgOf a)).toNat = TP.landG (TP.up (toN a.path)) (TP.last (toN a.path)) (toN a.to) a.at_.toNat := by
        unfold landI TP.landG
        rw [eg, et]
        have g0 := hk2.1.1
        have e3 : (chgOf a).from_ = a.to ↔ TP.up (toN a.path) = toN a.to := by rw [← ef, toN_eq n1 htn]
        by_cases q : (chgOf a).at_ < a.at_ ∧ (chgOf a).from_ = a.to
        · rw [if_pos q, if_pos ⟨e3.1 q.2, by omega⟩]; omega
        · rw [if_neg q, if_neg (fun w => q ⟨by omega, e3.2 w.1⟩)]
      rw [e2]
      have e4 : toN (p.drop a.path.length) = (toN p).drop ((TP.up (toN a.path)).length + 1) := by
        have : (TP.up (toN a.path)).length + 1 = a.path.length := by
          have := congrArg List.length hs
          simp [toN] at this
          simp [TP.up, toN]
          have := List.length_pos_iff.2 h3.1
          omega
        rw [this]
        simp [toN, List.map_drop]
      rw [e4]
      rfl
    · rw [if_neg (fun q => hin q.2), if_neg (fun q => hin (hpp.1 q))]
      refine ⟨?_, rfl⟩
      rw [Option.getD_some, hL, numN_mov _ _ _ _ _ (fun q => hin (hpp.1 q)) hnt]
      rfl
theorem gap_abs {a : GOp} (h : soundG a) {p : List Int} (hp : ∀ x ∈ p, 0 ≤ x) (hn : ¬ (a.kind = 2 ∧ a.path <+: p)) {k : Int} (hk0 : 0 ≤ k) (f : Bool) : (gapA a p k f).2.1.toNat = TP.gap (absO a) (toN p) k.toNat f := by
  have hsome := (nd_abs h hp hn).2
  have hm := moves_sound h
  obtain ⟨q, hq⟩ := Option.isSome_iff_exists.1 hsome
  have e : gapA a p k f = (q, if movesG a then gapI (chgOf a) p k f else k, true) := by unfold gapA; rw [hq]
  rw [e]
  simp only
  by_cases hk : a.kind = 1 ∨ a.kind = 2 ∨ a.kind = 3
  case neg =>
    rw [if_neg (fun q => hk (hm.1 q))]
    unfold absO
    rw [if_neg (by omega), if_neg (by omega), if_neg (by omega)]
    split
    · rfl
    · split <;> rfl
  obtain ⟨n1, n2, n3⟩ := ch_nn h hk
  rw [if_pos (hm.2 hk)]
  unfold gapI
  rcases hk with k1 | k1 | k1
  · have ht : (chgOf a).takes = false := by simp [chgOf, k1]
    have hu : (chgOf a).puts = true := by simp [chgOf, k1]
    have et : (chgOf a).to = a.path := by simp [chgOf, k1]
    have eg : (chgOf a).gap = a.at_ := rfl
    have e2 : absO a = .ins (toN a.path) a.at_.toNat ⟨a.id, a.leaf, a.label, [], []⟩ := by unfold absO; rw [if_pos k1]
    rw [e2, if_neg (by simp [ht])]
    show _ = if _ then _ else _
    have g0 := (n3 hu).2
    have n4 := (n3 hu).1
    rw [et] at n4 ⊢
    rw [eg] at g0 ⊢
    have e3 : toN a.path = toN p ↔ p = a.path := by rw [toN_eq n4 hp, eq_comm]
    by_cases w : (chgOf a).puts = true ∧ p = a.path ∧ (a.at_ < k ∨ k = a.at_ ∧ f = false)
    · rw [if_pos w, if_pos ⟨e3.2 w.2.1, by rcases w.2.2 with h | h; left; omega; right; exact ⟨by omega, h.2⟩⟩]; omega
    · rw [if_neg w, if_neg (fun v => w ⟨hu, e3.1 v.1, by rcases v.2 with h | h; left; omega; right; exact ⟨by omega, h.2⟩⟩)]; omega
  · have ht : (chgOf a).takes = true := by simp [chgOf, k1]
    have hu : (chgOf a).puts = false := by simp [chgOf, k1]
    have ef : toN (chgOf a).from_ = TP.up (toN a.path) := by
      simp only [chgOf, if_neg (show ¬ a.kind = 1 by omega)]
      rw [toN_dropLast]
    have ea : (chgOf a).at_.toNat = TP.last (toN a.path) := by
      simp only [chgOf, if_neg (show ¬ a.kind = 1 by omega)]
      rw [toN_last]
    have e2 : absO a = .del (toN a.path) := by unfold absO; rw [if_neg (by omega), if_pos k1]
    rw [e2]
    show _ = if _ then _ else _
    rw [if_neg (show ¬ ((chgOf a).puts = true ∧ _) from fun w => by rw [hu] at w; cases w.1), ← ef, ← ea]
    have e3 : toN (chgOf a).from_ = toN p ↔ p = (chgOf a).from_ := by rw [toN_eq n1 hp, eq_comm]
    by_cases w : (chgOf a).takes = true ∧ (chgOf a).at_ < k ∧ p = (chgOf a).from_
    · rw [if_pos w, if_pos ⟨e3.2 w.2.2, by omega⟩]; omega
    · rw [if_neg w, if_neg (fun v => w ⟨ht, by omega, e3.1 v.1⟩)]; omega
  · have ht : (chgOf a).takes = true := by simp [chgOf, k1]
    have hu : (chgOf a).puts = true := by simp [chgOf, k1]
    have et : (chgOf a).to = a.to := by simp [chgOf, k1]
    have eg : (chgOf a).gap = a.at_ := rfl
    have ef : toN (chgOf a).from_ = TP.up (toN a.path) := by
      simp only [chgOf, if_neg (show ¬ a.kind = 1 by omega)]
      rw [toN_dropLast]
    have ea : (chgOf a).at_.toNat = TP.last (toN a.path) := by
      simp only [chgOf, if_neg (show ¬ a.kind = 1 by omega)]
      rw [toN_last]
    have e2 : absO a = .mov (toN a.path) (toN a.to) a.at_.toNat := by unfold absO; rw [if_neg (by omega), if_neg (by omega), if_pos k1]
    rw [e2]
    show _ = (if _ then _ else _) + (if _ then _ else _)
    have g0 := (n3 hu).2
    have n4 := (n3 hu).1
    rw [et] at n4 ⊢
    rw [eg] at g0 ⊢
    rw [← ef, ← ea]
    have e3 : toN (chgOf a).from_ = toN p ↔ p = (chgOf a).from_ := by rw [toN_eq n1 hp, eq_comm]
    have e4 : toN a.to = toN p ↔ p = a.to := by rw [toN_eq n4 hp, eq_comm]
    by_cases w : (chgOf a).takes = true ∧ (chgOf a).at_ < k ∧ p = (chgOf a).from_
    · rw [if_pos w, if_pos (show toN (chgOf a).from_ = toN p ∧ _ from ⟨e3.2 w.2.2, by omega⟩)]
      by_cases w2 : (chgOf a).puts = true ∧ p = a.to ∧ (a.at_ < k ∨ k = a.at_ ∧ f = false)
      · rw [if_pos w2, if_pos ⟨e4.2 w2.2.1, by rcases w2.2.2 with h | h; left; omega; right; exact ⟨by omega, h.2⟩⟩]; omega
      · rw [if_neg w2, if_neg (fun v => w2 ⟨hu, e4.1 v.1, by rcases v.2 with h | h; left; omega; right; exact ⟨by omega, h.2⟩⟩)]; omega
    · rw [if_neg w, if_neg (show ¬ (toN (chgOf a).from_ = toN p ∧ _) from fun v => w ⟨ht, by omega, e3.1 v.1⟩)]
      by_cases w2 : (chgOf a).puts = true ∧ p = a.to ∧ (a.at_ < k ∨ k = a.at_ ∧ f = false)
      · rw [if_pos w2, if_pos ⟨e4.2 w2.2.1, by rcases w2.2.2 with h | h; left; omega; right; exact ⟨by omega, h.2⟩⟩]; omega
      · rw [if_neg w2, if_neg (fun v => w2 ⟨hu, e4.1 v.1, by rcases v.2 with h | h; left; omega; right; exact ⟨by omega, h.2⟩⟩)]; omega
end Go.Ev
namespace Go.Ev
open Go Go.Proofs Tryz
open TP (Str Tree Nd Mk)
theorem abs1 {o : GOp} (h : o.kind = 1) : absO o = .ins (toN o.path) o.at_.toNat ⟨o.id, o.leaf, o.label, [], []⟩ := by unfold absO; rw [if_pos h]
theorem abs2 {o : GOp} (h : o.kind = 2) : absO o = .del (toN o.path) := by unfold absO; rw [if_neg (by omega), if_pos h]
theorem abs3 {o : GOp} (h : o.kind = 3) : absO o = .mov (toN o.path) (toN o.to) o.at_.toNat := by unfold absO; rw [if_neg (by omega), if_neg (by omega), if_pos h]
theorem abs4 {o : GOp} (h : o.kind = 4) : absO o = .dat (toN o.path) (.set o.key (if o.gone = true then none else some o.value)) := by unfold absO; rw [if_neg (by omega), if_neg (by omega), if_neg (by omega), if_pos h]
theorem abs5 {o : GOp} (h : o.kind = 5) : absO o = .dat (toN o.path) (.rel o.label) := by unfold absO; rw [if_neg (by omega), if_neg (by omega), if_neg (by omega), if_neg (by omega), if_pos h]
theorem abs6 {o : GOp} (h : o.kind = 6) : absO o = .dat (toN o.path) (.edt (o.pieces.map toP)) := by unfold absO; rw [if_neg (by omega), if_neg (by omega), if_neg (by omega), if_neg (by omega), if_neg (by omega)]
theorem absD {o : GOp} (h : o.kind = 4 ∨ o.kind = 5 ∨ o.kind = 6) : ∃ e, ∀ p, absO { o with path := p } = .dat (toN p) e := by
  rcases h with h | h | h
  · exact ⟨.set o.key (if o.gone = true then none else some o.value), fun p => abs4 (o := { o with path := p }) h⟩
  · exact ⟨.rel o.label, fun p => abs5 (o := { o with path := p }) h⟩
  · exact ⟨.edt (o.pieces.map toP), fun p => abs6 (o := { o with path := p }) h⟩
theorem abs_drop (p : List Int) : absO (dropG p) = .del (toN p) := abs2 rfl
theorem form3 {o : GOp} (h : formG o) (k : o.kind = 3) : gapG o ∧ mayP o.to := by
  have := h.2
  unfold formK at this
  rw [if_neg (by omega), if_neg (by omega), if_pos k] at this
  exact this
theorem form1 {o : GOp} (h : formG o) (k : o.kind = 1) : gapG o := by
  have := h.2
  unfold formK at this
  rw [if_pos k] at this
  exact this.1
theorem shift_abs {a b : GOp} {f : Bool} (h : soundG a) (hb : formG b) (hn : ¬ (a.kind = 2 ∧ a.path <+: b.path)) (hn3 : b.kind = 3 → ¬ (a.kind = 2 ∧ a.path <+: b.to)) : absO (shiftG b a f) = TP.shifted (absO b) (absO a) f := by
  have e0 : (nodeG a b.path).getD [] = nd a b.path := rfl
  have h1 := (nd_abs h hb.1.nn hn).1
  unfold shiftG
  rw [e0]
  rcases kinds hb with k | k | k | k
  · rw [if_pos k, abs1 k, abs1 (by exact k)]
    have h2 := gap_abs h hb.1.nn hn (form1 hb k).1 f
    show TP.Op.ins (toN (nd a b.path)) (gapA a b.path b.at_ f).2.1.toNat _ = _
    rw [h1, h2]; rfl
  · rw [if_neg (by omega), if_neg (by omega), abs2 k, abs2 (by exact k)]
    show TP.Op.del (toN (nd a b.path)) = _
    rw [h1]; rfl
  · rw [if_neg (by omega), if_pos k, abs3 k, abs3 (by exact k)]
    have hto := (form3 hb k).2.nn
    have h2 := gap_abs h hto (hn3 k) (form3 hb k).1.1 f
    have h3 := (nd_abs h hto (hn3 k)).1
    show TP.Op.mov (toN (nd a b.path)) (toN (gapA a b.to b.at_ f).1) (gapA a b.to b.at_ f).2.1.toNat = _
    rw [h1, h2, gapA_nd, h3]; rfl
  · rw [if_neg (by omega), if_neg (by omega)]
    obtain ⟨e, he⟩ := absD k
    rw [he, h1]
    have : absO b = _ := he b.path
    rw [this]; rfl
theorem undo_abs {a : GOp} (h : soundG a) (k : a.kind = 3) : absO (undoG a) = TP.undo (absO a) := by
  have hp := h.1.1.nn
  have hn : ∀ p, ¬ (a.kind = 2 ∧ a.path <+: p) := fun p q => by omega
  have e1 : (nodeG a a.path).getD [] = nd a a.path := rfl
  have e2 : (nodeG a (chgOf a).from_).getD [] = nd a (chgOf a).from_ := rfl
  have n1 : ∀ x ∈ (chgOf a).from_, 0 ≤ x := (ch_nn h (.inr (.inr k))).1
  have hto := (form3 h.1 k).2.nn
  have ef : toN (chgOf a).from_ = TP.up (toN a.path) := by
    simp only [chgOf, if_neg (show ¬ a.kind = 1 by omega)]
    rw [toN_dropLast]
  have ea : (chgOf a).at_.toNat = TP.last (toN a.path) := by
    simp only [chgOf, if_neg (show ¬ a.kind = 1 by omega)]
    rw [toN_last]
  have ea0 : 0 ≤ (chgOf a).at_ := (ch_nn h (.inr (.inr k))).2.1
  have eg : (chgOf a).gap = a.at_ := rfl
  have et : (chgOf a).to = a.to := by simp [chgOf, k]
  have g0 := (form3 h.1 k).1.1
  have h1 := (nd_abs h hp (hn _)).1
  have h2 := (nd_abs h n1 (hn _)).1
  rw [ef, abs3 k] at h2
  rw [abs3 k] at h1 ⊢
  unfold undoG
  rw [abs3 (by rfl)]
  show TP.Op.mov (toN ((nodeG a a.path).getD [])) (toN ((nodeG a (chgOf a).from_).getD [])) _ = _
  rw [e1, e2, h1, h2]
  unfold TP.undo
  congr 1
  show ((chgOf a).at_ + if (chgOf a).from_ = (chgOf a).to ∧ landI (chgOf a) < (chgOf a).at_ then 1 else 0).toNat = _
  rw [et]
  have e3 : (chgOf a).from_ = a.to ↔ TP.up (toN a.path) = toN a.to := by rw [← ef, toN_eq n1 hto]
  have e4 : (landI (chgOf a)).toNat = TP.landG (TP.up (toN a.path)) (TP.last (toN a.path)) (toN a.to) a.at_.toNat ∧ 0 ≤ landI (chgOf a) := by
    unfold landI TP.landG
    rw [eg, et]
    by_cases q : (chgOf a).at_ < a.at_ ∧ (chgOf a).from_ = a.to
    · rw [if_pos q, if_pos ⟨e3.1 q.2, by omega⟩]; omega
    · rw [if_neg q, if_neg (fun w => q ⟨by omega, e3.2 w.1⟩)]; omega
  rw [← e4.1, ← ea]
  by_cases q : (chgOf a).from_ = a.to ∧ landI (chgOf a) < (chgOf a).at_
  · rw [if_pos q, if_pos ⟨e3.1 q.1, by omega⟩]; omega
  · rw [if_neg q, if_neg (fun w => q ⟨e3.2 w.1, by omega⟩)]; omega
theorem bare_abs {o : GOp} (h : formG o) : absO (bareG o) = absO o := by
  unfold bareG
  rcases kinds h with k | k | k | k | k | k
  · rw [if_pos k, abs1 k, abs1 (by exact k)]
  · rw [if_neg (by omega), if_pos k, abs2 k, abs2 (by exact k)]
  · rw [if_neg (by omega), if_neg (by omega), if_pos k, abs3 k, abs3 (by exact k)]
  · rw [if_neg (by omega), if_neg (by omega), if_neg (by omega), if_pos k, abs4 k, abs4 (by exact k)]
    simp only [TP.Op.dat.injEq, TP.Dop.set.injEq, true_and]
    split <;> rfl
  · rw [if_neg (by omega), if_neg (by omega), if_neg (by omega), if_neg (by omega), if_pos k, abs5 k, abs5 (by exact k)]
  · rw [if_neg (by omega), if_neg (by omega), if_neg (by omega), if_neg (by omega), if_neg (by omega), if_pos k, abs6 k, abs6 (by exact k)]
theorem bareG_ok {o : GOp} (h : formG o) : okO (bareG o) := by
  have hk := h.2
  unfold formK at hk
  have hf : formG (bareG o) := by
    refine ⟨?_, ?_⟩
    · unfold bareG
      repeat' split
      all_goals first | exact h.1 | exact ⟨by simp [zeroO], by simp [zeroO]⟩
    · unfold bareG formK
      rcases kinds h with k | k | k | k | k | k
      all_goals simp [k] at hk ⊢
      · exact hk
      · exact hk
      · refine ⟨hk.1, ?_⟩
        rcases hk.2 with q | q
        · simp [q]
        · right; split
          · simp
          · exact q
      · exact hk
      · exact hk
  refine ⟨hf, ?_, ?_⟩
  · unfold bareG
    rcases kinds h with k | k | k | k | k | k
    all_goals simp [k, zeroO]
    have := (form3 h k).2.1
    omega
  · unfold bareG
    rcases kinds h with k | k | k | k | k | k
    all_goals simp [k, zeroO]
    simp [k] at hk
    have := hk.1
    omega
end Go.Ev
namespace Go.Ev
open Go Go.Proofs Tryz
open TP (Str Tree Nd Mk)
theorem dat_same {p : TP.Path} {ea eb : TP.Dop} {f : Bool} {o : Option TP.Dop} (h : TP.dtr eb ea f = some o) : TP.beh TP.E0 (.dat p eb : TP.Op Nd TP.Dop) (.dat p ea) f = some ((o.map (TP.Op.dat p)).toList) := by
  show (if p = p then (TP.E0.tr eb ea f).map _ else _) = _
  rw [if_pos rfl]
  show (TP.dtr eb ea f).map _ = _
  rw [h]; rfl
theorem dat_other {p q : TP.Path} {ea eb : TP.Dop} {f : Bool} (h : p ≠ q) : TP.beh TP.E0 (.dat q eb : TP.Op Nd TP.Dop) (.dat p ea) f = some [.dat q eb] := by
  show (if p = q then _ else _) = _
  rw [if_neg h]
  rfl
theorem toP_ofP (l : List TP.Piece) : (l.map ofP).map toP = l := by
  rw [List.map_map]
  conv => rhs; rw [← List.map_id l]
  apply List.map_congr_left
  intro p _
  simp [ofP, toP, Function.comp]
theorem ins_not (g : Nat) : ∀ T p : List Nat, ¬ T ++ [g] <+: TP.nIns g T p
  | [], [] => by simp [TP.nIns]
  | [], k :: r => by
    simp only [List.nil_append, TP.nIns, List.cons_prefix_cons, not_and]
    intro e
    split at e <;> omega
  | i :: T, [] => by simp [TP.nIns]
  | i :: T, k :: r => by
    simp only [TP.nIns, List.cons_append]
    split
    · rename_i e
      subst e
      rw [List.cons_prefix_cons]
      exact fun h => ins_not g T r h.2
    · rename_i e
      rw [List.cons_prefix_cons]
      exact fun h => e h.1
theorem row_beh {a b : GOp} {f : Bool} {l : List GOp} {e : Int} (ha : soundG a) (hb : soundG b) (hR : RowIs b a f l e) (he : e = 0) (hf : ∀ o ∈ l, formG o) : TP.beh TP.E0 (absO b) (absO a) f = some (l.map absO) := by
  have hpa := ha.1.1.nn
  have hpb := hb.1.1.nn
  rcases hR with ⟨ht, rfl, _⟩ | ⟨⟨k6, k7, hp⟩, X, Y, hL, rfl, hx⟩
  case inr =>
    have hr : rightG (X.l.map ofP) ∧ rightG (Y.l.map ofP) := by
      rw [he] at hx
      split at hx
      · assumption
      · cases hx
    have hB : TP.Both f (b.pieces.map toP) (a.pieces.map toP) X.l Y.l := by
      have r1 := rightP_of hr.1
      have r2 := rightP_of hr.2
      rw [toP_ofP] at r1 r2
      exact ⟨X, Y, hL, rfl, rfl, r1, r2⟩
    rw [abs6 k6, abs6 k7, hp, dat_same (TP.dtr_edt hB)]
    simp only [if_pos hr, List.map_cons, List.map_nil]
    rw [abs6 (o := { b with pieces := X.l.map ofP }) k7]
    show _ = some [(TP.Op.dat (toN b.path) (TP.Dop.edt ((X.l.map ofP).map toP)) : TP.Op Nd TP.Dop)]
    rw [toP_ofP]; rfl
  by_cases h2 : a.kind = 2
  ·
    have e1 : rowW b a f = if a.path <+: b.path then [] else if b.kind = 3 ∧ a.path <+: b.to then [dropG (nd a b.path)] else [shiftG b a f] := if_pos h2
    rw [e1, abs2 h2]
    have hpp := toN_prefix hpa hpb
    have hpath : TP.path (absO b) = toN b.path := by
      rcases kinds hb.1 with k | k | k | k
      · rw [abs1 k]; rfl
      · rw [abs2 k]; rfl
      · rw [abs3 k]; rfl
      · obtain ⟨e, he⟩ := absD k
        have : absO b = _ := he b.path
        rw [this]; rfl
    unfold TP.beh
    simp only
    rw [hpath]
    by_cases q : a.path <+: b.path
    · rw [if_pos q, if_pos (hpp.2 q)]; rfl
    rw [if_neg q, if_neg (fun h => q (hpp.1 h))]
    have hnd := (nd_abs ha hpb (fun h => q h.2)).1
    rcases kinds hb.1 with k | k | k | k
    · rw [if_neg (by omega)]
      have hs := shift_abs (f := f) ha hb.1 (fun h => q h.2) (fun h => by omega)
      rw [List.map_cons, List.map_nil, hs, abs1 k, abs2 h2]
    · rw [if_neg (by omega)]
      have hs := shift_abs (f := f) ha hb.1 (fun h => q h.2) (fun h => by omega)
      rw [List.map_cons, List.map_nil, hs, abs2 k, abs2 h2]
    · have hto := (form3 hb.1 k).2.nn
      have hpt := toN_prefix hpa hto
      by_cases q2 : a.path <+: b.to
      · rw [if_pos ⟨k, q2⟩, List.map_cons, List.map_nil, abs_drop, hnd, abs3 k, abs2 h2]
        simp only
        rw [if_pos (hpt.2 q2)]
      · rw [if_neg (fun h => q2 h.2)]
        have hs := shift_abs (f := f) ha hb.1 (fun h => q h.2) (fun _ h => q2 h.2)
        rw [List.map_cons, List.map_nil, hs, abs3 k, abs2 h2]
        simp only
        rw [if_neg (fun h => q2 (hpt.1 h))]
    · rw [if_neg (by omega)]
      have hs := shift_abs (f := f) ha hb.1 (fun h => q h.2) (fun h => by omega)
      obtain ⟨e, he⟩ := absD k
      have : absO b = _ := he b.path
      rw [List.map_cons, List.map_nil, hs, this, abs2 h2]
  have hng : ∀ p, ¬ (a.kind = 2 ∧ a.path <+: p) := fun p h => h2 h.1
  have hs := shift_abs (f := f) ha hb.1 (hng _) (fun _ => hng _)
  have epath : a.path = b.path ↔ toN a.path = toN b.path := (toN_eq hpa hpb).symm
  by_cases hw : wonG b a
  · have e1 : rowW b a f = if f = true then [shiftG b a f] else [] := by unfold rowW; rw [if_neg h2, if_pos hw]
    rw [e1]
    obtain ⟨w1, w2, w3⟩ := hw
    have e2 : (if f = true then [shiftG b a f] else []).map absO = if f = true then [TP.shifted (absO b) (absO a) f] else [] := by
      split
      · rw [List.map_cons, List.map_nil, hs]
      · rfl
    rw [e2]
    clear e2 hs
    rcases w3 with k | k | ⟨k, hkey⟩
    · rw [abs3 k, abs3 (by omega), w2]
      show (if _ then _ else _) = _
      rw [if_pos rfl]
    · rw [abs5 k, abs5 (by omega), w2, dat_same (o := if f = true then some (.rel b.label) else none) (by simp [TP.dtr])]
      cases f <;> rfl
    · rw [abs4 k, abs4 (by omega), w2, hkey, dat_same (o := if f = true then some (.set b.key (if b.gone = true then none else some b.value)) else none) (by simp [TP.dtr])]
      cases f <;> rfl
  by_cases h3 : a.kind = 3
  case neg =>
    have e1 : rowW b a f = [shiftG b a f] := by unfold rowW; rw [if_neg h2, if_neg hw, if_pos h3]
    rw [e1, List.map_cons, List.map_nil, hs]
    clear hs
    by_cases k1 : a.kind = 1
    · rw [abs1 k1]; rfl
    have ka : a.kind = 4 ∨ a.kind = 5 ∨ a.kind = 6 := by have := kinds ha.1; omega
    rcases kinds hb.1 with k | k | k | k
    · obtain ⟨e, he⟩ := absD ka
      have : absO a = _ := he a.path
      rw [abs1 k, this]; rfl
    · obtain ⟨e, he⟩ := absD ka
      have : absO a = _ := he a.path
      rw [abs2 k, this]; rfl
    · obtain ⟨e, he⟩ := absD ka
      have : absO a = _ := he a.path
      rw [abs3 k, this]; rfl
    · by_cases hpe : a.path = b.path
      case neg =>
        obtain ⟨e, he⟩ := absD ka
        have h1 : absO a = _ := he a.path
        obtain ⟨e', he'⟩ := absD k
        have h2 : absO b = _ := he' b.path
        rw [h1, h2, dat_other (fun h => hpe (epath.2 h))]
        rfl
      have key : ∀ ea eb : TP.Dop, absO a = .dat (toN a.path) ea → absO b = .dat (toN b.path) eb → TP.dtr eb ea f = some (some eb) → TP.beh TP.E0 (absO b) (absO a) f = some [TP.shifted (absO b) (absO a) f] := fun ea eb h1 h2 h3 => by
        rw [h1, h2, hpe, dat_same h3]; rfl
      rcases ka with q | q | q <;> rcases k with k | k | k
      · refine key _ _ (abs4 q) (abs4 k) ?_
        have hk : b.key ≠ a.key := fun e => hw ⟨by omega, hpe, .inr (.inr ⟨k, e.symm⟩)⟩
        simp [TP.dtr, hk]
      · exact key _ _ (abs4 q) (abs5 k) rfl
      · exact key _ _ (abs4 q) (abs6 k) rfl
      · exact key _ _ (abs5 q) (abs4 k) rfl
      · exact absurd ⟨by omega, hpe, .inr (.inl k)⟩ hw
      · exact key _ _ (abs5 q) (abs6 k) rfl
      · exact key _ _ (abs6 q) (abs4 k) rfl
      · exact key _ _ (abs6 q) (abs5 k) rfl
      · exact absurd ⟨q, k, hpe⟩ ht
  rw [rowW3 h3 hw]
  have hat := (form3 ha.1 h3).2.nn
  rcases kinds hb.1 with k | k | k | k
  · rw [if_neg (by omega), if_neg (fun h => by omega), List.map_cons, List.map_nil, hs, abs1 k, abs3 h3]; rfl
  · rw [if_pos k]
    have p1 := toN_prefix hpb hpa
    have p2 := toN_prefix hpb hat
    have hbeh : TP.beh TP.E0 (absO b) (absO a) f = if toN b.path <+: toN a.path ∧ toN b.path ≠ toN a.path ∧ ¬ toN b.path <+: toN a.to then some [.del (TP.node (absO a) (toN a.path)), .del (TP.node (.del (TP.node (absO a) (toN a.path)) : TP.Op Nd TP.Dop) (TP.node (absO a) (toN b.path)))] else some [TP.shifted (absO b) (absO a) f] := by
      rw [abs2 k, abs3 h3]; rfl
    rw [hbeh]
    by_cases q : b.path <+: a.path ∧ ¬ b.path = a.path ∧ ¬ b.path <+: a.to
    · rw [if_pos ⟨p1.2 q.1, fun h => q.2.1 (toN_inj hpb hpa h), fun h => q.2.2 (p2.1 h)⟩, if_pos q]
      rw [rowW3 h3 hw, if_pos k, if_pos q] at hf
      rw [List.map_cons, List.map_cons, List.map_nil, abs_drop, abs_drop]
      have n1 := (nd_abs ha hpa (hng _)).1
      have n2 := (nd_abs ha hpb (hng _)).1
      have m2 := nd_near (o := a) hb.1.1
      have f1 : mayP (nd a a.path) := (hf (dropG (nd a a.path)) (by simp)).1
      have hnode : TP.node (absO a) (toN a.path) = TP.landT (TP.up (toN a.path)) (TP.last (toN a.path)) (toN a.to) ++ [TP.landG (TP.up (toN a.path)) (TP.last (toN a.path)) (toN a.to) a.at_.toNat] ∧ ¬ TP.node (absO a) (toN a.path) <+: TP.node (absO a) (toN b.path) := by
        have hne : toN a.path ≠ [] := fun e => (ha.2.2 h3).1 (toN_nil.1 e)
        have hsn := TP.snoc_of_ne hne
        rw [abs3 h3]
        show TP.nMov _ _ _ _ _ = _ ∧ ¬ TP.nMov _ _ _ _ _ <+: TP.nMov _ _ _ _ _
        have hn1 : ¬ TP.up (toN a.path) ++ [TP.last (toN a.path)] <+: toN b.path := by
          rw [← hsn]
          intro h
          exact q.2.1 (toN_inj hpb hpa ((p1.2 q.1).eq_of_length_le h.length_le))
        have hn2 : TP.up (toN a.path) ++ [TP.last (toN a.path)] <+: toN a.path := by rw [← hsn]; exact List.prefix_refl _
        have e1 : TP.nMov (TP.up (toN a.path)) (TP.last (toN a.path)) (toN a.to) a.at_.toNat (toN a.path) = TP.landT (TP.up (toN a.path)) (TP.last (toN a.path)) (toN a.to) ++ [TP.landG (TP.up (toN a.path)) (TP.last (toN a.path)) (toN a.to) a.at_.toNat] := by
          unfold TP.nMov
          rw [if_pos hn2]
          have : (toN a.path).drop ((TP.up (toN a.path)).length + 1) = [] := by
            apply List.drop_eq_nil_of_le
            have := congrArg List.length hsn
            simp at this; omega
          rw [this]
        refine ⟨e1, ?_⟩
        rw [e1]
        unfold TP.nMov
        rw [if_neg hn1]
        exact ins_not _ _ _
      have hso : soundG (dropG (nd a a.path)) := by
        refine ⟨hf _ (by simp), fun _ e => ?_, fun h => by cases h⟩
        have e : nd a a.path = [] := e
        rw [e, hnode.1] at n1
        simp [toN] at n1
      have hgn : ¬ ((dropG (nd a a.path)).kind = 2 ∧ (dropG (nd a a.path)).path <+: nd a b.path) := fun h => by
        have := (toN_prefix f1.nn (fun x hx => (m2.1.2 x hx).1)).2 h.2
        have e : toN (dropG (nd a a.path)).path = toN (nd a a.path) := rfl
        rw [n1, n2] at this
        exact hnode.2 this
      have n3 := (nd_abs hso (fun x hx => (m2.1.2 x hx).1) hgn).1
      rw [abs_drop, n1, n2] at n3
      rw [n1, n3]
    · rw [if_neg (fun h => q ⟨p1.1 h.1, fun e => h.2.1 (by rw [e]), fun w => h.2.2 (p2.2 w)⟩), if_neg q]
      rw [List.map_cons, List.map_nil, hs]
  · rw [if_neg (by omega)]
    have hbt := (form3 hb.1 k).2.nn
    have hne : ¬ a.path = b.path := fun e => hw ⟨by omega, e, .inl k⟩
    have p1 := toN_prefix hpb hat
    have p2 := toN_prefix hpa hbt
    have hbeh : TP.beh TP.E0 (absO b) (absO a) f = if toN b.path <+: toN a.to ∧ toN a.path <+: toN b.to then some (if f = true then [TP.undo (absO a), absO b] else []) else some [TP.shifted (absO b) (absO a) f] := by
      rw [abs3 k, abs3 h3]
      show (if _ then _ else _) = _
      rw [if_neg (fun e => hne (epath.2 e))]
    rw [hbeh]
    by_cases q : b.path <+: a.to ∧ a.path <+: b.to
    · rw [if_pos ⟨p1.2 q.1, p2.2 q.2⟩, if_pos (show b.kind = 3 ∧ b.path <+: a.to ∧ a.path <+: b.to from ⟨k, q⟩)]
      cases f
      · rfl
      · simp only [if_true, List.map_cons, List.map_nil]
        rw [undo_abs ha h3]
    · rw [if_neg (fun h => q ⟨p1.1 h.1, p2.1 h.2⟩), if_neg (fun h => q h.2), List.map_cons, List.map_nil, hs]
  · rw [if_neg (by omega), if_neg (fun h => by omega), List.map_cons, List.map_nil, hs]
    obtain ⟨e, he⟩ := absD k
    have : absO b = _ := he b.path
    rw [this, abs3 h3]; rfl
end Go.Ev
