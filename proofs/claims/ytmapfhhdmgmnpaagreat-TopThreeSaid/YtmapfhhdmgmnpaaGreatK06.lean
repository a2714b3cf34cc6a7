import Derived.KernelRfl
import Derived.Laws.Bits64
import Derived.Test.YtmapfhhdmgmnpaaGreatK01
import Derived.Test.YtmapfhhdmgmnpaaGreatK05
namespace Go.Ev
open Go
variable {P : Program}
def tset (tm : Trie Value) (d : Nat) (v : Value) : Trie Value := tm.set 16 d v
theorem tget_same {tm : Trie Value} {t : Nat} {v : Value} (h : t < 65535) : tget (tset tm t v) t = v := by
  unfold tset tget; rw [Trie.get_set_same _ _ _ _ (by omega)]; rfl
def tgetX (tm : Trie Value) (d : Nat) (v : Value) : Value := tget (tset tm d v) d
theorem tget_tset {tm : Trie Value} {d t : Nat} {v : Value} : tget (tset tm d v) t = if t = d then (if d < 65535 then v else tgetX tm d v) else tget tm t := by
  by_cases e : t = d
  · subst e
    rw [if_pos rfl]
    split
    · rename_i h; exact tget_same h
    · rfl
  · rw [if_neg e]
    unfold tset tget
    rw [Trie.get_set_other _ _ _ _ _ (fun h => e h.symm)]
theorem putD_some {ns d : Nat} {tm : Trie Value} {v : Value} (h : d < ns) : putD ns tm (some d) v = tset tm d v := by
  unfold putD putTm
  simp only
  rw [if_pos (by simpa [Nat.blt_eq] using h)]; rfl
theorem putD_if {ns d : Nat} {tm : Trie Value} {v : Value} : putD ns tm (some d) v = if d < ns then tset tm d v else tm := by
  split
  · rename_i h; exact putD_some h
  · rename_i h
    unfold putD putTm
    simp only
    rw [if_neg (by simpa [Nat.blt_eq] using h)]
theorem putD_none {ns : Nat} {tm : Trie Value} {v : Value} : putD ns tm none v = tm := rfl
theorem setArgs_nil {i : Nat} {tm : Trie Value} : setArgs [] i tm = tm := rfl
theorem setArgs_cons {i : Nat} {tm : Trie Value} {v : Value} {vs : List Value} : setArgs (v :: vs) i tm = setArgs vs (i + 1) (tset tm i v) := rfl
theorem ev_tmp {tm : Trie Value} {t : Nat} : ev tm (.tmp t) = tget tm t := rfl
theorem ev_const {tm : Trie Value} {v : Value} : ev tm (.const v) = v := rfl
theorem ev_func {tm : Trie Value} {f : FuncId} : ev tm (.func f) = .func (.func f) #[] #[] := rfl
namespace Trie
variable {α : Type}
theorem set_set : ∀ (f : Nat) (t : Trie α) (n : Nat) (x y : α), set f (set f t n x) n y = set f t n y
  | 0, t, n, x, y => rfl
  | f + 1, .nil, n, x, y => by
    rw [set_nil, set_nil]
    by_cases h0 : n = 0
    · rw [if_pos h0, if_pos h0, set_node, if_pos h0]
    · by_cases h1 : n % 2 = 1
      · rw [if_neg h0, if_pos h1, if_neg h0, if_pos h1, set_node, if_neg h0, if_pos h1, set_set]
      · rw [if_neg h0, if_neg h1, if_neg h0, if_neg h1, set_node, if_neg h0, if_neg h1, set_set]
  | f + 1, .node l v r, n, x, y => by
    rw [set_node, set_node]
    by_cases h0 : n = 0
    · rw [if_pos h0, if_pos h0, set_node, if_pos h0]
    · by_cases h1 : n % 2 = 1
      · rw [if_neg h0, if_pos h1, if_neg h0, if_pos h1, set_node, if_neg h0, if_pos h1, set_set]
      · rw [if_neg h0, if_neg h1, if_neg h0, if_neg h1, set_node, if_neg h0, if_neg h1, set_set]
theorem set_comm : ∀ (f : Nat) (t : Trie α) (n m : Nat) (x y : α), n ≠ m → set f (set f t n x) m y = set f (set f t m y) n x
  | 0, t, n, m, x, y, _ => rfl
  | f + 1, .nil, n, m, x, y, h => by
    by_cases h0 : n = 0
    · by_cases h1 : m = 0
      · omega
      · by_cases h2 : m % 2 = 1
        · simp only [set_nil, set_node, h0, h1, h2, if_true, if_false]
        · simp only [set_nil, set_node, h0, h1, h2, if_true, if_false]
    · by_cases h1 : m = 0
      · by_cases h2 : n % 2 = 1
        · simp only [set_nil, set_node, h0, h1, h2, if_true, if_false]
        · simp only [set_nil, set_node, h0, h1, h2, if_true, if_false]
      · by_cases h2 : n % 2 = 1
        · by_cases h3 : m % 2 = 1
          · simp only [set_nil, set_node, h0, h1, h2, h3, if_true, if_false]; rw [set_comm f .nil (n / 2) (m / 2) x y (by omega)]
          · simp only [set_nil, set_node, h0, h1, h2, h3, if_true, if_false]
        · by_cases h3 : m % 2 = 1
          · simp only [set_nil, set_node, h0, h1, h2, h3, if_true, if_false]
          · simp only [set_nil, set_node, h0, h1, h2, h3, if_false]; rw [set_comm f .nil (n / 2 - 1) (m / 2 - 1) x y (by omega)]
  | f + 1, .node l v r, n, m, x, y, h => by
    by_cases h0 : n = 0
    · by_cases h1 : m = 0
      · omega
      · by_cases h2 : m % 2 = 1
        · simp only [set_node, h0, h1, h2, if_true, if_false]
        · simp only [set_node, h0, h1, h2, if_true, if_false]
    · by_cases h1 : m = 0
      · by_cases h2 : n % 2 = 1
        · simp only [set_node, h0, h1, h2, if_true, if_false]
        · simp only [set_node, h0, h1, h2, if_true, if_false]
      · by_cases h2 : n % 2 = 1
        · by_cases h3 : m % 2 = 1
          · simp only [set_node, h0, h1, h2, h3, if_true, if_false]; rw [set_comm f l (n / 2) (m / 2) x y (by omega)]
          · simp only [set_node, h0, h1, h2, h3, if_true, if_false]
        · by_cases h3 : m % 2 = 1
          · simp only [set_node, h0, h1, h2, h3, if_true, if_false]
          · simp only [set_node, h0, h1, h2, h3, if_false]; rw [set_comm f r (n / 2 - 1) (m / 2 - 1) x y (by omega)]
end Trie
def mk (l : List AB) : AS := l.foldl AS.put A0
theorem mk_nil : A0 = mk [] := rfl
theorem mk_put (l : List AB) (ab : AB) : (mk l).put ab = mk (l ++ [ab]) := by unfold mk; rw [List.foldl_append]; rfl
theorem mk_next : ∀ (l : List AB), (mk l).next = l.length := by
  intro l
  have : ∀ (l : List AB) (B : AS), (l.foldl AS.put B).next = B.next + l.length := by
    intro l
    induction l with
    | nil => intro B; rfl
    | cons x l ih => intro B; rw [List.foldl_cons, ih]; simp only [AS.put, List.length_cons]; omega
  unfold mk; rw [this]; simp [A0]
theorem mk_pend (l : List AB) : (mk l).pend = [] := by
  have : ∀ (l : List AB) (B : AS), (l.foldl AS.put B).pend = B.pend := by
    intro l
    induction l with
    | nil => intro B; rfl
    | cons x l ih => intro B; rw [List.foldl_cons, ih]; rfl
  unfold mk; rw [this]; rfl
theorem snoc_cases {α : Type} : ∀ (l : List α), l = [] ∨ ∃ l' x, l = l' ++ [x] := fun l => by
  cases h : l.getLast? with
  | none => left; simpa using h
  | some x => right; exact ⟨l.dropLast, x, by rw [List.getLast?_eq_some_iff] at h; obtain ⟨ys, rfl⟩ := h; simp⟩
theorem mk_get : ∀ (k : Nat) (l : List AB) (n : Nat), l.length = k → k < 2 ^ 24 → (mk l).h.get n = l[n]?
  | 0, l, n, h, _ => by
    rw [List.eq_nil_of_length_eq_zero h]; rfl
  | k + 1, l, n, h, hk => by
    rcases snoc_cases l with rfl | ⟨l', x, rfl⟩
    · simp at h
    · simp only [List.length_append, List.length_cons, List.length_nil] at h
      rw [← mk_put]
      have hn := mk_next l'
      show ((mk l').h.set 24 (mk l').next x).get n = _
      by_cases e : n = l'.length
      · subst e
        rw [hn, Trie.get_set_same _ _ _ _ (by omega)]; simp
      · rw [hn, Trie.get_set_other _ _ _ _ _ (fun h => e h.symm), mk_get k l' n (by omega) (by omega)]
        rcases Nat.lt_or_ge n l'.length with h1 | h1
        · rw [List.getElem?_append_left h1]
        · rw [List.getElem?_eq_none h1, List.getElem?_eq_none (by simp; omega)]
theorem mk_set : ∀ (k : Nat) (l : List AB) (n : Nat) (ab : AB), l.length = k → n < k → (mk l).set n ab = mk (l.set n ab)
  | 0, l, n, ab, _, hn => by omega
  | k + 1, l, n, ab, h, hn => by
    rcases snoc_cases l with rfl | ⟨l', x, rfl⟩
    · simp at h
    · simp only [List.length_append, List.length_cons, List.length_nil] at h
      have hx := mk_next l'
      rw [← mk_put]
      by_cases e : n = l'.length
      · subst e
        rw [List.set_append_right _ _ (by omega), Nat.sub_self, List.set_cons_zero, ← mk_put]
        show (⟨((mk l').h.set 24 (mk l').next x).set 24 l'.length ab, (mk l').next + 1, (mk l').pend⟩ : AS) = ⟨(mk l').h.set 24 (mk l').next ab, (mk l').next + 1, (mk l').pend⟩
        rw [hx, Trie.set_set]
      · rw [List.set_append_left _ _ (by omega), ← mk_put, ← mk_set k l' n ab (by omega) (by omega)]
        show (⟨((mk l').h.set 24 (mk l').next x).set 24 n ab, _, _⟩ : AS) = ⟨((mk l').h.set 24 n ab).set 24 (mk l').next x, _, _⟩
        rw [Trie.set_comm _ _ _ _ _ _ (by rw [hx]; exact fun h => e h.symm)]; rfl
theorem mk_anew {l : List AB} {ab : AB} (h : l.length + 2 < 16777216) : anew (mk l) ab = some (l.length, mk (l ++ [ab])) := by
  unfold anew room
  rw [mk_next, mk_pend, mk_put, if_pos]
  simpa [Nat.blt_eq] using h
theorem mk_cellsAt {l : List AB} {n off k : Nat} (h : l.length < 16777216) : cellsAt (mk l) n off k = (match l[n]? with
    | some (.cells cs _ _) | some (.grown cs _ _) => part cs off k
    | _ => none) := by
  unfold cellsAt part
  rw [mk_get _ l n rfl h]
  cases l[n]? with
  | none => rfl
  | some ab => cases ab <;> rfl
theorem list_set_self {α : Type} {l : List α} {n : Nat} {x : α} (h : l[n]? = some x) : l.set n x = l := by
  apply List.ext_getElem?
  intro i
  rw [List.getElem?_set]
  split
  · rename_i e
    subst e
    split
    · exact h.symm
    · rename_i h1
      rw [List.getElem?_eq_none (by omega)] at h; cases h
  · rfl
variable {c : Bool} {ns ty : Nat} {ops rest : List Oper} {k : List Item} {tm : Trie Value} {A : AS} {Q : Trie Value → AS → Prop} {dst : Option Tmp} {pos : String} {after : Array Edge}
def wRun (P : Program) (c : Bool) (ns : Nat) (ops rest : List Oper) (k : List Item) (tm : Trie Value) (A : AS) (Q : Trie Value → AS → Prop) : Prop := wOpsF P c ns ops rest tm A fun tm A => W P ns k tm A Q
def sVal (P : Program) (c : Bool) (ns : Nat) (r : Option Value) (dst : Option Tmp) (ops rest : List Oper) (k : List Item) (tm : Trie Value) (A : AS) (Q : Trie Value → AS → Prop) : Prop :=
  match r with
  | some v => wRun P c ns ops rest k (putD ns tm dst v) A Q
  | none => False
def sSome (P : Program) (c : Bool) (ns : Nat) (r : Option (Value × AS)) (dst : Option Tmp) (ops rest : List Oper) (k : List Item) (tm : Trie Value) (Q : Trie Value → AS → Prop) : Prop :=
  match r with
  | some (v, A) => wRun P c ns ops rest k (putD ns tm dst v) A Q
  | none => False
def sOr (P : Program) (c : Bool) (ns : Nat) (r : Option Value) (o : Oper) (ops rest : List Oper) (k : List Item) (tm : Trie Value) (A : AS) (Q : Trie Value → AS → Prop) : Prop :=
  match r with
  | some v => wRun P c ns ops rest k (putD ns tm o.dst v) A Q
  | none => sSome P c ns (aBare P tm o A) o.dst ops rest k tm Q
def sGuard (P : Program) (c : Bool) (ns : Nat) (b : Bool) (o : Oper) (ops rest : List Oper) (k : List Item) (tm : Trie Value) (A : AS) (Q : Trie Value → AS → Prop) : Prop :=
  if b then wRun P c ns ops (o :: rest) k tm A Q else wRun P c ns ops rest k (putD ns tm o.dst undef) A Q
def sCall (P : Program) (c : Bool) (ns : Nat) (f : Value) (args : List Value) (dst : Option Tmp) (ops rest : List Oper) (k : List Item) (tm : Trie Value) (A : AS) (Q : Trie Value → AS → Prop) : Prop :=
  wCall P f args A fun v A' => (c = true → A' = A) ∧ wRun P c ns ops rest k (putD ns tm dst v) A' Q
def sNot (P : Program) (c : Bool) (ns : Nat) (v : Value) (dst : Option Tmp) (ops rest : List Oper) (k : List Item) (tm : Trie Value) (A : AS) (Q : Trie Value → AS → Prop) : Prop :=
  match v with
  | .bool b => wRun P c ns ops rest k (putD ns tm dst (.bool !b)) A Q
  | _ => False
def sIf (P : Program) (ns : Nat) (t : Bool) (a b : Code) (k : List Item) (tm : Trie Value) (A : AS) (Q : Trie Value → AS → Prop) : Prop :=
  if t then W P ns (.code a :: k) tm A Q else W P ns (.code b :: k) tm A Q
def sDraw (P : Program) (ns : Nat) (ops : List Oper) (k : List Item) (tm : Trie Value) (A : AS) (Q : Trie Value → AS → Prop) : Prop := wDraw P ns ops tm A fun tm A => W P ns k tm A Q
theorem sVal_some {v : Value} : sVal P c ns (some v) dst ops rest k tm A Q = wRun P c ns ops rest k (putD ns tm dst v) A Q := rfl
theorem sSome_some {v : Value} : sSome P c ns (some (v, A)) dst ops rest k tm Q = wRun P c ns ops rest k (putD ns tm dst v) A Q := rfl
theorem sOr_some {v : Value} {op : Op} {g : Option (Nat × Bool)} : sOr P c ns (some v) ⟨dst, op, ty, pos, after, g⟩ ops rest k tm A Q = wRun P c ns ops rest k (putD ns tm dst v) A Q := rfl
theorem sOr_none {o : Oper} : sOr P c ns none o ops rest k tm A Q = sSome P c ns (aBare P tm o A) o.dst ops rest k tm Q := rfl
theorem sGuard_true {o : Oper} : sGuard P c ns true o ops rest k tm A Q = wRun P c ns ops (o :: rest) k tm A Q := rfl
theorem sGuard_false {op : Op} {g : Option (Nat × Bool)} : sGuard P c ns false ⟨dst, op, ty, pos, after, g⟩ ops rest k tm A Q = wRun P c ns ops rest k (putD ns tm dst undef) A Q := rfl
theorem sNot_bool {b : Bool} : sNot P c ns (.bool b) dst ops rest k tm A Q = wRun P c ns ops rest k (putD ns tm dst (.bool !b)) A Q := rfl
theorem sIf_true {a b : Code} : sIf P ns true a b k tm A Q = W P ns (.code a :: k) tm A Q := rfl
theorem sIf_false {a b : Code} : sIf P ns false a b k tm A Q = W P ns (.code b :: k) tm A Q := rfl
theorem wCond_if {t : Bool} {a b : Code} : wCond P ns (.bool t) a b k tm A Q = sIf P ns t a b k tm A Q := by cases t <;> rfl
theorem W_reg {idr : Nat} {ops : Array Oper} : W P ns (.code (.region idr ops false) :: k) tm A Q = wRun P false ns ops.toList ops.toList k tm A Q := by
  rw [W_region]; unfold wRun; rw [wOpsF_false]
theorem W_drw {idr : Nat} {ops : Array Oper} : W P ns (.code (.region idr ops true) :: k) tm A Q = sDraw P ns ops.toList k tm A Q := W_draw
theorem sDraw_seq (hc : CfgOK P cfg0) (hst : dstat ops 0 ops [] ⟨.nil, .nil⟩ [] [] = true) (h : wRun P false ns ops ops k tm A Q) : sDraw P ns ops k tm A Q := wDraw_seq hc hst (by unfold wRun at h; rwa [wOpsF_false] at h)
def guardV (v : Value) (b : Bool) : Bool := match v with | .bool t => t == b | _ => false
theorem guardV_bool {t b : Bool} : guardV (.bool t) b = (t == b) := rfl
def guardO (tm : Trie Value) (d : Option (Option Tmp)) (b : Bool) : Bool := match d with | some (some d) => guardV (tget tm d) b | _ => false
theorem guardO_some {tm : Trie Value} {d : Nat} {b : Bool} : guardO tm (some (some d)) b = guardV (tget tm d) b := rfl
def dstAt : List Oper → Nat → Option (Option Tmp)
  | [], _ => none
  | o :: _, 0 => some o.dst
  | _ :: r, j + 1 => dstAt r j
theorem dstAt_eq : ∀ (ops : List Oper) (j : Nat), dstAt ops j = (ops[j]?).map (·.dst)
  | [], j => by simp [dstAt]
  | o :: _, 0 => by simp [dstAt]
  | o :: r, j + 1 => by simp [dstAt, dstAt_eq r j]
theorem wants_at {op : Op} {j : Nat} {b : Bool} : wants tm ops ⟨dst, op, ty, pos, after, some (j, b)⟩ = guardO tm (dstAt ops j) b := by
  rw [dstAt_eq]
  unfold wants guardO guardV
  simp only
  cases h : ops[j]? with
  | none => rfl
  | some o =>
    cases h2 : o.dst with
    | none => simp [h2]
    | some d => simp only [h2, Option.bind_some, Option.map_some]; cases tget tm d <;> rfl
theorem wo_nil : wRun P c ns ops [] k tm A Q = W P ns k tm A Q := rfl
theorem wo_guard {op : Op} {j : Nat} {b : Bool} : wRun P c ns ops (⟨dst, op, ty, pos, after, some (j, b)⟩ :: rest) k tm A Q = sGuard P c ns (guardO tm (dstAt ops j) b) ⟨dst, op, ty, pos, after, none⟩ ops rest k tm A Q := by
  have e : wOp P tm ⟨dst, op, ty, pos, after, some (j, b)⟩ A = wOp P tm ⟨dst, op, ty, pos, after, none⟩ A := by
    funext K'
    unfold wOp
    cases op with
    | call cl =>
      obtain ⟨callee, args, argTypes⟩ := cl
      cases callee with
      | builtin bi => cases bi <;> rfl
      | _ => rfl
    | _ => rfl
  show wIf (wants tm ops _) (wOp P tm ⟨dst, op, ty, pos, after, some (j, b)⟩ A _) _ = _
  rw [wants_at, e]
  unfold sGuard
  cases guardO tm (dstAt ops j) b <;> rfl
theorem wSome_sSome {r : Option (Value × AS)} : (wSome r fun v A' => wOpsF P c ns ops rest (putD ns tm dst v) A' fun tm A => W P ns k tm A Q) = sSome P c ns r dst ops rest k tm Q := by
  cases r <;> rfl
theorem wSome_still {r : Option Value} : (wSome (still1 A r) fun v A' => wOpsF P c ns ops rest (putD ns tm dst v) A' fun tm A => W P ns k tm A Q) = sVal P c ns r dst ops rest k tm A Q := by cases r <;> rfl
theorem wSome_or {o : Oper} {r : Option Value} (h : o.dst = dst) : (wSome (orBare P tm o A r) fun v A' => wOpsF P c ns ops rest (putD ns tm dst v) A' fun tm A => W P ns k tm A Q) = sOr P c ns r o ops rest k tm A Q := by
  subst h
  cases r with
  | none => exact wSome_sSome
  | some v => rfl
theorem wo_move {x : Operand} : wRun P c ns ops (⟨dst, .move x, ty, pos, after, none⟩ :: rest) k tm A Q = wRun P c ns ops rest k (putD ns tm dst (ev tm x)) A Q := rfl
theorem wo_assign {x : Operand} : wRun P c ns ops (⟨dst, .assign x, ty, pos, after, none⟩ :: rest) k tm A Q = wRun P c ns ops rest k (putD ns tm dst (ev tm x)) A Q := rfl
theorem wo_pick {q x y : Operand} : wRun P c ns ops (⟨dst, .pick q x y, ty, pos, after, none⟩ :: rest) k tm A Q = sSome P c ns (aPick (ev tm q) (ev tm x) (ev tm y) A) dst ops rest k tm Q := wSome_sSome
theorem wo_alloc {t : TypeId} : wRun P c ns ops (⟨dst, .alloc t, ty, pos, after, none⟩ :: rest) k tm A Q = sSome P c ns (aalloc P A t) dst ops rest k tm Q := wSome_sSome
theorem wo_box {t : TypeId} {x : Operand} : wRun P c ns ops (⟨dst, .box t x, ty, pos, after, none⟩ :: rest) k tm A Q = sSome P c ns (abox A t (ev tm x)) dst ops rest k tm Q := wSome_sSome
theorem wo_build {t : TypeId} {ps : Array (Nat × Operand)} : wRun P c ns ops (⟨dst, .build t ps, ty, pos, after, none⟩ :: rest) k tm A Q = sVal P c ns (abuild P t (ps.toList.map fun p => (p.1, ev tm p.2))) dst ops rest k tm A Q := wSome_still
theorem wo_buildSlice {t : TypeId} {n : Nat} {ps : Array (Nat × Operand)} : wRun P c ns ops (⟨dst, .buildSlice t n ps, ty, pos, after, none⟩ :: rest) k tm A Q = sSome P c ns (abuildSlice P A t n (ps.toList.map fun p => (p.1, ev tm p.2))) dst ops rest k tm Q := wSome_sSome
theorem wo_load {t : TypeId} {x : Operand} : wRun P c ns ops (⟨dst, .load t x, ty, pos, after, none⟩ :: rest) k tm A Q = sVal P c ns (aload P A t (ev tm x)) dst ops rest k tm A Q := wSome_still
theorem wo_store {t : TypeId} {a x : Operand} : wRun P c ns ops (⟨dst, .store t a x, ty, pos, after, none⟩ :: rest) k tm A Q = sSome P c ns (done1 (astore P A t (ev tm a) (ev tm x))) dst ops rest k tm Q := wSome_sSome
theorem wo_fieldAddr {s : TypeId} {x : Operand} {f : Nat} : wRun P c ns ops (⟨dst, .fieldAddr s x f, ty, pos, after, none⟩ :: rest) k tm A Q = sVal P c ns (afieldAt P s (ev tm x) f) dst ops rest k tm A Q := wSome_still
theorem wo_indexAddr {t : TypeId} {x ix : Operand} : wRun P c ns ops (⟨dst, .indexAddr t x ix, ty, pos, after, none⟩ :: rest) k tm A Q = sVal P c ns (aindexAt P t (ev tm x) (ev tm ix)) dst ops rest k tm A Q := wSome_still
theorem wo_nilCheck {x : Operand} : wRun P c ns ops (⟨dst, .nilCheck x, ty, pos, after, none⟩ :: rest) k tm A Q = sSome P c ns (aNil (ev tm x) A) dst ops rest k tm Q := wSome_sSome
theorem wo_extract {t : Operand} {ix : Nat} : wRun P c ns ops (⟨dst, .extract t ix, ty, pos, after, none⟩ :: rest) k tm A Q = sSome P c ns (aExtract (ev tm t) ix A) dst ops rest k tm Q := wSome_sSome
theorem wo_makeFunc {fn : Go.Fn} {x y : Array Operand} : wRun P c ns ops (⟨dst, .makeFunc fn x y, ty, pos, after, none⟩ :: rest) k tm A Q = sSome P c ns (aFunc tm fn x y A) dst ops rest k tm Q := wSome_sSome
theorem wo_binOp {op : BinOp} {t z : TypeId} {x y : Operand} : wRun P c ns ops (⟨dst, .binOp op t x y z, ty, pos, after, none⟩ :: rest) k tm A Q = sOr P c ns (aBin P op t (ev tm x) (ev tm y)) ⟨dst, .binOp op t x y z, ty, pos, after, none⟩ ops rest k tm A Q := wSome_or rfl
theorem wo_slice {t : TypeId} {x : Operand} {lo hi mx : Option Operand} : wRun P c ns ops (⟨dst, .slice t x lo hi mx, ty, pos, after, none⟩ :: rest) k tm A Q = sOr P c ns (asliceAt P t (ev tm x) (lo.map (ev tm)) (hi.map (ev tm)) (mx.map (ev tm))) ⟨dst, .slice t x lo hi mx, ty, pos, after, none⟩ ops rest k tm A Q := wSome_or rfl
theorem wo_convert {s t : TypeId} {x : Operand} : wRun P c ns ops (⟨dst, .convert s t x, ty, pos, after, none⟩ :: rest) k tm A Q = sOr P c ns (aconvert P A s t (ev tm x)) ⟨dst, .convert s t x, ty, pos, after, none⟩ ops rest k tm A Q := wSome_or rfl
theorem wo_call {f : Operand} {args : Array Operand} {at_ : Array TypeId} : wRun P c ns ops (⟨dst, .call ⟨.value f, args, at_⟩, ty, pos, after, none⟩ :: rest) k tm A Q = sCall P c ns (ev tm f) (args.toList.map (ev tm)) dst ops rest k tm A Q := rfl
theorem wo_len {args : Array Operand} {at_ : Array TypeId} : wRun P c ns ops (⟨dst, .call ⟨.builtin .len, args, at_⟩, ty, pos, after, none⟩ :: rest) k tm A Q = sOr P c ns (aLen P at_ (args.toList.map (ev tm))) ⟨dst, .call ⟨.builtin .len, args, at_⟩, ty, pos, after, none⟩ ops rest k tm A Q := wSome_or rfl
theorem wo_append {args : Array Operand} {at_ : Array TypeId} : wRun P c ns ops (⟨dst, .call ⟨.builtin .append, args, at_⟩, ty, pos, after, none⟩ :: rest) k tm A Q = sSome P c ns (aappend P A at_ (args.toList.map (ev tm))) dst ops rest k tm Q := wSome_sSome
theorem wo_max {args : Array Operand} {at_ : Array TypeId} : wRun P c ns ops (⟨dst, .call ⟨.builtin .max, args, at_⟩, ty, pos, after, none⟩ :: rest) k tm A Q = sSome P c ns (aBare P tm ⟨dst, .call ⟨.builtin .max, args, at_⟩, ty, pos, after, none⟩ A) dst ops rest k tm Q := wSome_sSome
theorem wo_min {args : Array Operand} {at_ : Array TypeId} : wRun P c ns ops (⟨dst, .call ⟨.builtin .min, args, at_⟩, ty, pos, after, none⟩ :: rest) k tm A Q = sSome P c ns (aBare P tm ⟨dst, .call ⟨.builtin .min, args, at_⟩, ty, pos, after, none⟩ A) dst ops rest k tm Q := wSome_sSome
theorem wo_cap {args : Array Operand} {at_ : Array TypeId} : wRun P c ns ops (⟨dst, .call ⟨.builtin .cap, args, at_⟩, ty, pos, after, none⟩ :: rest) k tm A Q = sVal P c ns (aCap P at_ (args.toList.map (ev tm))) dst ops rest k tm A Q := wSome_still
theorem wo_unOp {op : UnOp} {t : TypeId} {x : Operand} : wRun P c ns ops (⟨dst, .unOp op t x, ty, pos, after, none⟩ :: rest) k tm A Q = sSome P c ns (aBare P tm ⟨dst, .unOp op t x, ty, pos, after, none⟩ A) dst ops rest k tm Q := wSome_sSome
theorem wo_not {t : TypeId} {x : Operand} : wRun P c ns ops (⟨dst, .unOp .not t x, ty, pos, after, none⟩ :: rest) k tm A Q = sNot P c ns (ev tm x) dst ops rest k tm A Q := by
  rw [wo_unOp]
  unfold aBare
  have h1 : (opsL (Op.unOp .not t x)).all (fun y => bare (ev tm y)) = bare (ev tm x) := by simp [opsL]
  rw [h1]
  have h2 : pureRun P (execOp (ev tm) ⟨dst, .unOp .not t x, ty, pos, after, none⟩) = pureRun P (do let v ← Op.unary .not (ev tm x); pure (.value v)) := rfl
  rw [h2]
  cases hv : ev tm x with
  | bool b => rfl
  | _ =>
    simp only [sNot]
    split
    · rfl
    · rfl
theorem sIf_intro {t : Bool} {a b : Code} (h1 : t = true → W P ns (.code a :: k) tm A Q) (h2 : t = false → W P ns (.code b :: k) tm A Q) : sIf P ns t a b k tm A Q := by
  cases t
  · exact h2 rfl
  · exact h1 rfl
theorem sGuard_intro {b : Bool} {o : Oper} (h1 : b = true → wRun P c ns ops (o :: rest) k tm A Q) (h2 : b = false → wRun P c ns ops rest k (putD ns tm o.dst undef) A Q) : sGuard P c ns b o ops rest k tm A Q := by
  cases b
  · exact h2 rfl
  · exact h1 rfl
theorem sGuardN_intro {b : Bool} {o : Oper} (h1 : b = false → wRun P c ns ops (o :: rest) k tm A Q) (h2 : b = true → wRun P c ns ops rest k (putD ns tm o.dst undef) A Q) : sGuard P c ns (!b) o ops rest k tm A Q := by
  cases b
  · exact h1 rfl
  · exact h2 rfl
theorem sIfN_intro {t : Bool} {a b : Code} (h1 : t = false → W P ns (.code a :: k) tm A Q) (h2 : t = true → W P ns (.code b :: k) tm A Q) : sIf P ns (!t) a b k tm A Q := by
  cases t
  · exact h1 rfl
  · exact h2 rfl
theorem sCall_fn {g : FuncId} {args : List Value} {v : Value} (h : Fn P g args v) (hK : wRun P c ns ops rest k (putD ns tm dst v) A Q) : sCall P c ns (.func (.func g) #[] #[]) args dst ops rest k tm A Q := by
  refine ⟨v, A, ?_, fun _ => rfl, hK⟩
  simpa using h false A
theorem sCall_does {g : FuncId} {args : List Value} {v : Value} {A' : AS} (h : Does P (.call g args false) A v A') (hK : wRun P false ns ops rest k (putD ns tm dst v) A' Q) : sCall P false ns (.func (.func g) #[] #[]) args dst ops rest k tm A Q := by
  refine ⟨v, A', ?_, fun e => by simp at e, hK⟩
  simpa using h
theorem fn_is {f : FuncId} {fn : Func} {body : Code} {args : List Value} {v : Value} {rs : Array ResultVar} (hfn : P.funcs[f]? = some fn) (hns : fn.ntmps = ns) (hrs : fn.results = rs) (hbody : fn.body = some body) (hc : CfgOK P cfg0) (hm : P.follows .mixedOrders = true) (hargs : cleanL args = true)
    (h : W P ns [.code body] (setArgs args 0 .nil) (mk []) fun tm A' => ∃ vs, aresults P tm A' rs.toList = some vs ∧ Frz A' (tupleOf vs) v)
    (h1 : args.length ≤ ns := by exact Nat.le_of_ble_eq_true rfl) (h2 : ns < 65535 := by decide) (hok : codeOk body = true := by kernel_rfl) : Fn P f args v := by
  subst hns hrs
  obtain ⟨v', rfl, h'⟩ := fn_of (R := fun v' => v' = v) hc hm hfn hbody h1 h2 hok hargs (by
    obtain ⟨n, hn⟩ := h
    refine ⟨n, ?_⟩
    have e : (fun (tm : Trie Value) (A' : AS) => ∃ vs v', aresults P tm A' fn.results.toList = some vs ∧ Frz A' (tupleOf vs) v' ∧ v' = v) = fun tm A' => ∃ vs, aresults P tm A' fn.results.toList = some vs ∧ Frz A' (tupleOf vs) v := by
      funext tm A'
      apply propext
      constructor
      · rintro ⟨vs, v', q1, q2, rfl⟩; exact ⟨vs, q1, q2⟩
      · rintro ⟨vs, q1, q2⟩; exact ⟨vs, v, q1, q2, rfl⟩
    rw [e]; exact hn)
  exact h'
theorem W_for {ns : Nat} {b : Code} {k : List Item} {Q : Trie Value → AS → Prop} (N : Nat) (I : Nat → Trie Value → AS → Prop)
    (h : ∀ i tm A, i ≤ N → I i tm A → (∀ tm' A', i < N → I (i + 1) tm' A' → W P ns (.inLoop b :: k) tm' A' Q) → W P ns (.code b :: .inLoop b :: k) tm A Q) :
    ∀ i tm A, i ≤ N → I i tm A → W P ns (.inLoop b :: k) tm A Q := by
  have main : ∀ m i tm A, N - i = m → i ≤ N → I i tm A → W P ns (.inLoop b :: k) tm A Q := by
    intro m
    induction m with
    | zero =>
      intro i tm A hm hi hI
      rw [W_inLoop]
      exact h i tm A hi hI fun tm' A' hlt => by omega
    | succ m ih =>
      intro i tm A hm hi hI
      rw [W_inLoop]
      exact h i tm A hi hI fun tm' A' hlt hI' => ih (i + 1) tm' A' (by omega) (by omega) hI'
  exact fun i tm A hi hI => main _ i tm A rfl hi hI
attribute [irreducible] tset wRun sVal sSome sOr sGuard sCall sNot sIf sDraw mk
end Go.Ev
namespace Go.Ev
open Go
variable {P : Program} {φ : Rn} {w : World}
def dpre (ops : List Oper) (j : Nat) : Nat → List Oper → List Nat → Seen → List Nat → List Nat → Option (List Nat × Seen × List Nat × List Nat)
  | _, [], ms, sn, ts, rs => some (ms, sn, ts, rs)
  | i, o :: rest, ms, sn, ts, rs =>
    let m := maskOf i ms o.after.toList 0
    let ls := looks ops o
    if ((opsL o.op).all opk && tempsOk sn m ls o.dst && o.after.toList.all (fun e => !bind e || Nat.blt e.on i)) && !m.testBit j then
      match kindOf o with
      | .news => none
      | .still => dpre ops j (i + 1) rest (m :: ms) (seenOf sn i ls o.dst) ts rs
      | .reads => if ts.all (fun t => m.testBit t) then dpre ops j (i + 1) rest (m :: ms) (seenOf sn i ls o.dst) ts (i :: rs) else none
      | .turns => if ts.all (fun t => m.testBit t) && rs.all (fun t => m.testBit t) then dpre ops j (i + 1) rest (m :: ms) (seenOf sn i ls o.dst) (i :: ts) rs else none
    else none
def dsuf (ops : List Oper) (j : Nat) : Nat → List Oper → List Nat → Seen → List Nat → List Nat → Bool
  | _, [], _, _, _, _ => true
  | i, o :: rest, ms, sn, ts, rs =>
    let m := maskOf i ms o.after.toList 0
    let ls := looks ops o
    ((opsL o.op).all opk && tempsOk sn m ls o.dst && o.after.toList.all (fun e => !bind e || Nat.blt e.on i)) && m.testBit j &&
    (match kindOf o with
    | .news => false
    | .still => dsuf ops j (i + 1) rest (m :: ms) (seenOf sn i ls o.dst) ts rs
    | .reads => ts.all (fun t => m.testBit t) && dsuf ops j (i + 1) rest (m :: ms) (seenOf sn i ls o.dst) ts (i :: rs)
    | .turns => (ts.all (fun t => m.testBit t) && rs.all (fun t => m.testBit t)) && dsuf ops j (i + 1) rest (m :: ms) (seenOf sn i ls o.dst) (i :: ts) rs)
def dnews (pre : List Oper) (on : Oper) (suf : List Oper) : Bool :=
  let ops := pre ++ on :: suf
  match dpre ops pre.length 0 pre [] ⟨.nil, .nil⟩ [] [] with
  | some (ms, sn, ts, rs) =>
    let j := pre.length
    let m := maskOf j ms on.after.toList 0
    let ls := looks ops on
    ((opsL on.op).all opk && tempsOk sn m ls on.dst && on.after.toList.all (fun e => !bind e || Nat.blt e.on j)) && on.after.toList.all (fun e => !bind e) && dsuf ops j (j + 1) suf (m :: ms) (seenOf sn j ls on.dst) ts rs
  | none => false
theorem pends_one {m : Nat} {n : Nat} : ∀ (p s i : Nat), pends m (List.replicate p none ++ some n :: List.replicate s none) i = if m.testBit (i + p) then [] else [n]
  | 0, s, i => by
    simp only [List.replicate_zero, List.nil_append, pends, Nat.add_zero]
    have := pends_none (m := m) (List.replicate s none) (i + 1) (by intro x hx; exact (List.mem_replicate.1 hx).2)
    split
    · rename_i h; rw [this]
    · rename_i h; rw [this]
  | p + 1, s, i => by
    rw [List.replicate_succ, List.cons_append]
    simp only [pends]
    rw [pends_one p s (i + 1)]
    rw [show i + 1 + p = i + (p + 1) by omega]
theorem dsuf_draw {ns : Nat} {ops : List Oper} {rcs : Nat → Rec} {ids : List (Option Nat)} {p s n : Nat} (hids : ids = List.replicate p none ++ some n :: List.replicate s none) : ∀ (rest : List Oper) (i : Nat) (S : DS) (A : AS) (hs : List AS) (ts rs : List Nat) (tm' : Trie Value) (A' : AS),
    dsuf ops p i rest S.ms S.sn ts rs = true → S.hs = A :: hs → A.pend = [] → (∀ t ∈ S.ts, t ∈ ts) → (∀ x ∈ S.rs, x.1 ∈ rs) →
    evSeq P ns ops rcs i rest S.tm A = some (tm', A') → ∃ S', drawAll P cfg0 rcs false ns ops [] ids i rest S = some S' ∧ S'.tm = tm' ∧ ∃ hs', S'.hs = A' :: hs'
  | [], i, S, A, hs, ts, rs, tm', A', _, hh, _, _, _, h => by
    simp only [evSeq, Option.some.injEq, Prod.mk.injEq] at h
    exact ⟨S, rfl, h.1, hs, by rw [hh, h.2]⟩
  | o :: rest, i, S, A, hs, ts, rs, tm', A', hst, hh, hp, hts, hrs, h => by
    simp only [dsuf, Bool.and_eq_true] at hst
    have hcheck : dCheck S i (maskOf i S.ms o.after.toList 0) (looks ops o) o = true := by
      unfold dCheck
      simp only [Bool.and_eq_true]
      exact hst.1.1
    have hA0 : ({ A with pend := pends (maskOf i S.ms o.after.toList 0) ids 0 ++ [] } : AS) = A := by
      rw [hids, pends_one, Nat.zero_add, if_pos hst.1.2, List.nil_append, ← hp]
    simp only [drawAll, drawOne]
    rw [if_pos hcheck]
    unfold dDo
    rw [hh]
    simp only
    simp only [evSeq] at h
    split at h
    · rename_i hw
      rw [if_pos hw]
      simp only [dKind, hA0]
      split at h
      · rename_i v A1 he
        by_cases hp1 : A1.pend = A.pend
        case neg => rw [if_neg hp1] at h; cases h
        rw [if_pos hp1] at h
        cases hk : kindOf o with
        | news => rw [hk] at hst; exact absurd hst.2 (by simp)
        | still =>
          rw [hk] at hst
          have e := evOper_pend (.inl hk) he
          subst e
          simp only [dStill, he, dSeen]
          exact dsuf_draw hids rest (i + 1) { tm := putD ns S.tm o.dst v, ms := maskOf i S.ms o.after.toList 0 :: S.ms, sn := seenOf S.sn i (looks ops o) o.dst, hs := S.hs, ts := S.ts, rs := S.rs } A1 hs ts rs tm' A' hst.2 hh hp hts hrs h
        | reads =>
          rw [hk] at hst
          simp only [Bool.and_eq_true] at hst
          have e := evOper_pend (.inr hk) he
          subst e
          have hnil : (S.ts.takeWhile fun t => !(maskOf i S.ms o.after.toList 0).testBit t) = [] := by
            cases hS : S.ts with
            | nil => rfl
            | cons t r =>
              rw [List.takeWhile_cons_of_neg]
              have := List.all_eq_true.1 hst.2.1 t (hts t (by rw [hS]; simp))
              simp [this]
          simp only [dReads, he, hnil, List.length_nil, List.take_zero, List.all_nil, if_true, dSeen]
          exact dsuf_draw hids rest (i + 1) { tm := putD ns S.tm o.dst v, ms := maskOf i S.ms o.after.toList 0 :: S.ms, sn := seenOf S.sn i (looks ops o) o.dst, hs := S.hs, ts := S.ts, rs := (i, o, S.tm, v) :: S.rs } A1 hs ts (i :: rs) tm' A' hst.2.2 hh hp hts
            (fun x hx => by
              rcases List.mem_cons.1 hx with rfl | hx
              · exact List.mem_cons_self ..
              · exact List.mem_cons_of_mem _ (hrs x hx)) h
        | turns =>
          rw [hk] at hst
          simp only [Bool.and_eq_true] at hst
          have hp1 : A1.pend = [] := hp1.trans hp
          have hto : turnOk S.ts (maskOf i S.ms o.after.toList 0) = true := by
            cases hS : S.ts with
            | nil => rfl
            | cons t r => exact List.all_eq_true.1 hst.2.1.1 t (hts t (by rw [hS]; simp))
          have hA1 : ({ A1 with pend := [] } : AS) = A1 := by rw [← hp1]
          have hag : again P (pends 0 ids 0 ++ []) (maskOf i S.ms o.after.toList 0) { A1 with pend := [] } S.rs = true := again_all fun x hx => List.all_eq_true.1 hst.2.1.2 x.1 (hrs x hx)
          simp only [hto, if_true, dTurns, he]
          rw [if_pos hag]
          simp only [hA1, dSeen]
          exact dsuf_draw hids rest (i + 1) { tm := putD ns S.tm o.dst v, ms := maskOf i S.ms o.after.toList 0 :: S.ms, sn := seenOf S.sn i (looks ops o) o.dst, hs := A1 :: S.hs, ts := i :: S.ts, rs := S.rs.filter fun x => !(maskOf i S.ms o.after.toList 0).testBit x.1 } A1 (S.hs) (i :: ts) rs tm' A' hst.2.2 rfl hp1
            (fun x hx => by
              rcases List.mem_cons.1 hx with rfl | hx
              · exact List.mem_cons_self ..
              · exact List.mem_cons_of_mem _ (hts x hx)) (fun x hx => hrs x (List.mem_filter.1 hx).1) h
      · cases h
    · rename_i hw
      rw [if_neg hw]
      cases hk : kindOf o with
      | news => rw [hk] at hst; exact absurd hst.2 (by simp)
      | still =>
        rw [hk] at hst
        simp only [dSkip, hk, dSeen]
        exact dsuf_draw hids rest (i + 1) { tm := putD ns S.tm o.dst undef, ms := maskOf i S.ms o.after.toList 0 :: S.ms, sn := seenOf S.sn i (looks ops o) o.dst, hs := S.hs, ts := S.ts, rs := S.rs } A hs ts rs tm' A' hst.2 hh hp hts hrs h
      | reads =>
        rw [hk] at hst
        simp only [Bool.and_eq_true] at hst
        simp only [dSkip, hk, dSeen]
        exact dsuf_draw hids rest (i + 1) { tm := putD ns S.tm o.dst undef, ms := maskOf i S.ms o.after.toList 0 :: S.ms, sn := seenOf S.sn i (looks ops o) o.dst, hs := S.hs, ts := S.ts, rs := S.rs } A hs ts (i :: rs) tm' A' hst.2.2 hh hp hts (fun x hx => List.mem_cons_of_mem _ (hrs x hx)) h
      | turns =>
        rw [hk] at hst
        simp only [Bool.and_eq_true] at hst
        simp only [dSkip, hk, dSeen]
        exact dsuf_draw hids rest (i + 1) { tm := putD ns S.tm o.dst undef, ms := maskOf i S.ms o.after.toList 0 :: S.ms, sn := seenOf S.sn i (looks ops o) o.dst, hs := S.hs, ts := S.ts, rs := S.rs } A hs (i :: ts) rs tm' A' hst.2.2 hh hp (fun x hx => List.mem_cons_of_mem _ (hts x hx)) hrs h
theorem dpre_draw {ns : Nat} {ops : List Oper} {rcs : Nat → Rec} {ids : List (Option Nat)} {p s n : Nat} (hids : ids = List.replicate p none ++ some n :: List.replicate s none) {tail : List Oper} {ms' : List Nat} {sn' : Seen} {ts' rs' : List Nat} : ∀ (rest : List Oper) (i : Nat) (S : DS) (A : AS) (hs : List AS) (ts rs : List Nat) (tm' : Trie Value) (A' : AS),
    dpre ops p i rest S.ms S.sn ts rs = some (ms', sn', ts', rs') → S.hs = A :: hs → A.pend = [] → (∀ t ∈ S.ts, t ∈ ts) → (∀ x ∈ S.rs, x.1 ∈ rs) →
    evSeq P ns ops rcs i rest S.tm (A.wp [n]) = some (tm', A') → ∃ S', drawAll P cfg0 rcs false ns ops [] ids i (rest ++ tail) S = drawAll P cfg0 rcs false ns ops [] ids (i + rest.length) tail S' ∧ S'.tm = tm' ∧ (∃ hs', S'.hs = A'.wp [] :: hs') ∧ S'.ms = ms' ∧ S'.sn = sn' ∧ (∀ t ∈ S'.ts, t ∈ ts') ∧ ∀ x ∈ S'.rs, x.1 ∈ rs'
  | [], i, S, A, hs, ts, rs, tm', A', hst, hh, hp, hts, hrs, h => by
    simp only [evSeq, Option.some.injEq, Prod.mk.injEq] at h
    simp only [dpre, Option.some.injEq, Prod.mk.injEq] at hst
    obtain ⟨e1, e2, e3, e4⟩ := hst
    subst e3 e4
    refine ⟨S, rfl, h.1, ⟨hs, ?_⟩, e1, e2, hts, hrs⟩
    rw [hh, ← h.2]
    show A :: hs = (A.wp []) :: hs
    rw [show A.wp [] = A by unfold AS.wp; rw [← hp]]
  | o :: rest, i, S, A, hs, ts, rs, tm', A', hst, hh, hp, hts, hrs, h => by
    simp only [dpre] at hst
    split at hst
    case isFalse => cases hst
    rename_i hck
    simp only [Bool.and_eq_true, Bool.not_eq_true'] at hck
    have hcheck : dCheck S i (maskOf i S.ms o.after.toList 0) (looks ops o) o = true := by
      unfold dCheck
      simp only [Bool.and_eq_true]
      exact hck.1
    have hA0 : ({ A with pend := pends (maskOf i S.ms o.after.toList 0) ids 0 ++ [] } : AS) = A.wp [n] := by
      rw [hids, pends_one, Nat.zero_add, if_neg (by rw [hck.2]; simp)]; rfl
    rw [List.cons_append, List.length_cons, show i + (rest.length + 1) = i + 1 + rest.length by omega]
    simp only [drawAll, drawOne]
    rw [if_pos hcheck]
    unfold dDo
    rw [hh]
    simp only
    simp only [evSeq] at h
    split at h
    · rename_i hw
      rw [if_pos hw]
      simp only [dKind, hA0]
      split at h
      · rename_i v A1 he
        by_cases hp1 : A1.pend = (A.wp [n]).pend
        case neg => rw [if_neg hp1] at h; cases h
        rw [if_pos hp1] at h
        cases hk : kindOf o with
        | news => rw [hk] at hst; cases hst
        | still =>
          rw [hk] at hst
          have e := evOper_pend (.inl hk) he
          subst e
          simp only [dStill, he, dSeen]
          exact dpre_draw hids rest (i + 1) { tm := putD ns S.tm o.dst v, ms := maskOf i S.ms o.after.toList 0 :: S.ms, sn := seenOf S.sn i (looks ops o) o.dst, hs := S.hs, ts := S.ts, rs := S.rs } A hs ts rs tm' A' hst hh hp hts hrs h
        | reads =>
          rw [hk] at hst
          simp only at hst
          split at hst
          case isFalse => cases hst
          rename_i hall
          have e := evOper_pend (.inr hk) he
          subst e
          have hnil : (S.ts.takeWhile fun t => !(maskOf i S.ms o.after.toList 0).testBit t) = [] := by
            cases hS : S.ts with
            | nil => rfl
            | cons t r =>
              rw [List.takeWhile_cons_of_neg]
              have := List.all_eq_true.1 hall t (hts t (by rw [hS]; simp))
              simp [this]
          simp only [dReads, he, hnil, List.length_nil, List.take_zero, List.all_nil, if_true, dSeen]
          exact dpre_draw hids rest (i + 1) { tm := putD ns S.tm o.dst v, ms := maskOf i S.ms o.after.toList 0 :: S.ms, sn := seenOf S.sn i (looks ops o) o.dst, hs := S.hs, ts := S.ts, rs := (i, o, S.tm, v) :: S.rs } A hs ts (i :: rs) tm' A' hst hh hp hts
            (fun x hx => by
              rcases List.mem_cons.1 hx with rfl | hx
              · exact List.mem_cons_self ..
              · exact List.mem_cons_of_mem _ (hrs x hx)) h
        | turns =>
          rw [hk] at hst
          simp only [Bool.and_eq_true] at hst
          split at hst
          case isFalse => cases hst
          rename_i hall
          have hto : turnOk S.ts (maskOf i S.ms o.after.toList 0) = true := by
            cases hS : S.ts with
            | nil => rfl
            | cons t r => exact List.all_eq_true.1 hall.1 t (hts t (by rw [hS]; simp))
          have hag : again P (pends 0 ids 0 ++ []) (maskOf i S.ms o.after.toList 0) { A1 with pend := [] } S.rs = true := again_all fun x hx => List.all_eq_true.1 hall.2 x.1 (hrs x hx)
          simp only [hto, if_true, dTurns, he]
          rw [if_pos hag]
          simp only [dSeen]
          have hA1 : (({ A1 with pend := [] } : AS)).wp [n] = A1 := by
            show ({ A1 with pend := [n] } : AS) = A1
            have : A1.pend = [n] := hp1
            rw [← this]
          exact dpre_draw hids rest (i + 1) { tm := putD ns S.tm o.dst v, ms := maskOf i S.ms o.after.toList 0 :: S.ms, sn := seenOf S.sn i (looks ops o) o.dst, hs := { A1 with pend := [] } :: S.hs, ts := i :: S.ts, rs := S.rs.filter fun x => !(maskOf i S.ms o.after.toList 0).testBit x.1 } { A1 with pend := [] } (S.hs) (i :: ts) rs tm' A' hst rfl rfl
            (fun x hx => by
              rcases List.mem_cons.1 hx with rfl | hx
              · exact List.mem_cons_self ..
              · exact List.mem_cons_of_mem _ (hts x hx)) (fun x hx => hrs x (List.mem_filter.1 hx).1) (by rw [hA1]; exact h)
      · cases h
    · rename_i hw
      rw [if_neg hw]
      cases hk : kindOf o with
      | news => rw [hk] at hst; cases hst
      | still =>
        rw [hk] at hst
        simp only [dSkip, hk, dSeen]
        exact dpre_draw hids rest (i + 1) { tm := putD ns S.tm o.dst undef, ms := maskOf i S.ms o.after.toList 0 :: S.ms, sn := seenOf S.sn i (looks ops o) o.dst, hs := S.hs, ts := S.ts, rs := S.rs } A hs ts rs tm' A' hst hh hp hts hrs h
      | reads =>
        rw [hk] at hst
        simp only at hst
        split at hst
        case isFalse => cases hst
        simp only [dSkip, hk, dSeen]
        exact dpre_draw hids rest (i + 1) { tm := putD ns S.tm o.dst undef, ms := maskOf i S.ms o.after.toList 0 :: S.ms, sn := seenOf S.sn i (looks ops o) o.dst, hs := S.hs, ts := S.ts, rs := S.rs } A hs ts (i :: rs) tm' A' hst hh hp hts (fun x hx => List.mem_cons_of_mem _ (hrs x hx)) h
      | turns =>
        rw [hk] at hst
        simp only [Bool.and_eq_true] at hst
        split at hst
        case isFalse => cases hst
        simp only [dSkip, hk, dSeen]
        exact dpre_draw hids rest (i + 1) { tm := putD ns S.tm o.dst undef, ms := maskOf i S.ms o.after.toList 0 :: S.ms, sn := seenOf S.sn i (looks ops o) o.dst, hs := S.hs, ts := S.ts, rs := S.rs } A hs (i :: ts) rs tm' A' hst hh hp (fun x hx => List.mem_cons_of_mem _ (hts x hx)) hrs h
theorem dsuf_ops {ops : List Oper} {j : Nat} : ∀ (rest : List Oper) (i : Nat) (ms : List Nat) (sn : Seen) (ts rs : List Nat), dsuf ops j i rest ms sn ts rs = true → opsOk rest = true ∧ ∀ o ∈ rest, kindOf o ≠ .news
  | [], i, ms, sn, ts, rs, _ => ⟨rfl, by simp⟩
  | o :: rest, i, ms, sn, ts, rs, h => by
    simp only [dsuf, Bool.and_eq_true] at h
    have fin : ∀ {ms sn ts rs}, dsuf ops j (i + 1) rest ms sn ts rs = true → kindOf o ≠ .news → opsOk (o :: rest) = true ∧ ∀ u ∈ o :: rest, kindOf u ≠ .news := fun h2 hk => by
      obtain ⟨q1, q2⟩ := dsuf_ops rest _ _ _ _ _ h2
      refine ⟨?_, fun u hu => ?_⟩
      · unfold opsOk at q1 ⊢
        rw [List.all_cons, q1, h.1.1.1.1]; rfl
      · rcases List.mem_cons.1 hu with rfl | hu
        · exact hk
        · exact q2 u hu
    cases hk : kindOf o with
    | news => rw [hk] at h; exact absurd h.2 (by simp)
    | still => rw [hk] at h; exact fin h.2 (by rw [hk]; simp)
    | reads => rw [hk] at h; simp only [Bool.and_eq_true] at h; exact fin h.2.2 (by rw [hk]; simp)
    | turns => rw [hk] at h; simp only [Bool.and_eq_true] at h; exact fin h.2.2 (by rw [hk]; simp)
theorem dpre_ops {ops : List Oper} {j : Nat} {r : List Nat × Seen × List Nat × List Nat} : ∀ (rest : List Oper) (i : Nat) (ms : List Nat) (sn : Seen) (ts rs : List Nat), dpre ops j i rest ms sn ts rs = some r → opsOk rest = true ∧ ∀ o ∈ rest, kindOf o ≠ .news
  | [], i, ms, sn, ts, rs, _ => ⟨rfl, by simp⟩
  | o :: rest, i, ms, sn, ts, rs, h => by
    simp only [dpre] at h
    split at h
    case isFalse => cases h
    rename_i hck
    simp only [Bool.and_eq_true] at hck
    have fin : ∀ {ms sn ts rs}, dpre ops j (i + 1) rest ms sn ts rs = some r → kindOf o ≠ .news → opsOk (o :: rest) = true ∧ ∀ u ∈ o :: rest, kindOf u ≠ .news := fun h2 hk => by
      obtain ⟨q1, q2⟩ := dpre_ops rest _ _ _ _ _ h2
      refine ⟨?_, fun u hu => ?_⟩
      · unfold opsOk at q1 ⊢
        rw [List.all_cons, q1, hck.1.1.1]; rfl
      · rcases List.mem_cons.1 hu with rfl | hu
        · exact hk
        · exact q2 u hu
    cases hk : kindOf o with
    | news => rw [hk] at h; cases h
    | still => rw [hk] at h; exact fin h (by rw [hk]; simp)
    | reads => rw [hk] at h; simp only at h; split at h; exact fin h (by rw [hk]; simp); cases h
    | turns => rw [hk] at h; simp only at h; split at h; exact fin h (by rw [hk]; simp); cases h
theorem reserve_app : ∀ (rest r : List Oper) (A : AS) (acc : List (Option Nat)), (∀ o ∈ rest, kindOf o ≠ .news) → reserve P (rest ++ r) A acc = reserve P r A (List.replicate rest.length none ++ acc)
  | [], r, A, acc, _ => rfl
  | o :: rest, r, A, acc, h => by
    have ho := h o (List.mem_cons_self ..)
    rw [List.cons_append]
    conv => lhs; unfold reserve
    split
    · rename_i t hop
      exact absurd (by unfold kindOf; rw [hop]) ho
    · rw [reserve_app rest r A _ fun u hu => h u (List.mem_cons_of_mem _ hu)]
      congr 1
      rw [List.length_cons, List.replicate_succ', List.append_assoc]; rfl
theorem evSeq_congr' {ns : Nat} {ops : List Oper} {rcs rcs' : Nat → Rec} : ∀ (rest : List Oper) (i : Nat) (tm : Trie Value) (A : AS), (∀ j, i ≤ j → j < i + rest.length → rcs j = rcs' j) → evSeq P ns ops rcs i rest tm A = evSeq P ns ops rcs' i rest tm A
  | [], i, tm, A, _ => rfl
  | o :: rest, i, tm, A, h => by
    simp only [evSeq]
    rw [h i (Nat.le_refl _) (by simp)]
    have h' : ∀ j, i + 1 ≤ j → j < i + 1 + rest.length → rcs j = rcs' j := fun j h1 h2 => h j (by omega) (by rw [List.length_cons]; omega)
    split
    · split
      · rw [evSeq_congr' rest _ _ _ h']
      · rfl
    · exact evSeq_congr' rest _ _ _ h'
theorem Rel.ahead {A : AS} {ab : AB} (h : Rel φ A w) (hp : A.pend = []) (hroom : A.next + 2 < 2 ^ 24) : Rel φ ((A.put ab).wp [A.next]) w := by
  have hg := put_get A ab (by omega)
  have hcase : ∀ n x, (A.put ab).h.get n = some x → n ∉ [A.next] → A.h.get n = some x := fun n x hx hn => by
    rw [hg, if_neg (by simpa using hn)] at hx; exact hx
  have hok : ∀ n, A.ok n = true → ((A.put ab).wp [A.next]).ok n = true := fun n hn => by
    rw [AS.ok_iff] at hn ⊢
    refine hn.imp (fun q => ⟨Nat.lt_succ_of_lt q.1, ?_⟩) id
    show n ∉ [A.next]
    have := q.1
    simp; omega
  refine ⟨fun n x h1 h2 => ?_, fun n x h1 => ?_, fun n m x y h1 h2 h3 h4 h5 h6 e => ?_, fun n x h1 h2 => ?_, fun b hb => ⟨(h.fro b hb).1, fun n x h1 h2 h3 => ?_⟩, ?_⟩
  · exact h.obj n x (hcase n x h1 h2) (by rw [hp]; simp)
  · show n < A.next + 1
    by_cases e : n = A.next
    · omega
    · exact Nat.lt_succ_of_lt (h.lt n x (hcase n x h1 (by simpa using e)))
  · exact h.inj n m x y (hcase n x h1 h3) h2 (by rw [hp]; simp) (hcase m y h4 h6) h5 (by rw [hp]; simp) e
  · exact abok_mono hok x (h.wf n x (hcase n x h1 h2) (by rw [hp]; simp))
  · exact (h.fro b hb).2 n x (hcase n x h1 h3) h2 (by rw [hp]; simp)
  · show A.next + 1 + 1 < 2 ^ 24; omega
theorem wDraw_news (hc : CfgOK P cfg0) {ns : Nat} {pre suf : List Oper} {d : Option Tmp} {t ty : TypeId} {pos : String} {after : Array Edge} {z : Value} {tm : Trie Value} {A : AS} {K : Trie Value → AS → Prop}
    (hz : zeroOf P t = some z) (hp : A.pend = []) (hroom : A.next + 2 < 2 ^ 24) (hst : dnews pre ⟨d, .alloc t, ty, pos, after, none⟩ suf = true)
    (h : wOps P ns (pre ++ ⟨d, .alloc t, ty, pos, after, none⟩ :: suf) pre tm ((A.put (.cells z.cells.toList t (0, 0))).wp [A.next]) fun tm1 A1 => wOps P ns (pre ++ ⟨d, .alloc t, ty, pos, after, none⟩ :: suf) suf (putD ns tm1 d (ptr A.next)) (A1.wp []) K) :
    wDraw P ns (pre ++ ⟨d, .alloc t, ty, pos, after, none⟩ :: suf) tm A K := by
  have hst0 := hst
  unfold dnews at hst
  simp only at hst
  split at hst
  case h_2 => cases hst
  rename_i ms sn ts rs hpre
  simp only [Bool.and_eq_true] at hst
  obtain ⟨⟨hon, hun⟩, hsuf⟩ := hst
  obtain ⟨p1, p2⟩ := dpre_ops _ _ _ _ _ _ hpre
  obtain ⟨s1, s2⟩ := dsuf_ops _ _ _ _ _ _ hsuf
  generalize hon' : (⟨d, .alloc t, ty, pos, after, none⟩ : Oper) = on at *
  have honop : on.op = .alloc t := by rw [← hon']
  have hong : on.guard = none := by rw [← hon']
  have hond : on.dst = d := by rw [← hon']
  have hona : on.after = after := by rw [← hon']
  generalize hops : pre ++ on :: suf = ops at *
  have hok : opsOk ops = true := by
    rw [← hops]
    unfold opsOk at p1 s1 ⊢
    rw [List.all_append, List.all_cons, p1, s1, honop, hon.1.1]; rfl
  obtain ⟨rcs1, tm1, A1, r1, hK1, run1, ev1⟩ := wOps_ev hc (ops := ops.toArray) (tail := on :: suf) hok pre 0 tm _ _ (by simp [hops]) h
  obtain ⟨rcs2, tm', A', r2, hK2, run2, ev2⟩ := wOps_ev hc (ops := ops.toArray) (tail := []) hok suf (pre.length + 1) _ _ _ (by rw [← hops]; simp) hK1
  refine ⟨fun k => if k ≤ pre.length then rcs1 k else rcs2 k, tm', A', fun k => ?_, hK2, fun φ w a hR hF => ?_⟩
  · show RecOK P (if k ≤ pre.length then rcs1 k else rcs2 k)
    split
    · exact r1 k
    · exact r2 k
  have hRp := hR.ahead (ab := .cells z.cells.toList t (0, 0)) hp hroom
  have hokA : ∀ n, A.ok n = true → ((A.put (.cells z.cells.toList t (0, 0))).wp [A.next]).ok n = true := fun n hn => by
    rw [AS.ok_iff] at hn ⊢
    refine hn.imp (fun q => ⟨Nat.lt_succ_of_lt q.1, ?_⟩) id
    show n ∉ [A.next]
    have := q.1
    simp; omega
  have hFp : FR φ ((A.put (.cells z.cells.toList t (0, 0))).wp [A.next]) w ns tm [] a := ⟨hF.tmr, Trie.all_of fun n x hx => vok_mono hokA x (Trie.all_get hF.tok hx), hF.dsr, rfl⟩
  have e1 := ev1 φ w a hRp hFp
  obtain ⟨φ1, w1, a1, _, R1, runs1, F1⟩ := run1 φ w a frame0 [] [] (.inl rfl) rfl hRp hFp
  have hpend1 : A1.pend = [A.next] := runs1.pend
  have hw1 : A1.wp [A.next] = A1 := by unfold AS.wp; rw [← hpend1]
  have hget : A1.h.get A.next = some (.cells z.cells.toList t (0, 0)) := by
    rw [runs1.pnd A.next (by show A.next ∈ [A.next]; simp)]
    show (A.put _).h.get _ = _
    rw [put_get A _ (by omega), if_pos rfl]
  have hzb : ∀ v ∈ z.cells.toList, bare v = true := vokL_mem.1 (vok_cells (zeroOf_ok (w := w) hz).2.1)
  obtain ⟨R2, ext2⟩ := Rel.made (A := A1) (q := [A.next]) (r := []) (n := A.next) (by rw [hw1]; exact R1) (by simp) (by intro m; simp) hget rfl hzb
  rw [hw1] at ext2
  have hok2 : ∀ n, A1.ok n = true → (A1.wp []).ok n = true := fun n hn => by
    rw [AS.ok_iff] at hn ⊢
    exact hn.imp (fun q => ⟨q.1, by show n ∉ []; simp⟩) id
  have hnx : A.next < A1.next := by have := runs1.next; exact Nat.lt_of_lt_of_le (Nat.lt_succ_self _) this
  have F2 : FR (upd φ1 A.next w1.heap.size 0) (A1.wp []) (w1.alloc (.cells z.cells t)) ns tm1 [] a1 := ⟨F1.tmr.ext ext2 F1.tok, Trie.all_of fun n x hx => vok_mono hok2 x (Trie.all_get F1.tok hx), by have := F1.dsr; cases hd : a1.defers with
    | nil => rfl
    | cons x l => rw [hd] at this; exact absurd this (by simp [RDL]), rfl⟩
  have F3 := F2.put (v := ptr A.next) (RV_ptr.2 rfl) (by
    show (A1.wp []).ok A.next = true
    rw [AS.ok_iff]
    exact .inl ⟨hnx, by show A.next ∉ []; simp⟩) d
  have e2 := ev2 _ _ _ R2 F3
  have hids : reserve P ops A [] = some (A.put (.cells z.cells.toList t (0, 0)), List.replicate pre.length none ++ some A.next :: List.replicate suf.length none) := by
    rw [← hops, reserve_app pre _ A [] p2]
    unfold reserve
    rw [honop]
    simp only
    rw [if_pos (by rw [hong, hona, hun]; rfl)]
    have hal : aalloc P A t = some (ptr A.next, A.put (.cells z.cells.toList t (0, 0))) := by
      unfold aalloc
      rw [hz]
      simp only
      unfold abox anew room
      rw [if_pos (by rw [hp]; simpa [Nat.blt_eq] using hroom)]
    rw [hal]
    simp only
    rw [reserve_none suf _ _ s2]
    simp
  unfold evDraw
  rw [hids]
  simp only
  have e1' : evSeq P ns ops (fun k => if k ≤ pre.length then rcs1 k else rcs2 k) 0 pre tm ((A.put (.cells z.cells.toList t (0, 0))).wp [A.next]) = some (tm1, A1) := by
    rw [← e1]
    exact evSeq_congr' pre 0 _ _ fun k _ hk => if_pos (by omega)
  have e2' : evSeq P ns ops (fun k => if k ≤ pre.length then rcs1 k else rcs2 k) (pre.length + 1) suf (putD ns tm1 d (ptr A.next)) (A1.wp []) = some (tm', A') := by
    rw [← e2]
    exact evSeq_congr' suf _ _ _ fun k hk _ => if_neg (by omega)
  obtain ⟨S', q1, q2, ⟨hs', q3⟩, q4, q5, q6, q7⟩ := dpre_draw (P := P) (n := A.next) (p := pre.length) (s := suf.length) rfl (tail := on :: suf) pre 0 { tm, ms := [], sn := ⟨.nil, .nil⟩, hs := [A.put (.cells z.cells.toList t (0, 0))], ts := [], rs := [] } _ [] [] [] tm1 A1 hpre rfl hp (by simp) (by simp) e1'
  rw [hops] at q1
  rw [hp, q1, Nat.zero_add]
  have hcheck : dCheck S' pre.length (maskOf pre.length S'.ms on.after.toList 0) (looks ops on) on = true := by
    unfold dCheck
    simp only [Bool.and_eq_true]
    rw [q4, q5, hona, honop, hond]
    exact hon
  have hwant : wants S'.tm ops on = true := by unfold wants; rw [hong]
  have hkind : kindOf on = .news := by unfold kindOf; rw [honop]
  have hat : ((List.replicate pre.length none ++ some A.next :: List.replicate suf.length (none : Option Nat))[pre.length]?).bind id = some A.next := by
    rw [List.getElem?_append_right (by simp)]; simp
  simp only [drawAll, drawOne]
  rw [if_pos hcheck]
  unfold dDo
  rw [q3]
  simp only [hwant, if_true, dKind, hkind, dNews, hat, dSeen]
  obtain ⟨S'', q8, q9, hs'', q10⟩ := dsuf_draw (P := P) (n := A.next) (p := pre.length) (s := suf.length) rfl suf (pre.length + 1) { tm := putD ns S'.tm on.dst (ptr A.next), ms := maskOf pre.length S'.ms on.after.toList 0 :: S'.ms, sn := seenOf S'.sn pre.length (looks ops on) on.dst, hs := S'.hs, ts := S'.ts, rs := S'.rs } (A1.wp []) hs' ts rs tm' A' (by
    show dsuf ops pre.length (pre.length + 1) suf (maskOf pre.length S'.ms on.after.toList 0 :: S'.ms) (seenOf S'.sn pre.length (looks ops on) on.dst) ts rs = true
    rw [q4, q5, hona, hond]; exact hsuf) q3 rfl q6 q7 (by
    show evSeq P ns ops _ (pre.length + 1) suf (putD ns S'.tm on.dst (ptr A.next)) (A1.wp []) = _
    rw [q2, hond]; exact e2')
  rw [q8]
  simp only [q10, q9]
def mkp (l : List AB) (p : List Nat) : AS := (mk l).wp p
def sNews (P : Program) (ns n : Nat) (d : Option Tmp) (ops suf : List Oper) (k : List Item) (tm : Trie Value) (A : AS) (Q : Trie Value → AS → Prop) : Prop := wRun P false ns ops suf k (putD ns tm d (ptr n)) (A.wp []) Q
theorem mkp_nil {l : List AB} {p : List Nat} : (mkp l p).wp [] = mk l := by
  have := mk_pend l
  show ({ mk l with pend := [] } : AS) = mk l
  rw [← this]
theorem sNews_mk {ns n : Nat} {d : Option Tmp} {ops suf : List Oper} {k : List Item} {tm : Trie Value} {l : List AB} {p : List Nat} {Q : Trie Value → AS → Prop} :
    sNews P ns n d ops suf k tm (mkp l p) Q = wRun P false ns ops suf k (putD ns tm d (.pointer (some ⟨n, 0, none⟩))) (mk l) Q := by
  unfold sNews; rw [mkp_nil]; rfl
theorem aload_mkp {t : TypeId} {x : Value} {l : List AB} {p : List Nat} : aload P (mkp l p) t x = aload P (mk l) t x := aload_h rfl t x
theorem cellsFrom_mkp {x : Value} {k : Nat} {l : List AB} {p : List Nat} : cellsFrom (mkp l p) x k = cellsFrom (mk l) x k := cellsFrom_h rfl x k
theorem cellsAt_mkp {n o k : Nat} {l : List AB} {p : List Nat} : cellsAt (mkp l p) n o k = cellsAt (mk l) n o k := cellsAt_h rfl n o k
theorem sDraw_news (j : Nat) {ns : Nat} {ops pre suf : List Oper} {k : List Item} {tm : Trie Value} {l : List AB} {Q : Trie Value → AS → Prop} {d : Option Tmp} {t ty : TypeId} {pos : String} {after : Array Edge} {z : Value} (hc : CfgOK P cfg0)
    (e1 : ops.take j = pre) (e2 : ops.drop j = ⟨d, .alloc t, ty, pos, after, none⟩ :: suf) (hz : zeroOf P t = some z) (hl : l.length + 2 < 16777216) (hst : dnews pre ⟨d, .alloc t, ty, pos, after, none⟩ suf = true)
    (h : wRun P false ns ops pre [] tm (mkp (l ++ [.cells z.cells.toList t (0, 0)]) [l.length]) fun tm' A' => sNews P ns l.length d ops suf k tm' A' Q) : sDraw P ns ops k tm (mk l) Q := by
  have e : ops = pre ++ ⟨d, .alloc t, ty, pos, after, none⟩ :: suf := by rw [← e1, ← e2, List.take_append_drop]
  subst e
  unfold sDraw
  refine wDraw_news hc hz (mk_pend l) (by rw [mk_next]; exact hl) hst ?_
  rw [mk_next, mk_put]
  unfold wRun at h
  rw [wOpsF_false] at h
  refine wOps_mono (fun tm' A' h2 => ?_) _ _ _ h
  rw [W_nil] at h2
  unfold sNews wRun at h2
  rw [wOpsF_false] at h2
  exact h2
attribute [irreducible] mkp sNews
end Go.Ev
namespace Go.Ev
open Go
variable {P : Program}
section
variable {t : TypeId} {k : IntKind} {a b : Int}
theorem aBin_eql : aBin P .eql t (.int k a) (.int k b) = some (.bool (decide (a = b))) := by simp [aBin, abin, Op.intCmp, pureRun, bare, vok, pure]; rfl
theorem aBin_neq : aBin P .neq t (.int k a) (.int k b) = some (.bool (!decide (a = b))) := by simp [aBin, abin, Op.intCmp, pureRun, bare, vok, pure]; rfl
theorem aBin_lss : aBin P .lss t (.int k a) (.int k b) = some (.bool (decide (a < b))) := by simp [aBin, abin, Op.intCmp, pureRun, bare, vok, pure]
theorem aBin_leq : aBin P .leq t (.int k a) (.int k b) = some (.bool (decide (a ≤ b))) := by simp [aBin, abin, Op.intCmp, pureRun, bare, vok, pure]
theorem aBin_gtr : aBin P .gtr t (.int k a) (.int k b) = some (.bool (decide (b < a))) := by simp [aBin, abin, Op.intCmp, pureRun, bare, vok, pure]
theorem aBin_geq : aBin P .geq t (.int k a) (.int k b) = some (.bool (decide (b ≤ a))) := by simp [aBin, abin, Op.intCmp, pureRun, bare, vok, pure]
theorem aBin_add : aBin P .add t (.int k a) (.int k b) = some (.int k (k.wrap (a + b))) := by simp [aBin, abin, Op.intArith, pureRun, bare, vok, pure]
theorem aBin_sub : aBin P .sub t (.int k a) (.int k b) = some (.int k (k.wrap (a - b))) := by simp [aBin, abin, Op.intArith, pureRun, bare, vok, pure]
end
theorem nat_cast {k : IntKind} {n : Nat} : nat? (.int k (n : Int)) = some n := rfl
theorem nat_num {k : IntKind} {n : Nat} : nat? (.int k (no_index (OfNat.ofNat n))) = some (OfNat.ofNat n) := rfl
theorem goInt_eq {n : Nat} : goInt n = .int .i64 n := rfl
theorem rowOf_frow {n : Nat} {cs : List Value} : rowOf (frow n cs) = some (n, cs) := by
  show (if rowN = rowN then some (n, cs) else none) = _
  rw [if_pos rfl]
theorem ptrOf_fptr {n : Nat} {cs : List Value} : ptrOf (fptr n cs) = some (n, cs) := by
  show (if ptrN = ptrN then some (n, cs) else none) = _
  rw [if_pos rfl]
def aLenD (d : Option TypeDesc) (x : Value) : Option Value :=
  match x with
  | .string s => (match d with | some .string => some (goInt s.size) | _ => none)
  | x => (match d, sliceLen x with | some (.slice _), some n => some (goInt n) | _, _ => none)
theorem aLen_eq {t : TypeId} {ts : List TypeId} {x : Value} {xs : List Value} : aLen P (List.toArray (t :: ts)) (x :: xs) = aLenD (P.underlying t) x := by
  cases x <;> rfl
theorem aLenD_row {e : TypeId} {n : Nat} {cs : List Value} : aLenD (some (.slice e)) (frow n cs) = some (goInt n) := by
  show (match some (TypeDesc.slice e), sliceLen (frow n cs) with | some (.slice _), some n => some (goInt n) | _, _ => none) = _
  have : sliceLen (frow n cs) = some n := by show (match rowOf (frow n cs) with | some (n, _) => some n | none => none) = _; rw [rowOf_frow]
  rw [this]
theorem aLenD_slice {e : TypeId} {n c : Nat} {a : Option Addr} : aLenD (some (.slice e)) (.slice a n c) = some (goInt n) := rfl
theorem aLenD_str {s : ByteArray} : aLenD (some .string) (.string s) = some (goInt s.size) := rfl
def frS (s : Option Nat) (n : Nat) (cs : List Value) (lo hi mx : Option Value) : Option Value := match s with | some s => frSlice n cs s lo hi mx | none => none
theorem frS_some {s n : Nat} {cs : List Value} {lo hi mx : Option Value} : frS (some s) n cs lo hi mx = frSlice n cs s lo hi mx := rfl
def aSl (s : Option Nat) (a : Addr) (len cap : Nat) (lo hi mx : Option Value) : Option Value := match s with | some s => aslice a s len cap lo hi mx | none => none
theorem aSl_some {s len cap : Nat} {a : Addr} {lo hi mx : Option Value} : aSl (some s) a len cap lo hi mx = aslice a s len cap lo hi mx := rfl
def aSliceD (P : Program) (d : Option TypeDesc) (x : Value) (lo hi mx : Option Value) : Option Value :=
  match d with
  | some (.array n elem) => match addr x, szof P elem with
    | some a, some s => if n < big then aslice a s n n lo hi mx else none
    | _, _ => none
  | some (.pointer arr) => match addr x, P.underlying arr with
    | some a, some (.array n elem) => match szof P elem with
      | some s => if n < big then aslice a s n n lo hi mx else none
      | none => none
    | _, _ => none
  | some (.slice elem) => match szof P elem with
    | some s => match x with
      | .slice (some a) len cap => aslice a s len cap lo hi mx
      | x => match rowOf x with
        | some (n, cs) => frSlice n cs s lo hi mx
        | none => none
    | none => none
  | _ => none
theorem asliceAt_eq {t : TypeId} {x : Value} {lo hi mx : Option Value} : asliceAt P t x lo hi mx = aSliceD P (P.underlying t) x lo hi mx := rfl
theorem aSliceD_row {e : TypeId} {n : Nat} {cs : List Value} {lo hi mx : Option Value} : aSliceD P (some (.slice e)) (frow n cs) lo hi mx = frS (szof P e) n cs lo hi mx := by
  simp only [aSliceD, frS]
  cases szof P e with
  | none => rfl
  | some s => show (match rowOf (frow n cs) with | some (n, cs) => frSlice n cs s lo hi mx | none => none) = _; rw [rowOf_frow]
theorem aSliceD_slice {e : TypeId} {a : Addr} {n c : Nat} {lo hi mx : Option Value} : aSliceD P (some (.slice e)) (.slice (some a) n c) lo hi mx = aSl (szof P e) a n c lo hi mx := by
  simp only [aSliceD, aSl]
theorem aSliceD_str {x : Value} {lo hi mx : Option Value} : aSliceD P (some .string) x lo hi mx = none := rfl
def frPart (n : Nat) (cs : List Value) (s l h : Nat) : Option Value := if l ≤ h ∧ h ≤ n then (part cs (l * s) ((h - l) * s)).map (frow (h - l)) else none
def opt2 (l h : Option Nat) (K : Nat → Nat → Option Value) : Option Value := match l, h with | some l, some h => K l h | _, _ => none
theorem frSlice_eq {n s : Nat} {cs : List Value} {lo hi : Option Value} : frSlice n cs s lo hi none = opt2 (optNat lo 0) (optNat hi n) (frPart n cs s) := by
  unfold frSlice opt2 frPart
  cases optNat lo 0 <;> cases optNat hi n <;> rfl
theorem opt2_some {l h : Nat} {K : Nat → Nat → Option Value} : opt2 (some l) (some h) K = K l h := rfl
theorem optNat_none {d : Nat} : optNat none d = some d := rfl
theorem optNat_some {v : Value} {d : Nat} : optNat (some v) d = nat? v := rfl
def ixR (s : Option Nat) (i n : Nat) (cs : List Value) : Option Value := match s with | some s => if i < n then some (fptr (i * s) cs) else none | none => none
def ixS (s : Option Nat) (i n : Nat) (a : Addr) : Option Value := match s with | some s => if a.spot = none ∧ i < n then some (.pointer (some (a.add (i * s)))) else none | none => none
theorem addr_add {b o k : Nat} : (⟨b, o, none⟩ : Addr).add k = ⟨b, o + k, none⟩ := by
  unfold Addr.add
  split
  · rename_i h; rw [h]; rfl
  · rfl
theorem ixR_some {s i n : Nat} {cs : List Value} : ixR (some s) i n cs = if i < n then some (fptr (i * s) cs) else none := rfl
theorem ixS_some {s i n b o : Nat} : ixS (some s) i n ⟨b, o, none⟩ = if i < n then some (.pointer (some ⟨b, o + i * s, none⟩)) else none := by
  simp only [ixS, true_and, addr_add]
def aIxD (P : Program) (i : Option Nat) (d : Option TypeDesc) (x : Value) : Option Value :=
  match i, d with
  | some i, some (.array len elem) => match szof P elem with
    | some s => if i < len then ptrAdd x (i * s) else none
    | none => none
  | some i, some (.slice elem) => match szof P elem with
    | some s => match x with
      | .slice (some a) len _ => if a.spot = none ∧ i < len then some (.pointer (some (a.add (i * s)))) else none
      | x => match rowOf x with
        | some (n, cs) => if i < n then some (fptr (i * s) cs) else none
        | none => none
    | none => none
  | _, _ => none
theorem aindexAt_eq {t : TypeId} {x ix : Value} : aindexAt P t x ix = aIxD P (nat? ix) (P.underlying t) x := rfl
theorem aIxD_row {e : TypeId} {i n : Nat} {cs : List Value} : aIxD P (some i) (some (.slice e)) (frow n cs) = ixR (szof P e) i n cs := by
  simp only [aIxD, ixR]
  cases szof P e with
  | none => rfl
  | some s => show (match rowOf (frow n cs) with | some (n, cs) => if i < n then some (fptr (i * s) cs) else none | none => none) = _; rw [rowOf_frow]
theorem aIxD_slice {e : TypeId} {i n c : Nat} {a : Addr} : aIxD P (some i) (some (.slice e)) (.slice (some a) n c) = ixS (szof P e) i n a := by
  simp only [aIxD, ixS]
theorem ptrAdd_fptr {o k : Nat} {cs : List Value} : ptrAdd (fptr o cs) k = some (fptr (o + k) cs) := by
  show (match ptrOf (fptr o cs) with | some (off, cs) => some (fptr (off + k) cs) | none => none) = _
  rw [ptrOf_fptr]
theorem ptrAdd_ptr {b o k : Nat} : ptrAdd (.pointer (some ⟨b, o, none⟩)) k = some (.pointer (some ⟨b, o + k, none⟩)) := by
  show some (Value.pointer (some ((⟨b, o, none⟩ : Addr).add k))) = _
  rw [addr_add]
theorem cellsFrom_fptr {A : AS} {o k : Nat} {cs : List Value} : cellsFrom A (fptr o cs) k = part cs o k := by
  show (match ptrOf (fptr o cs) with | some (off, cs) => part cs off k | none => none) = _
  rw [ptrOf_fptr]
theorem cellsFrom_ptr {A : AS} {b o k : Nat} : cellsFrom A (.pointer (some ⟨b, o, none⟩)) k = cellsAt A b o k := rfl
def loadD (g : Option Bool) (s : Option Nat) (A : AS) (p : Value) : Option Value :=
  match g with
  | some true => match s with
    | some k => aggOf (cellsFrom A p k)
    | none => none
  | some false => one? (cellsFrom A p 1)
  | none => none
theorem aload_eq {A : AS} {t : TypeId} {p : Value} : aload P A t p = loadD (isag P t) (szof P t) A p := rfl
theorem loadD_one {s : Option Nat} {A : AS} {p : Value} : loadD (some false) s A p = one? (cellsFrom A p 1) := rfl
theorem loadD_agg {k : Nat} {A : AS} {p : Value} : loadD (some true) (some k) A p = aggOf (cellsFrom A p k) := rfl
theorem one_one {v : Value} : one? (some [v]) = some v := rfl
theorem aggOf_some {cs : List Value} : aggOf (some cs) = some (.agg cs.toArray) := rfl
theorem aNil_ptr {A : AS} {a : Addr} : aNil (.pointer (some a)) A = some (.pointer (some a), A) := rfl
theorem aNil_fptr {A : AS} {o : Nat} {cs : List Value} : aNil (fptr o cs) A = some (fptr o cs, A) := by
  show (match ptrOf (fptr o cs) with | some _ => some (fptr o cs, A) | none => none) = _
  rw [ptrOf_fptr]
theorem aPick_bool {c : Bool} {a b : Value} {A : AS} : aPick (.bool c) a b A = some (if c then a else b, A) := rfl
theorem aExtract_tuple {l : List Value} {i : Nat} {A : AS} : aExtract (.tuple l.toArray) i A = still1 A l[i]? := rfl
theorem still1_some {A : AS} {v : Value} : still1 A (some v) = some (v, A) := rfl
theorem aresults_nil {A : AS} {tm : Trie Value} : aresults P tm A [] = some [] := rfl
theorem part_cons {v : Value} {l : List Value} {off k : Nat} : part (v :: l) off k = if off + k ≤ (v :: l).length then some (((v :: l).drop off).take k) else none := rfl
def resC (v : Option Value) (vs : Option (List Value)) : Option (List Value) :=
  match v with
  | some v => vs.map (v :: ·)
  | none => none
theorem resC_some {v : Value} {vs : List Value} : resC (some v) (some vs) = some (v :: vs) := rfl
theorem aresults_cell {A : AS} {tm : Trie Value} {t : Nat} {ty : TypeId} {rs : List ResultVar} : aresults P tm A (.cell t ty :: rs) = resC (aload P A ty (tget tm t)) (aresults P tm A rs) := rfl
theorem aresults_tmp {A : AS} {tm : Trie Value} {t : Nat} {rs : List ResultVar} : aresults P tm A (.tmp t :: rs) = (aresults P tm A rs).map (tget tm t :: ·) := rfl
def ints (p : List Int) : List Value := p.map (.int .i64 ·)
abbrev rowI (p : List Int) : Value := frow p.length (ints p)
theorem ints_length (p : List Int) : (ints p).length = p.length := by simp [ints]
theorem ints_clean (p : List Int) : cleanL (ints p) = true := by
  unfold cleanL ints
  rw [vokL_eq, List.all_eq_true]
  intro v hv
  obtain ⟨x, _, rfl⟩ := List.mem_map.1 hv
  rfl
theorem rowI_clean (p : List Int) : clean (rowI p) = true := clean_frow (ints_clean p)
theorem ints_get {p : List Int} {i : Nat} : (ints p)[i]? = p[i]?.map (.int .i64 ·) := by unfold ints; rw [List.getElem?_map]
theorem frPart_ints {p : List Int} {l h : Nat} : frPart p.length (ints p) 1 l h = if l ≤ h ∧ h ≤ p.length then some (rowI ((p.drop l).take (h - l))) else none := by
  unfold frPart
  split
  · rename_i hle
    unfold part
    rw [ints_length, if_pos (by omega)]
    unfold rowI ints
    simp only [Nat.mul_one, List.map_take, List.map_drop, Option.map_some]
    congr 2
    simp; omega
  · rfl
theorem beq_t {b : Bool} : (b == true) = b := by cases b <;> rfl
theorem beq_f {b : Bool} : (b == false) = !b := by cases b <;> rfl
theorem wrap_in {n : Int} (h1 : -9223372036854775808 ≤ n) (h2 : n < 9223372036854775808) : IntKind.i64.wrap n = n := by rw [IntKind.wrap_i64]; omega
theorem cleanL_cons {v : Value} {l : List Value} (h1 : clean v = true) (h2 : cleanL l = true) : cleanL (v :: l) = true := by
  unfold cleanL clean at *
  simp only [vokL, h1, h2, Bool.and_self]
end Go.Ev
namespace Go.Ev
open Go
open TP (Str Tree Nd)
variable {P : Program}
theorem one_part {cs : List Value} {i : Nat} : one? (part cs i 1) = cs[i]? := by
  unfold part
  by_cases h : i < cs.length
  · rw [if_pos (by omega), List.getElem?_eq_getElem h]
    have : (cs.drop i).take 1 = [cs[i]] := by rw [List.drop_eq_getElem_cons h]; rfl
    rw [this]; rfl
  · rw [if_neg (by omega), List.getElem?_eq_none (by omega)]; rfl
section rows
variable {α : Type} {enc : α → List Value} {k : Nat}
theorem row_length (hk : ∀ x, (enc x).length = k) (l : List α) : (l.flatMap enc).length = l.length * k := by
  induction l with
  | nil => simp
  | cons x l ih => rw [List.flatMap_cons, List.length_append, hk, ih, List.length_cons, Nat.succ_mul]; omega
theorem row_drop (hk : ∀ x, (enc x).length = k) : ∀ (l : List α) (i : Nat), (l.flatMap enc).drop (i * k) = (l.drop i).flatMap enc
  | l, 0 => by simp
  | [], i + 1 => by simp
  | x :: l, i + 1 => by
    rw [List.flatMap_cons, List.drop_succ_cons, ← row_drop hk l i, Nat.succ_mul, Nat.add_comm, ← List.drop_drop]
    congr 1
    rw [List.drop_append_of_le_length (by rw [hk]; omega), List.drop_of_length_le (by rw [hk]; omega), List.nil_append]
theorem row_take (hk : ∀ x, (enc x).length = k) : ∀ (l : List α) (i : Nat), (l.flatMap enc).take (i * k) = (l.take i).flatMap enc
  | l, 0 => by simp
  | [], i + 1 => by simp
  | x :: l, i + 1 => by
    rw [List.flatMap_cons, List.take_succ_cons, List.flatMap_cons, ← row_take hk l i, Nat.succ_mul, Nat.add_comm, List.take_append, List.take_of_length_le (by rw [hk]; omega), hk]
    congr 2
    omega
theorem row_get (hk : ∀ x, (enc x).length = k) {l : List α} {i c : Nat} (hc : c < k) : (l.flatMap enc)[i * k + c]? = (l[i]?).bind fun x => (enc x)[c]? := by
  rw [← List.getElem?_drop, row_drop hk]
  cases h : l.drop i with
  | nil =>
    have : l.length ≤ i := by simpa using h
    rw [List.getElem?_eq_none this]; simp
  | cons x r =>
    have hi : l[i]? = some x := by rw [← List.head?_drop, h]; rfl
    rw [hi, List.flatMap_cons, List.getElem?_append_left (by rw [hk]; exact hc)]; rfl
theorem row_part (hk : ∀ x, (enc x).length = k) (h0 : 0 < k) {l : List α} {i : Nat} : part (l.flatMap enc) (i * k) k = (l[i]?).map enc := by
  unfold part
  rw [row_length hk, row_drop hk]
  cases h : l.drop i with
  | nil =>
    have hle : l.length ≤ i := by simpa using h
    have : l.length * k ≤ i * k := Nat.mul_le_mul_right _ hle
    rw [List.getElem?_eq_none hle, if_neg (by omega)]; rfl
  | cons x r =>
    have hi : l[i]? = some x := by rw [← List.head?_drop, h]; rfl
    have hlt : i < l.length := (List.getElem?_eq_some_iff.1 hi).1
    have : (i + 1) * k ≤ l.length * k := Nat.mul_le_mul_right _ hlt
    rw [Nat.succ_mul] at this
    rw [hi, if_pos (by omega), List.flatMap_cons, List.take_left' (by rw [hk])]; rfl
theorem row_sub (hk : ∀ x, (enc x).length = k) {l : List α} {lo hi n : Nat} (hn : n = l.length) : frPart n (l.flatMap enc) k lo hi = if lo ≤ hi ∧ hi ≤ n then some (frow (hi - lo) (((l.drop lo).take (hi - lo)).flatMap enc)) else none := by
  subst hn
  unfold frPart
  split
  · rename_i hle
    unfold part
    have h1 : lo * k + (hi - lo) * k ≤ l.length * k := by rw [← Nat.add_mul]; exact Nat.mul_le_mul_right _ (by omega)
    rw [row_length hk, if_pos h1, row_drop hk, row_take hk]; rfl
  · rfl
theorem row_clean (h : ∀ x, cleanL (enc x) = true) (l : List α) : cleanL (l.flatMap enc) = true := by
  unfold cleanL at *
  induction l with
  | nil => rfl
  | cons x l ih => rw [List.flatMap_cons, vokL_append, h, ih]; rfl
end rows
def bs (s : Str) : ByteArray := ⟨s.toArray⟩
theorem bs_size (s : Str) : (bs s).size = s.length := by simp [bs, ByteArray.size]
theorem bs_toList (s : Str) : (bs s).toList = s := by rw [ByteArray.toList_eq]; simp [bs]
structure GPiece where
  keep : Int
  drop : Int
  put : Str
def pieceC (p : GPiece) : List Value := [.int .i64 p.keep, .int .i64 p.drop, .string (bs p.put)]
abbrev rowP (l : List GPiece) : Value := frow l.length (l.flatMap pieceC)
structure GOp where
  kind : Int
  path : List Int
  at_ : Int
  to : List Int
  id : Int
  leaf : Bool
  label : Str
  key : Str
  value : Str
  gone : Bool
  pieces : List GPiece
def opC (o : GOp) : List Value := [.int .u8 o.kind, rowI o.path, .int .i64 o.at_, rowI o.to, .int .u64 o.id, .bool o.leaf, .string (bs o.label), .string (bs o.key), .string (bs o.value), .bool o.gone, rowP o.pieces]
abbrev vOp (o : GOp) : Value := .agg (opC o).toArray
abbrev rowO (l : List GOp) : Value := frow l.length (l.flatMap opC)
def attrC (a : Str × Str) : List Value := [.string (bs a.1), .string (bs a.2)]
abbrev rowA (l : List (Str × Str)) : Value := frow l.length (l.flatMap attrC)
mutual
def nodeC : Tree Nd → List Value
  | .mk d kids => [.int .u64 d.id, .bool d.leaf, .string (bs d.label), rowA d.attrs, .string (bs d.text), frow kids.length (kidsC kids)]
def kidsC : List (Tree Nd) → List Value
  | [] => []
  | T :: l => nodeC T ++ kidsC l
end
theorem kidsC_eq (l : List (Tree Nd)) : kidsC l = l.flatMap nodeC := by
  induction l with
  | nil => rfl
  | cons T l ih => simp [kidsC, ih]
abbrev rowK (l : List (Tree Nd)) : Value := frow l.length (l.flatMap nodeC)
theorem nodeC_eq (T : Tree Nd) : nodeC T = [.int .u64 T.d.id, .bool T.d.leaf, .string (bs T.d.label), rowA T.d.attrs, .string (bs T.d.text), rowK T.kids] := by
  cases T with | mk d kids => simp only [nodeC, kidsC_eq, TP.Tree.d, TP.Tree.kids]
abbrev vNode (T : Tree Nd) : Value := .agg (nodeC T).toArray
theorem pieceC_length (p : GPiece) : (pieceC p).length = 3 := rfl
theorem opC_length (o : GOp) : (opC o).length = 11 := rfl
theorem attrC_length (a : Str × Str) : (attrC a).length = 2 := rfl
theorem nodeC_length (T : Tree Nd) : (nodeC T).length = 6 := by rw [nodeC_eq]; rfl
theorem cleanL_one {v : Value} {l : List Value} : cleanL (v :: l) = (clean v && cleanL l) := rfl
theorem clean_int {k : IntKind} {n : Int} : clean (.int k n) = true := rfl
theorem clean_bool {b : Bool} : clean (.bool b) = true := rfl
theorem clean_str {s : ByteArray} : clean (.string s) = true := rfl
theorem clean_tup {l : List Value} : clean (.tuple l.toArray) = cleanL l := rfl
theorem pieceC_clean (p : GPiece) : cleanL (pieceC p) = true := rfl
theorem rowP_clean (l : List GPiece) : clean (rowP l) = true := clean_frow (row_clean pieceC_clean l)
theorem opC_clean (o : GOp) : cleanL (opC o) = true := by
  simp only [opC, cleanL_one, clean_int, clean_bool, clean_str, rowI_clean, rowP_clean, Bool.true_and]; rfl
theorem vOp_clean (o : GOp) : clean (vOp o) = true := opC_clean o
theorem rowO_clean (l : List GOp) : clean (rowO l) = true := clean_frow (row_clean opC_clean l)
theorem attrC_clean (a : Str × Str) : cleanL (attrC a) = true := rfl
theorem rowA_clean (l : List (Str × Str)) : clean (rowA l) = true := clean_frow (row_clean attrC_clean l)
mutual
theorem nodeC_clean : ∀ T : Tree Nd, cleanL (nodeC T) = true
  | .mk d kids => by
    simp only [nodeC, cleanL_one, clean_int, clean_bool, clean_str, rowA_clean, clean_frow (kidsC_clean kids), Bool.true_and]; rfl
theorem kidsC_clean : ∀ l : List (Tree Nd), cleanL (kidsC l) = true
  | [] => rfl
  | T :: l => by
    have h1 := nodeC_clean T
    have h2 := kidsC_clean l
    unfold cleanL at *
    rw [kidsC, vokL_append, h1, h2]; rfl
end
theorem rowK_clean (l : List (Tree Nd)) : clean (rowK l) = true := by rw [rowK, ← kidsC_eq]; exact clean_frow (kidsC_clean l)
theorem vNode_clean (T : Tree Nd) : clean (vNode T) = true := nodeC_clean T
theorem get_ops {l : List GOp} {i c : Nat} (hc : c < 11) : (l.flatMap opC)[i * 11 + c]? = (l[i]?).bind fun x => (opC x)[c]? := row_get opC_length hc
theorem get_ops0 {l : List GOp} {i : Nat} : (l.flatMap opC)[i * 11]? = (l[i]?).bind fun x => (opC x)[0]? := row_get (c := 0) opC_length (by decide)
theorem part_ops {l : List GOp} {i : Nat} : part (l.flatMap opC) (i * 11) 11 = (l[i]?).map opC := row_part opC_length (by decide)
theorem sub_ops {l : List GOp} {lo hi n : Nat} (hn : n = l.length) : frPart n (l.flatMap opC) 11 lo hi = if lo ≤ hi ∧ hi ≤ n then some (frow (hi - lo) (((l.drop lo).take (hi - lo)).flatMap opC)) else none := row_sub opC_length hn
theorem get_pieces {l : List GPiece} {i c : Nat} (hc : c < 3) : (l.flatMap pieceC)[i * 3 + c]? = (l[i]?).bind fun x => (pieceC x)[c]? := row_get pieceC_length hc
theorem get_pieces0 {l : List GPiece} {i : Nat} : (l.flatMap pieceC)[i * 3]? = (l[i]?).bind fun x => (pieceC x)[0]? := row_get (c := 0) pieceC_length (by decide)
theorem part_pieces {l : List GPiece} {i : Nat} : part (l.flatMap pieceC) (i * 3) 3 = (l[i]?).map pieceC := row_part pieceC_length (by decide)
theorem get_attrs {l : List (Str × Str)} {i c : Nat} (hc : c < 2) : (l.flatMap attrC)[i * 2 + c]? = (l[i]?).bind fun x => (attrC x)[c]? := row_get attrC_length hc
theorem get_attrs0 {l : List (Str × Str)} {i : Nat} : (l.flatMap attrC)[i * 2]? = (l[i]?).bind fun x => (attrC x)[0]? := row_get (c := 0) attrC_length (by decide)
theorem part_attrs {l : List (Str × Str)} {i : Nat} : part (l.flatMap attrC) (i * 2) 2 = (l[i]?).map attrC := row_part attrC_length (by decide)
theorem get_kids {l : List (Tree Nd)} {i c : Nat} (hc : c < 6) : (l.flatMap nodeC)[i * 6 + c]? = (l[i]?).bind fun x => (nodeC x)[c]? := row_get nodeC_length hc
theorem get_kids0 {l : List (Tree Nd)} {i : Nat} : (l.flatMap nodeC)[i * 6]? = (l[i]?).bind fun x => (nodeC x)[0]? := row_get (c := 0) nodeC_length (by decide)
theorem part_kids {l : List (Tree Nd)} {i : Nat} : part (l.flatMap nodeC) (i * 6) 6 = (l[i]?).map nodeC := row_part nodeC_length (by decide)
theorem sub_kids {l : List (Tree Nd)} {lo hi n : Nat} (hn : n = l.length) : frPart n (l.flatMap nodeC) 6 lo hi = if lo ≤ hi ∧ hi ≤ n then some (frow (hi - lo) (((l.drop lo).take (hi - lo)).flatMap nodeC)) else none := row_sub nodeC_length hn
theorem part_opC {o : GOp} : part (opC o) 0 11 = some (opC o) := rfl
theorem part_nodeC {T : Tree Nd} : part (nodeC T) 0 6 = some (nodeC T) := by rw [nodeC_eq]; rfl
theorem part_pieceC {p : GPiece} : part (pieceC p) 0 3 = some (pieceC p) := rfl
theorem part_attrC {p : Str × Str} : part (attrC p) 0 2 = some (attrC p) := rfl
theorem aBin_seql {t : TypeId} {a b : Str} : aBin P .eql t (.string (bs a)) (.string (bs b)) = some (.bool (decide (a = b))) := by
  simp [aBin, abin, Op.stringOp, pureRun, bare, vok, pure, bs_toList]; rw [Bool.eq_iff_iff]; simp
theorem aBin_sneq {t : TypeId} {a b : Str} : aBin P .neq t (.string (bs a)) (.string (bs b)) = some (.bool (!decide (a = b))) := by
  simp [aBin, abin, Op.stringOp, pureRun, bare, vok, pure, bs_toList]; rw [Bool.eq_iff_iff]; simp
theorem aBin_bneq {t : TypeId} {a b : Bool} (h : P.underlying t = some .bool) : aBin P .neq t (.bool a) (.bool b) = some (.bool (a != b)) := by
  simp [aBin, abin, h, negOf, bare, vok]; cases a <;> cases b <;> rfl
end Go.Ev
namespace Go.Ev
open Go
variable {P : Program}
def cellsO (b : Option AB) (off k : Nat) : Option (List Value) := match b with
  | some (.cells cs _ _) | some (.grown cs _ _) => part cs off k
  | _ => none
theorem cellsO_cells {cs : List Value} {e : TypeId} {fz : Nat × Nat} {off k : Nat} : cellsO (some (.cells cs e fz)) off k = part cs off k := rfl
theorem cellsO_grown {cs : List Value} {e s : TypeId} {off k : Nat} : cellsO (some (.grown cs e s)) off k = part cs off k := rfl
theorem cellsAt_mk {l : List AB} {n off k : Nat} (h : l.length < 16777216) : cellsAt (mk l) n off k = cellsO l[n]? off k := by
  rw [mk_cellsAt h]; unfold cellsO; cases l[n]? with
  | none => rfl
  | some ab => cases ab <;> rfl
theorem abox_mk {l : List AB} {t : TypeId} {v : Value} (h : l.length + 2 < 16777216) : abox (mk l) t v = some (.pointer (some ⟨l.length, 0, none⟩), mk (l ++ [.cells v.cells.toList t (0, 0)])) := by
  unfold abox; rw [mk_anew h]; rfl
def allocD (z : Option Value) (A : AS) (t : TypeId) : Option (Value × AS) := match z with | some z => abox A t z | none => none
theorem aalloc_eq {A : AS} {t : TypeId} : aalloc P A t = allocD (zeroOf P t) A t := rfl
theorem allocD_some {z : Value} {A : AS} {t : TypeId} : allocD (some z) A t = abox A t z := rfl
theorem cells_agg {l : List Value} : (Value.agg l.toArray).cells.toList = l := rfl
theorem cells_int {k : IntKind} {n : Int} : (Value.int k n).cells.toList = [.int k n] := rfl
theorem cells_bool {b : Bool} : (Value.bool b).cells.toList = [.bool b] := rfl
theorem cells_str {b : ByteArray} : (Value.string b).cells.toList = [.string b] := rfl
theorem cells_frow {n : Nat} {cs : List Value} : (frow n cs).cells.toList = [frow n cs] := rfl
theorem cells_slice {n c : Nat} {a : Option Addr} : (Value.slice a n c).cells.toList = [.slice a n c] := rfl
theorem cells_ptr {a : Option Addr} : (Value.pointer a).cells.toList = [.pointer a] := rfl
def setO (l : List AB) (n off : Nat) (vs : List Value) (b : Option AB) : Option AS := match b with
  | some (.cells cs e fz) => if off + vs.length ≤ cs.length ∧ fz = (0, 0) then some (mk (l.set n (.cells (splice cs off vs) e fz))) else none
  | some (.grown cs e s) => if off + vs.length ≤ cs.length then some (mk (l.set n (.grown (splice cs off vs) e s))) else none
  | _ => none
theorem setO_cells {l : List AB} {n off : Nat} {vs cs : List Value} {e : TypeId} : setO l n off vs (some (.cells cs e (0, 0))) = if off + vs.length ≤ cs.length then some (mk (l.set n (.cells (splice cs off vs) e (0, 0)))) else none := by
  simp [setO]
theorem setO_grown {l : List AB} {n off : Nat} {vs cs : List Value} {e s : TypeId} : setO l n off vs (some (.grown cs e s)) = if off + vs.length ≤ cs.length then some (mk (l.set n (.grown (splice cs off vs) e s))) else none := rfl
theorem setCells_mk {l : List AB} {n off : Nat} {vs : List Value} (h : l.length < 16777216) (hv : vs.all cellv = true) : setCells (mk l) n off vs = setO l n off vs l[n]? := by
  unfold setCells setO
  rw [if_pos hv, mk_get _ l n rfl h]
  cases hg : l[n]? with
  | none => rfl
  | some ab =>
    have hn := (List.getElem?_eq_some_iff.1 hg).1
    cases ab <;> simp only [mk_set _ l n _ rfl hn]
def storeD (s : Option Nat) (A : AS) (a : Addr) (v : Value) : Option AS := match s with | some k => if v.cells.toList.length = k then setCells A a.block a.off v.cells.toList else none | none => none
theorem astore_ptr {A : AS} {t : TypeId} {b o : Nat} {v : Value} : astore P A t (.pointer (some ⟨b, o, none⟩)) v = storeD (szof P t) A ⟨b, o, none⟩ v := by
  unfold astore storeD
  show (match addr (.pointer (some ⟨b, o, none⟩)), szof P t with | some a, some k => _ | _, _ => _) = _
  simp only [addr, if_true]
  cases szof P t with
  | none => rfl
  | some k => simp
theorem storeD_some {k : Nat} {A : AS} {b o : Nat} {v : Value} : storeD (some k) A ⟨b, o, none⟩ v = if v.cells.toList.length = k then setCells A b o v.cells.toList else none := rfl
theorem done1_some {A : AS} : done1 (some A) = some (undef, A) := rfl
theorem cellv_int {k : IntKind} {n : Int} : cellv (.int k n) = true := rfl
theorem cellv_bool {b : Bool} : cellv (.bool b) = true := rfl
theorem cellv_str {s : ByteArray} : cellv (.string s) = true := rfl
theorem cellv_frow {n : Nat} {cs : List Value} : cellv (frow n cs) = true := rfl
theorem cellv_slice {n c : Nat} {a : Option Addr} : cellv (.slice a n c) = true := rfl
theorem cellv_ptr {a : Option Addr} : cellv (.pointer a) = true := rfl
theorem all_one {v : Value} {l : List Value} : (v :: l).all cellv = (cellv v && l.all cellv) := rfl
theorem all_nil : ([] : List Value).all cellv = true := rfl
theorem opC_cellv (o : GOp) : (opC o).all cellv = true := rfl
theorem pieceC_cellv (o : GPiece) : (pieceC o).all cellv = true := rfl
theorem attrC_cellv (o : TP.Str × TP.Str) : (attrC o).all cellv = true := rfl
theorem nodeC_cellv (T : TP.Tree TP.Nd) : (nodeC T).all cellv = true := by rw [nodeC_eq]; rfl
theorem ints_cellv (p : List Int) : (ints p).all cellv = true := by
  unfold ints
  rw [List.all_eq_true]
  intro v hv
  obtain ⟨x, _, rfl⟩ := List.mem_map.1 hv
  rfl
theorem row_cellv {α : Type} {enc : α → List Value} (h : ∀ x, (enc x).all cellv = true) (l : List α) : (l.flatMap enc).all cellv = true := by
  induction l with
  | nil => rfl
  | cons x l ih => rw [List.flatMap_cons, List.all_append, h, ih]; rfl
inductive Own (elem s : Nat) (l : List AB) : Value → Nat → List Value → Prop where
  | nil : Own elem s l (.slice none 0 0) 0 []
  | zero {b : Nat} : l[b]? = some (.cells [] elem (0, 0)) → Own elem s l (.slice (some ⟨b, 0, none⟩) 0 0) 0 []
  | row {b n : Nat} {cs : List Value} : l[b]? = some (.grown cs elem s) → cs.length = n * s → cs.all cellv = true → 0 < n → Own elem s l (.slice (some ⟨b, 0, none⟩) n (big + n)) n cs
def ownB : Value → Option Nat
  | .slice (some a) _ _ => some a.block
  | _ => none
theorem Own.len {elem s : Nat} {l : List AB} {v : Value} {n : Nat} {cs : List Value} (h : Own elem s l v n cs) : cs.length = n * s ∧ cs.all cellv = true := by
  cases h with
  | nil => exact ⟨by simp, rfl⟩
  | zero _ => exact ⟨by simp, rfl⟩
  | row _ h h' _ => exact ⟨h, h'⟩
theorem Own.frz {elem s : Nat} {l : List AB} {v : Value} {n : Nat} {cs : List Value} (h : Own elem s l v n cs) (hl : l.length < 16777216) (hc : cleanL cs = true) : Frz (mk l) v (frow n cs) := by
  cases h with
  | nil => exact .nil
  | zero h1 => exact .row rfl (k := 0) (l := []) (by rw [cellsAt_mk hl, h1, cellsO_cells]; rfl) (.clean rfl) (Nat.zero_le _)
  | row h1 h2 h3 =>
    refine .row rfl (k := cs.length) (l := cs) ?_ (.clean hc) ?_
    · rw [cellsAt_mk hl, h1, cellsO_grown]; unfold part; simp
    · rw [if_neg (by omega)]; omega
theorem gset {l : List AB} {i j : Nat} {a : AB} : (l.set i a)[j]? = if i = j then (l[j]?).map (fun _ => a) else l[j]? := by
  rw [List.getElem?_set]
  split
  · rename_i h; subst h
    split
    · rename_i h; rw [List.getElem?_eq_getElem h]; rfl
    · rename_i h; rw [List.getElem?_eq_none (by omega)]; rfl
  · rfl
theorem Own.set {elem s : Nat} {l : List AB} {v : Value} {n i : Nat} {cs : List Value} {x : AB} (h : Own elem s l v n cs) (hi : ownB v ≠ some i) : Own elem s (l.set i x) v n cs := by
  cases h with
  | nil => exact .nil
  | zero h => exact .zero (by rw [gset, if_neg (fun e => hi (by rw [e]; rfl))]; exact h)
  | row h1 h2 h3 h4 => exact .row (by rw [gset, if_neg (fun e => hi (by rw [e]; rfl))]; exact h1) h2 h3 h4
theorem Own.grow {elem s : Nat} {l l' : List AB} {v : Value} {n : Nat} {cs : List Value} (h : Own elem s l v n cs) (hl : ∀ b, ownB v = some b → l'[b]? = l[b]?) : Own elem s l' v n cs := by
  cases h with
  | nil => exact .nil
  | zero h => exact .zero (by rw [hl _ rfl]; exact h)
  | row h1 h2 h3 h4 => exact .row (by rw [hl _ rfl]; exact h1) h2 h3 h4
theorem Own.slice {elem s : Nat} {l : List AB} {v : Value} {n : Nat} {cs : List Value} (h : Own elem s l v n cs) : ∃ a c, v = .slice a n c := by
  cases h with
  | nil => exact ⟨_, _, rfl⟩
  | zero h => exact ⟨_, _, rfl⟩
  | row h1 h2 h3 h4 => exact ⟨_, _, rfl⟩
structure News (P : Program) (l : List AB) (elem s : Nat) (zeros : Bool) (x : Value) (new : List Value) (m : Nat) : Prop where
  cells : newCells P (mk l) elem s zeros x = some (new, m)
  len : new.length = m * s
  cv : new.all cellv = true
theorem splice_nil {cs : List Value} {o : Nat} (h : o ≤ cs.length) : splice cs o [] = cs := by simp [splice]
theorem append_own {l : List AB} {at_ : Array TypeId} {sT elem : TypeId} {i : TypeInfo} {z v x : Value} {zeros : Bool} {n m : Nat} {cs new : List Value} (h0 : at_[0]? = some sT) (h1 : P.underlying sT = some (.slice elem)) (h2 : isZeros P at_[1]? = some zeros)
    (h3 : P.info? elem = some i) (h4 : zeroOf P elem = some z) (h5 : z.cells.toList.length = i.size) (h6 : i.bytes ≤ 4096) (h7 : 0 < i.size) (hl : l.length + 2 < 16777216)
    (ho : Own elem i.size l v n cs) (hn : News P l elem i.size zeros x new m) (hbd : n + m ≤ 16777216) :
    ∃ v' l', aappend P (mk l) at_ [v, x] = some (v', mk l') ∧ Own elem i.size l' v' (n + m) (cs ++ new) ∧ l.length ≤ l'.length ∧ l'.length ≤ l.length + 1 ∧
      (∀ b, b < l.length → ownB v ≠ some b → l'[b]? = l[b]?) ∧ ∀ b, ownB v' = some b → b < l'.length ∧ (l.length ≤ b ∨ ownB v = some b) := by
  have hnl := hn.len
  have happ : aappend P (mk l) at_ [v, x] = append1 P (mk l) elem zeros v x := by
    unfold aappend
    rw [h0]
    simp only
    rw [h1, h2]
  rw [happ]
  cases ho with
  | nil =>
    have e1 : append1 P (mk l) elem zeros (.slice none 0 0) x = appendNew (mk l) elem i.size (.slice none 0 0) new m := by
      unfold append1
      rw [h3, h4]
      simp only
      rw [if_pos h5, hn.cells]
      simp only
      rw [if_neg (by omega), if_neg (by simp)]
    rw [e1]
    unfold appendNew
    by_cases hm : m = 0
    · subst hm
      have hne : new = [] := List.eq_nil_of_length_eq_zero (by omega)
      subst hne
      exact ⟨.slice none 0 0, l, by rw [if_pos rfl], .nil, Nat.le_refl _, by omega, fun _ _ _ => rfl, fun b h => by simp [ownB] at h⟩
    · rw [if_neg hm, mk_anew hl]
      refine ⟨_, _, rfl, ?_, by simp, by simp, fun b hb _ => by rw [List.getElem?_append_left hb], fun b h => ?_⟩
      · rw [Nat.zero_add, List.nil_append]
        exact .row (by simp) hnl hn.cv (by omega)
      · simp only [ownB, Option.some.injEq] at h; subst h; simp
  | @zero b hb =>
    have hblt := (List.getElem?_eq_some_iff.1 hb).1
    have e1 : append1 P (mk l) elem zeros (.slice (some ⟨b, 0, none⟩) 0 0) x = appendAt (mk l) ⟨b, 0, none⟩ elem i.size 0 0 new (0 + m) := by
      unfold append1
      rw [h3, h4]
      simp only
      rw [if_pos h5, hn.cells]
      simp only
      rw [if_neg (by omega)]
    rw [e1]
    unfold appendAt
    have h0b : (0 : Nat) < big := by decide
    rw [if_neg (by simp), if_pos h0b]
    by_cases hm : m = 0
    · subst hm
      have hne : new = [] := List.eq_nil_of_length_eq_zero (by omega)
      subst hne
      have hset : setCells (mk l) b (0 + 0 * i.size) [] = some (mk l) := by
        rw [setCells_mk (by omega) rfl, hb, setO_cells, if_pos (by simp), splice_nil (by simp), list_set_self hb]
      rw [if_pos (by omega), hset]
      exact ⟨_, l, rfl, .zero hb, Nat.le_refl _, by omega, fun _ _ _ => rfl, fun b' h => by simp only [ownB, Option.some.injEq] at h; subst h; exact ⟨hblt, .inr rfl⟩⟩
    · rw [if_neg (by omega), cellsAt_mk (by omega), hb, cellsO_cells]
      have hp : part [] 0 (0 * i.size) = some [] := by rw [Nat.zero_mul]; rfl
      rw [hp]
      simp only
      rw [if_pos h0b, mk_anew hl]
      refine ⟨_, _, rfl, ?_, by simp, by simp, fun b' hb' _ => by rw [List.getElem?_append_left hb'], fun b' h => ?_⟩
      · rw [Nat.zero_add, List.nil_append]
        exact .row (by simp) hnl hn.cv (by omega)
      · simp only [ownB, Option.some.injEq] at h; subst h; simp
  | @row b n cs hb hcl hcv hn0 =>
    have hblt := (List.getElem?_eq_some_iff.1 hb).1
    have hbig : ¬ big + n < big := by omega
    have e1 : append1 P (mk l) elem zeros (.slice (some ⟨b, 0, none⟩) n (big + n)) x = appendAt (mk l) ⟨b, 0, none⟩ elem i.size n (big + n) new (n + m) := by
      unfold append1
      rw [h3, h4]
      simp only
      rw [if_pos h5, hn.cells]
      simp only
      rw [if_neg (by omega)]
    rw [e1]
    unfold appendAt
    rw [if_neg (by simp), if_neg hbig]
    by_cases hm : m = 0
    · subst hm
      have hne : new = [] := List.eq_nil_of_length_eq_zero (by omega)
      subst hne
      have hset : setCells (mk l) b (0 + n * i.size) [] = some (mk l) := by
        rw [setCells_mk (by omega) rfl, hb, setO_grown, if_pos (by simp [hcl]), splice_nil (by omega), list_set_self hb]
      rw [if_pos (by omega), hset]
      refine ⟨.slice (some ⟨b, 0, none⟩) (n + 0) (big + n), l, rfl, ?_, Nat.le_refl _, by omega, fun _ _ _ => rfl, fun b' h => ?_⟩
      · rw [Nat.add_zero, List.append_nil]; exact .row hb hcl hcv hn0
      · simp only [ownB, Option.some.injEq] at h; subst h; exact ⟨hblt, .inr rfl⟩
    · rw [if_neg (by omega), cellsAt_mk (by omega), hb, cellsO_grown]
      have hp : part cs 0 (n * i.size) = some cs := by unfold part; rw [if_pos (by omega), List.drop_zero, ← hcl, List.take_length]
      rw [hp]
      simp only [ne_eq, not_true_eq_false, if_false]
      rw [mk_get _ l b rfl (by omega), hb]
      simp only
      rw [if_neg hbig, if_pos ⟨trivial, trivial, by rw [hcl, Nat.add_sub_cancel_left], hcv, hn.cv⟩, mk_set _ l b _ rfl hblt, mk_anew (by simpa using hl)]
      refine ⟨_, _, rfl, ?_, by simp, by simp, fun b' hb' hne => ?_, fun b' h => ?_⟩
      · exact .row (by simp) (by rw [List.length_append, hcl, hnl, Nat.add_mul]) (by rw [List.all_append, hcv, hn.cv]; rfl) (by omega)
      · rw [List.getElem?_append_left (by simpa using hb'), List.getElem?_set_ne (fun e => hne (by rw [← e]; rfl))]
      · simp only [ownB, Option.some.injEq] at h; subst h; simp
theorem fill_one {s : Nat} {zs v : Array Value} (h1 : zs.size = s) (h2 : v.size = s) : (v.zipIdx.foldl (fun cs (p : Value × Nat) => cs.setIfInBounds (0 + p.2) p.1) zs) = v := by
  have gen : ∀ (l : List Value) (k : Nat) (c : Array Value), k + l.length ≤ c.size → ((l.zipIdx k).foldl (fun cs (p : Value × Nat) => cs.setIfInBounds (0 + p.2) p.1) c).toList = c.toList.take k ++ l ++ c.toList.drop (k + l.length) := by
    intro l
    induction l with
    | nil => intro k c h; simp
    | cons x l ih =>
      intro k c h
      simp only [List.length_cons] at h
      rw [List.zipIdx_cons, List.foldl_cons, ih (k + 1) _ (by simp; omega)]
      simp only [Nat.zero_add, Array.toList_setIfInBounds, List.length_cons]
      have hk : k < c.toList.length := by simp; omega
      rw [List.take_set, List.drop_set_of_lt (by omega), show k + 1 + l.length = k + (l.length + 1) by omega]
      congr 1
      rw [List.take_add_one, List.set_append_right _ _ (by simp; omega)]
      have h0 : (c.toList.take k).length = k := by simp; omega
      rw [h0, Nat.sub_self, List.getElem?_eq_getElem hk]
      simp
  apply Array.ext'
  rw [← Array.foldl_toList, Array.toList_zipIdx, gen v.toList 0 zs (by simp; omega)]
  simp
  omega
theorem buildSlice_one {l : List AB} {t e s : Nat} {z v : Value} (h1 : P.underlying t = some (.slice e)) (h2 : szof P e = some s) (h3 : zeroOf P e = some z) (h4 : v.cells.toList.length = s) (h5 : s ≤ 16777216) (hl : l.length + 2 < 16777216) :
    abuildSlice P (mk l) t 1 [(0, v)] = some (.slice (some ⟨l.length, 0, none⟩) 1 1, mk (l ++ [.cells v.cells.toList e (0, 0)])) := by
  unfold abuildSlice
  rw [h1]
  simp only
  rw [h2, h3]
  simp only
  rw [if_neg (by unfold big; omega)]
  have hf : Instr.fill (fun i => some (i * s, s)) ((Array.range (1 * s)).map ((if 1 * s = 0 then #[] else z.cells)[· % (if 1 * s = 0 then #[] else z.cells).size]!)) [(0, v)] = some v.cells := by
    simp only [Instr.fill, Nat.zero_mul]
    have hs : v.cells.size = s := by simpa using h4
    rw [if_neg (by simp [hs])]
    congr 1
    exact fill_one (s := s) (by simp) hs
  rw [hf]
  simp only
  rw [mk_anew hl]
theorem buildSlice_none {l : List AB} {t e s : Nat} {z : Value} (h1 : P.underlying t = some (.slice e)) (h2 : szof P e = some s) (h3 : zeroOf P e = some z) (hl : l.length + 2 < 16777216) :
    abuildSlice P (mk l) t 0 [] = some (.slice (some ⟨l.length, 0, none⟩) 0 0, mk (l ++ [.cells [] e (0, 0)])) := by
  unfold abuildSlice
  rw [h1]
  simp only
  rw [h2, h3]
  simp only
  rw [if_neg (by unfold big; omega)]
  simp only [Instr.fill]
  rw [mk_anew hl]
  simp
theorem news_row {α : Type} {enc : α → List Value} {l : List AB} {elem k : Nat} (hk : ∀ x, (enc x).length = k) (hcv : ∀ x, (enc x).all cellv = true) (xs : List α) : News P l elem k false (frow xs.length (xs.flatMap enc)) (xs.flatMap enc) xs.length := by
  refine ⟨?_, row_length hk xs, row_cellv hcv xs⟩
  unfold newCells
  simp only [Bool.false_eq_true, if_false]
  show (match sliceLen (frow xs.length (xs.flatMap enc)) with | some n => _ | none => none) = _
  have h1 : sliceLen (frow xs.length (xs.flatMap enc)) = some xs.length := by show (match rowOf (frow xs.length (xs.flatMap enc)) with | some (n, _) => some n | none => none) = _; rw [rowOf_frow]
  have h2 : sliceCells (mk l) (frow xs.length (xs.flatMap enc)) (xs.length * k) = some (xs.flatMap enc) := by
    show (match rowOf (frow xs.length (xs.flatMap enc)) with | some (_, cs) => part cs 0 (xs.length * k) | none => none) = _
    rw [rowOf_frow]
    simp only [part]
    rw [if_pos (by rw [row_length hk]; omega), List.drop_zero, ← row_length hk, List.take_length]
  rw [h1]; simp only; rw [h2]
theorem news_ints {l : List AB} {elem : Nat} (xs : List Int) : News P l elem 1 false (rowI xs) (ints xs) xs.length := by
  have h := news_row (P := P) (l := l) (elem := elem) (enc := fun x => [Value.int .i64 x]) (k := 1) (fun _ => rfl) (fun _ => rfl) xs
  have e : xs.flatMap (fun x => [Value.int .i64 x]) = ints xs := by unfold ints; rw [List.map_eq_flatMap]
  rw [e] at h; exact h
theorem news_arr {l : List AB} {elem k b n c : Nat} {cs new : List Value} {e : TypeId} {fz : Nat × Nat} (hl : l.length < 16777216) (hb : l[b]? = some (.cells cs e fz)) (hp : part cs 0 (n * k) = some new) (hcv : new.all cellv = true) : News P l elem k false (.slice (some ⟨b, 0, none⟩) n c) new n := by
  have hlen : new.length = n * k := by
    unfold part at hp
    split at hp
    · simp only [Option.some.injEq] at hp; subst hp; simp; omega
    · cases hp
  refine ⟨?_, hlen, hcv⟩
  unfold newCells
  simp only [Bool.false_eq_true, if_false, sliceLen, sliceCells, if_true]
  by_cases h0 : n * k = 0
  · rw [if_pos h0]
    have : new = [] := List.eq_nil_of_length_eq_zero (by omega)
    rw [this]
  · rw [if_neg h0, cellsAt_mk hl, hb, cellsO_cells, hp]
end Go.Ev
