import Derived.Test.YtmapfhhdmgmnpaaGreatK01
import Derived.Test.YtmapfhhdmgmnpaaGreatK06
import Derived.Test.YtmapfhhdmgmnpaaGreatK07
namespace Go.Ev
open Go Go.Proofs Tryz
open TP (Str Tree Nd)
set_option maxRecDepth 100000
set_option maxHeartbeats 4000000
def putT (T : Tree Nd) (i : Nat) (X : Tree Nd) : Tree Nd := .mk T.d (T.kids.take i ++ X :: T.kids.drop i)
theorem put_fn (T X : Tree Nd) (i : Nat) (hi : i ≤ T.kids.length) (hk : T.kids.length ≤ 8388608) : Fn prog 72 [vNode T, .int .i64 i, vNode X] (vNode (putT T i X)) := by
  refine fn_is func72 ntmps72 results72 rfl cfgOK mixed (cl3 (nodeC_clean T) rfl (nodeC_clean X)) ?_
  have hb : [AB.cells (nodeL T) 26 (0, 0), AB.cells (nodeL X) 26 (0, 0), AB.cells zeroL 26 (0, 0)].length = 3 := rfl
  obtain ⟨v1, l1, e1, o1, g1⟩ := (Acc.nil (e := 26) (s := 6) (B := [AB.cells (nodeL T) 26 (0, 0), AB.cells (nodeL X) 26 (0, 0), AB.cells zeroL 26 (0, 0)])).app24 (news_row nodeC_length nodeC_cellv (T.kids.take i)) (by rw [hb]; omega) (by simp; omega)
  have hl1 : l1.length + 2 < 16777216 := by omega
  have hl1' : l1.length < 16777216 := by omega
  have ht : (T.kids.take i).length = i := by rw [List.length_take]; omega
  have hd : (T.kids.drop i).length = T.kids.length - i := by rw [List.length_drop]
  have n1 : News prog (l1 ++ [AB.cells (nodeL X) 26 (0, 0)]) 26 6 false (.slice (some ⟨l1.length, 0, none⟩) 1 1) (nodeL X) 1 := news_arr (fz := (0, 0)) (e := 26) (cs := nodeL X) (by simp; omega) (by simp) rfl rfl
  obtain ⟨v2, l2, e2, o2, g2⟩ := (o1.more (AB.cells (nodeL X) 26 (0, 0))).app24 n1 (by simp; omega) (by simp; omega)
  simp only [List.length_append, List.length_cons, List.length_nil, hb] at g1 g2
  obtain ⟨v3, l3, e3, o3, g3⟩ := o2.app24 (news_row nodeC_length nodeC_cellv (T.kids.drop i)) (by omega) (by simp; omega)
  have hl2 : l2.length < 16777216 := by omega
  have hl3 : l3.length < 16777216 := by omega
  have f0 := (o1.base 0 (by rw [hb]; omega)).trans rfl
  have f1 := (o1.base 1 (by rw [hb]; omega)).trans rfl
  have f2 := (o2.base 0 (by rw [hb]; omega)).trans rfl
  have f3 := (o3.base 0 (by rw [hb]; omega)).trans rfl
  have f4 := (o3.base 2 (by rw [hb]; omega)).trans rfl
  obtain ⟨a3, c3, hv3⟩ := o3.own.slice
  subst hv3
  replace o1 := Hid.mk o1
  replace o2 := Hid.mk o2
  replace o3 := Hid.mk o3
  clear n1
  rw [ht, Nat.zero_add, hd] at e3
  rw [ht] at e1
  have ht2 : (T.kids.drop i).take (T.kids.length - i) = T.kids.drop i := List.take_of_length_le (by rw [List.length_drop]; omega)
  have hrf : T.kids.length ≤ T.kids.length := Nat.le_refl _
  simp only [nodeL, zeroL] at e1 e2 f0 f1 f2 f3 f4
  refine burst ?_
  refine ends (node_frz ?_) rfl
  have hcl := row_clean nodeC_clean (T.kids.take i ++ X :: T.kids.drop i)
  have h := o3.out
  rw [hd, ht, Nat.zero_add, List.nil_append] at h
  have he : List.flatMap nodeC (T.kids.take i) ++ nodeL X ++ List.flatMap nodeC (T.kids.drop i) = List.flatMap nodeC (T.kids.take i ++ X :: T.kids.drop i) := by
    rw [List.flatMap_append, List.flatMap_cons, nodeC_eq X, List.append_assoc]
  rw [he] at h
  show Frz _ _ (frow (T.kids.take i ++ X :: T.kids.drop i).length _)
  rw [show (T.kids.take i ++ X :: T.kids.drop i).length = i + 1 + (T.kids.length - i) by rw [List.length_append, List.length_cons, ht, hd]; omega]
  exact h.frz (by simpa using hl3) (fun b hb => by
    have : 3 ≤ b := hb
    rw [gset, if_neg (by omega), gset, if_neg (by omega)]) hcl
theorem own_pos {e s : Nat} {l : List AB} {v : Value} {n : Nat} {cs : List Value} (h : Own e s l v n cs) (hn : 0 < n) : ∃ b, v = .slice (some ⟨b, 0, none⟩) n (big + n) ∧ l[b]? = some (.grown cs e s) ∧ cs.length = n * s ∧ cs.all cellv = true := by
  cases h with
  | nil => omega
  | zero _ => omega
  | row h1 h2 h3 h4 => exact ⟨_, rfl, h1, h2, h3⟩
theorem modify_set {α : Type} {f : α → α} : ∀ {l : List α} {i : Nat} {y : α}, l[i]? = some y → l.modify i f = l.set i (f y)
  | [], i, y, h => by simp at h
  | x :: l, 0, y, h => by simp at h; subst h; rfl
  | x :: l, i + 1, y, h => by
    have := modify_set (f := f) (l := l) (i := i) (y := y) (by simpa using h)
    rw [List.set_cons_succ, ← this]; rfl
theorem splice_row {α : Type} {enc : α → List Value} {k : Nat} (hk : ∀ x, (enc x).length = k) {l : List α} {i : Nat} {y : α} (h : i < l.length) : splice (l.flatMap enc) (i * k) (enc y) = (l.set i y).flatMap enc := by
  unfold splice
  rw [hk, row_take hk, show i * k + k = (i + 1) * k by rw [Nat.succ_mul], row_drop hk, List.set_eq_take_append_cons_drop, if_pos h, List.flatMap_append, List.flatMap_cons, List.append_assoc]
theorem put6_fn {K L : Nat} (hK : K ≤ 8388608) (X : Tree Nd) : ∀ (p : List Int) (T : Tree Nd), bT K L T → (∀ x ∈ p, 0 ≤ x) → Fn prog 140 [vNode T, rowI p, vNode X] (.tuple #[vNode (if (TP.at? (toN p) T).isSome then TP.upd (fun _ => X) (toN p) T else zeroT), .bool (TP.at? (toN p) T).isSome])
  | [], T, hT, hp => by
    refine fn_is func140 ntmps140 results140 rfl cfgOK mixed (cl3 (nodeC_clean T) (rowI_clean []) (nodeC_clean X)) ?_
    clear hT hp
    refine burst ?_
    refine sIf_intro (fun _ => ?_) (fun h => absurd h (by decide))
    refine burst ?_
    refine ends (.clean ?_) ?_
    · exact nodeC_eq X ▸ clean_tup (l := [vNode X, .bool true]) ▸ cleanL_cons (nodeC_clean X) rfl
    · exact congrArg (fun l => Value.tuple #[.agg l.toArray, .bool true]) (nodeC_eq X).symm
  | x :: p, T, hT, hp => by
    have ih := fun k hk => put6_fn hK X p k (hT.kid k hk) fun y hy => hp y (List.mem_cons_of_mem _ hy)
    refine fn_is func140 ntmps140 results140 rfl cfgOK mixed (cl3 (nodeC_clean T) (rowI_clean (x :: p)) (nodeC_clean X)) ?_
    obtain ⟨i, rfl⟩ := Int.eq_ofNat_of_zero_le (hp x (by simp))
    have hk := hT.len
    replace ih := Hid.mk ih
    clear hT hp
    refine burst ?_
    refine ifD (fun h => by omega) (fun h => ?_)
    clear h
    have e0 : ((i : Int) :: p)[0]? = some (i : Int) := rfl
    have e1 : 0 < p.length + 1 := by omega
    refine burst ?_
    refine sDraw_seq cfgOK (by kernel_rfl) ?_
    refine burst ?_
    refine guardND (fun q2 => ?_) (fun q2 => by omega)
    refine burst ?_
    refine ifD (fun q3 => ?_) (fun q3 => ?_)
    · have hnone : TP.at? (toN ((i : Int) :: p)) T = none := by
        show TP.at? ((i : Int).toNat :: toN p) T = none
        simp only [TP.at?, Int.toNat_natCast]
        rw [List.getElem?_eq_none (by omega)]; rfl
      rw [hnone]
      refine burst ?_
      refine ends (.tuple (.cons (.agg zero_frz) (.clean rfl))) ?_
      rfl
    obtain ⟨y, e2⟩ : ∃ y, T.kids[i]? = some y := ⟨_, get_some (by omega)⟩
    have hn : i < T.kids.length := by omega
    have hsl : frPart (p.length + 1) (ints ((i : Int) :: p)) 1 1 (p.length + 1) = some (rowI p) := by
      unfold frPart part ints
      simp
      exact ⟨by omega, by rw [List.take_of_length_le (by simp)]; rfl⟩
    have c := ih.out y (List.mem_of_getElem? e2)
    have hat : TP.at? (toN ((i : Int) :: p)) T = TP.at? (toN p) y := by
      show TP.at? ((i : Int).toNat :: toN p) T = _
      simp only [TP.at?, Int.toNat_natCast, e2]; rfl
    have hup : TP.upd (fun _ => X) (toN ((i : Int) :: p)) T = .mk T.d (T.kids.set i (TP.upd (fun _ => X) (toN p) y)) := by
      show TP.upd _ ((i : Int).toNat :: toN p) T = _
      simp only [TP.upd, Int.toNat_natCast]
      rw [modify_set e2]
    rw [hat, hup]
    clear hat hup q3
    cases hy : TP.at? (toN p) y with
    | none =>
      rw [hy] at c
      simp only [vNode, nodeC_eq, Option.isSome_none, Bool.false_eq_true, if_false] at c
      clear hy
      refine burst ?_
      refine sDraw_news 14 cfgOK rfl rfl zr26 (by simp) (by kernel_rfl) ?_
      refine burst ?_
      refine sCall_fn (by assumption) ?_
      refine burst ?_
      refine ends (.tuple (.cons (.agg zero_frz) (.clean rfl))) ?_
      rfl
    | some z =>
      rw [hy] at c
      simp only [Option.isSome_some, if_true] at c ⊢
      generalize TP.upd (fun _ => X) (toN p) y = U at *
      simp only [vNode, nodeC_eq] at c
      clear hy
      have hb : [AB.cells (nodeL T) 26 (0, 0), AB.cells (nodeL X) 26 (0, 0), AB.cells zeroL 26 (0, 0), AB.cells (nodeL U) 26 (0, 0)].length = 4 := rfl
      obtain ⟨v1, l1, g1, o1, g2⟩ := (Acc.nil (e := 26) (s := 6) (B := [AB.cells (nodeL T) 26 (0, 0), AB.cells (nodeL X) 26 (0, 0), AB.cells zeroL 26 (0, 0), AB.cells (nodeL U) 26 (0, 0)])).app24 (news_row nodeC_length nodeC_cellv T.kids) (by rw [hb]; omega) (by omega)
      rw [hb] at g2
      have hl1 : l1.length < 16777216 := by omega
      have f0 := (o1.base 0 (by rw [hb]; omega)).trans rfl
      have f2 := (o1.base 2 (by rw [hb]; omega)).trans rfl
      have f3 := (o1.base 3 (by rw [hb]; omega)).trans rfl
      rw [Nat.zero_add, List.nil_append] at o1
      obtain ⟨own, _, off, _⟩ := o1
      obtain ⟨b, rfl, h1, h2, h3⟩ := own_pos own (by omega)
      have hb4 : 4 ≤ b := (off b rfl).1
      have hb5 : b < l1.length := (off b rfl).2
      have b0 : ¬ b = 0 := by omega
      have b2 : ¬ b = 2 := by omega
      have b3 : ¬ b = 3 := by omega
      have hin : i * 6 + 6 ≤ T.kids.length * 6 := by omega
      clear off hb
      simp only [nodeL, zeroL] at g1 f0 f2 f3
      refine burst ?_
      refine sDraw_news 14 cfgOK rfl rfl zr26 (by simp) (by kernel_rfl) ?_
      refine burst ?_
      refine sCall_fn (by assumption) ?_
      refine burst ?_
      refine sDraw_seq cfgOK (by kernel_rfl) ?_
      refine burst ?_
      refine ends (v := .tuple #[vNode (Tree.mk T.d (T.kids.set i U)), .bool true]) (.tuple (.cons (node_frz (kids := T.kids.set i U) ?_) (.clean rfl))) rfl
      have he : List.take (i * 6) (List.flatMap nodeC T.kids) ++ nodeL U ++ List.drop (i * 6 + 6) (List.flatMap nodeC T.kids) = (T.kids.set i U).flatMap nodeC := by
        rw [← splice_row nodeC_length hn]
        unfold splice
        rw [nodeC_eq U]; rfl
      have hcl := row_clean nodeC_clean (T.kids.set i U)
      show Frz _ _ (frow (T.kids.set i U).length _)
      rw [List.length_set]
      refine Own.frz (elem := 26) (s := 6) (.row ?_ ?_ ?_ (by omega)) (by simpa using hl1) hcl
      · rw [gset, if_neg (fun e => b2 e.symm), gset, if_neg (fun e => b0 e.symm), gset, if_pos rfl, h1]
        exact congrArg (fun cs => some (AB.grown cs 26 6)) he
      · rw [row_length nodeC_length, List.length_set]
      · exact row_cellv nodeC_cellv _
end Go.Ev
namespace Go.Ev
open Go Go.Proofs Tryz
open TP (Str Tree Nd)
set_option maxRecDepth 100000
set_option maxHeartbeats 4000000
theorem node_end {A : AS} {T : Tree Nd} : Frz A (tupleOf [.agg #[.int .u64 T.d.id, .bool T.d.leaf, .string (bs T.d.label), rowA T.d.attrs, .string (bs T.d.text), rowK T.kids]]) (vNode T) := by
  have h : clean (vNode T) = true := nodeC_clean T
  rw [tup_one, vNode, nodeC_eq]
  rw [vNode, nodeC_eq] at h
  exact .clean h
def chgT (T : Tree Nd) (p : List Int) (X : Tree Nd) : Tree Nd := if (TP.at? (toN p) T).isSome then TP.upd (fun _ => X) (toN p) T else zeroT
theorem change_fn {K L : Nat} (hK : K ≤ 8388608) {T : Tree Nd} (hT : bT K L T) (p : List Int) (hp : ∀ x ∈ p, 0 ≤ x) (X : Tree Nd) : Fn prog 71 [vNode T, rowI p, vNode X] (vNode (chgT T p X)) := by
  refine fn_is func71 ntmps71 results71 rfl cfgOK mixed (cl3 (nodeC_clean T) (rowI_clean p) (nodeC_clean X)) ?_
  have c := put6_fn hK X p T hT hp
  rw [show (if (TP.at? (toN p) T).isSome = true then TP.upd (fun _ => X) (toN p) T else zeroT) = chgT T p X from rfl] at c
  generalize chgT T p X = U at *
  simp only [vNode, nodeC_eq] at c
  replace hT := Hid.mk hT
  clear hp
  refine burst ?_
  refine sCall_fn (by assumption) ?_
  refine burst ?_
  exact ends node_end rfl
end Go.Ev
namespace Go.Ev
open Go Go.Proofs Tryz
open TP (Str Tree Nd)
set_option maxRecDepth 100000
set_option maxHeartbeats 4000000
theorem does_is {ns : Nat} {f : FuncId} {fn : Func} {body : Code} {args : List Value} {v : Value} {l l' : List AB} {rs : Array ResultVar} {d : Bool} (hfn : prog.funcs[f]? = some fn) (hns : fn.ntmps = ns) (hrs : fn.results = rs) (hbody : fn.body = some body)
    (h : W prog ns [.code body] (setArgs args 0 .nil) (mk l) fun tm A' => ∃ vs, aresults prog tm A' rs.toList = some vs ∧ tupleOf vs = v ∧ A' = mk l') (hv : vok (mk l').ok v = true)
    (h1 : args.length ≤ ns := by exact Nat.le_of_ble_eq_true rfl) (h2 : ns < 65535 := by decide) (hok : codeOk body = true := by kernel_rfl) : Does prog (.call f args d) (mk l) v (mk l') := by
  subst hns hrs
  obtain ⟨v0, A', ⟨rfl, rfl⟩, hc⟩ := fn_calls (R := fun v0 A' => v0 = v ∧ A' = mk l') cfgOK mixed hfn hbody h1 h2 hok h
  exact hc.does hv
theorem Acc.ok {e s : Nat} {B l : List AB} {v : Value} {n : Nat} {cs : List Value} (h : Acc e s B l v n cs) : vok (Ev.mk l).ok v = true := by
  have key : ∀ b, b < l.length → (Ev.mk l).ok b = true := fun b hb => by
    rw [AS.ok_iff]
    exact .inl ⟨by rw [mk_next]; exact hb, by rw [mk_pend]; simp⟩
  have off := h.off
  cases h.own with
  | nil => rfl
  | zero h => simpa [vok] using key _ (off _ rfl).2
  | row h1 _ _ _ => simpa [vok] using key _ (off _ rfl).2
theorem copied_does (p : List Int) (hp : p.length ≤ 16777216) (l : List AB) (hl : l.length + 2 < 16777216) :
    ∃ v l', Does prog (.call 142 [rowI p] false) (mk l) v (mk l') ∧ Acc 3 1 l l' v p.length (ints p) ∧ l'.length ≤ l.length + 1 := by
  obtain ⟨v', l', e, ho, g1, g2, g3, g4⟩ := app64 (l := l) .nil (news_ints p) hl (by omega)
  have acc : Acc 3 1 l l' v' p.length (ints p) := Acc.nil.of (by simpa using ho) g1 g3 g4
  refine ⟨v', l', ?_, acc, g2⟩
  have hv := acc.ok
  clear acc ho g1 g2 g3 g4
  refine does_is func142 ntmps142 results142 rfl ?_ hv
  refine burst ?_
  exact ⟨_, rfl, rfl⟩
end Go.Ev
namespace Go.Ev
open Go
variable {P : Program} {φ : Rn} {w : World} {A : AS}
mutual
theorem veq_refl : ∀ v : Value, veq v v = true
  | .bool a => by simp [veq]
  | .int j a => by simp [veq]
  | .float j a => by simp [veq]
  | .complex j a x => by simp [veq]
  | .chan a => by simp [veq]
  | .string a => by simp [veq]
  | .pointer a => by simp [veq]
  | .slice a l c => by simp [veq]
  | .map a => by simp [veq]
  | .func f x y => by simp [veq, veqA_refl x, veqA_refl y]
  | .nilFunc => rfl
  | .iface t v => by simp [veq, veq_refl v]
  | .nilIface => rfl
  | .agg x => by simp [veq, veqA_refl x]
  | .tuple x => by simp [veq, veqA_refl x]
theorem veqA_refl : ∀ v : Array Value, veqA v v = true
  | ⟨l⟩ => by simp [veqA, veqL_refl l]
theorem veqL_refl : ∀ v : List Value, veqL v v = true
  | [] => rfl
  | v :: l => by simp [veqL, veq_refl v, veqL_refl l]
end
theorem again_same {pend base : List Nat} {m : Nat} : ∀ {rs : List (Nat × Oper × Trie Value × Value)}, (∀ x ∈ rs, isVal x.2.1 = true ∧ aop P x.2.2.1 x.2.1 A = some (x.2.2.2, A)) → again P pend m { A with pend := base } rs = true
  | [], _ => rfl
  | (j, o, tm, u) :: rs, h => by
    obtain ⟨h1, h2⟩ := h _ (List.mem_cons_self ..)
    simp only [again, Bool.and_eq_true, Bool.or_eq_true]
    refine ⟨.inr ?_, again_same fun x hx => h x (List.mem_cons_of_mem _ hx)⟩
    unfold still
    rw [aop_map (A := A) (B := { A with pend := pend }) h1 (.inr rfl), h2]
    exact veq_refl u
def evSeqK (P : Program) (ns : Nat) (ops : List Oper) (rcs : Nat → Rec) : Nat → List Oper → Trie Value → AS → Trie Value → AS → Prop
  | _, [], tm, A, tm', A' => tm' = tm ∧ A = A'
  | i, o :: rest, tm, A, tm', A' => (wants tm ops o = true → ∃ v A1, evOper P cfg0 (rcs i) false tm o A = some (v, A1, none) ∧ A1.pend = A.pend ∧ (isFn o = true → A1 = A) ∧ evSeqK P ns ops rcs (i + 1) rest (putD ns tm o.dst v) A1 tm' A') ∧
      (wants tm ops o = false → evSeqK P ns ops rcs (i + 1) rest (putD ns tm o.dst undef) A tm' A')
theorem evSeqK_congr {ns : Nat} {ops : List Oper} {rcs rcs' : Nat → Rec} {tm' : Trie Value} {A' : AS} : ∀ (rest : List Oper) (i : Nat) (tm : Trie Value) (A : AS) (_ _ : Unit), (∀ j, i ≤ j → rcs j = rcs' j) → evSeqK P ns ops rcs i rest tm A tm' A' → evSeqK P ns ops rcs' i rest tm A tm' A'
  | [], i, tm, A, _, _, _, h => h
  | o :: rest, i, tm, A, _, _, hc, h => by
    refine ⟨fun hw => ?_, fun hw => evSeqK_congr rest _ _ _ () () (fun j hj => hc j (by omega)) (h.2 hw)⟩
    obtain ⟨v, A1, h1, h2, h3, h4⟩ := h.1 hw
    exact ⟨v, A1, by rw [← hc i (Nat.le_refl _)]; exact h1, h2, h3, evSeqK_congr rest _ _ _ () () (fun j hj => hc j (by omega)) h4⟩
theorem wOpsF_ev (hc : CfgOK P cfg0) {ns : Nat} {ops : Array Oper} (hops : opsOk ops.toList = true) {tail : List Oper} : ∀ (rest : List Oper) (i : Nat) (tm : Trie Value) (A : AS) (K : Trie Value → AS → Prop), ops.toList.drop i = rest ++ tail → wOpsF P true ns ops.toList rest tm A K →
    ∃ (rcs : Nat → Rec) (tm' : Trie Value) (A' : AS), (∀ j, RecOK P (rcs j)) ∧ K tm' A' ∧ OpsRun P ns ops (List.range' i rest.length) tm A tm' A' ∧
      ∀ (φ : Rn) (w : World) (a : Act), Rel φ A w → FR φ A w ns tm [] a → evSeqK P ns ops.toList rcs i rest tm A tm' A'
  | [], i, tm, A, K, _, h => ⟨fun _ => rec0, tm, A, fun _ => rec0_ok, h, fun φ w a b cs k _ _ hR hF => ⟨φ, w, a, .one stepR_region_end, hR, Runs.refl _ _ _, hF⟩, fun _ _ _ _ _ => ⟨rfl, rfl⟩⟩
  | o :: rest, i, tm, A, K, hd, h => by
    have ho : ops[i]? = some o := by
      have : (ops.toList.drop i)[0]? = some o := by rw [hd]; rfl
      rw [List.getElem?_drop] at this; simpa using this
    have hd' : ops.toList.drop (i + 1) = rest ++ tail := by rw [← List.drop_drop, hd]; rfl
    have hopk := opsOk_mem hops (o := o) (List.mem_of_getElem? (i := i) (by simpa using ho))
    simp only [wOpsF] at h
    rw [List.length_cons, List.range'_succ]
    cases hw : wants tm ops.toList o with
    | true =>
      rw [hw, wIf_true] at h
      obtain ⟨rc, v, A1, hrc, hK0, hev⟩ := wOp_ev h hopk
      obtain ⟨hkeep, hK⟩ : (isFn o = true → A1 = A) ∧ wOpsF P true ns ops.toList rest (putD ns tm o.dst v) A1 K := by
        cases hf : isFn o with
        | true => rw [hf] at hK0; exact ⟨fun _ => hK0.1 rfl, hK0.2⟩
        | false => rw [hf] at hK0; exact ⟨fun e => by simp at e, hK0⟩
      obtain ⟨rcs, tm', A', h1, h2, h3, h4⟩ := wOpsF_ev hc hops rest (i + 1) _ A1 K hd' hK
      have one : ∀ (φ : Rn) (w : World) (a : Act) (b : Frame) (cs : List Frame) (k : List Item), CtxOK b cs → b.roundOf = none → Rel φ A w → FR φ A w ns tm [] a →
          ∃ φ1 w1 a1, Steps P (lone (b.atR a (.inRegion ops (i :: List.range' (i + 1) rest.length) :: k)) cs w) (lone (b.atR a1 (.inRegion ops (List.range' (i + 1) rest.length) :: k)) cs w1) ∧ Rel φ1 A1 w1 ∧ Runs φ A w φ1 A1 w1 ∧ FR φ1 A1 w1 ns (putD ns tm o.dst v) [] a1 := fun φ w a b cs k hb hro hR hF => by
        have hwant : wants tm ops.toList o = Region.wanted o (yielded ops a.tmps) := wants_eq fun j want d _ _ => hF.tmr.2.1 d
        rw [hw] at hwant
        have hkk : ∀ x ∈ opsL o.op, vok A.ok (ev tm x) = true := fun x hx => ev_ok hF.tok (hopk x hx)
        obtain ⟨φ1, w1, V, D, q1, q2, q3, q4, q5, q6, q7⟩ := op_run hc hrc hR (k := k) (cs := cs) (a := a) (rest := List.range' (i + 1) rest.length) hb ho hwant.symm (fun x hx => ev_RV hF.tmr (hopk x hx)) hkk (by rw [hro]; exact hev ⟨φ, w, hR⟩ hkk)
        have hD : D = [] := by cases D with
          | nil => rfl
          | cons d D => exact absurd q6 (by simp [RDL])
        subst hD
        exact ⟨φ1, w1, _, q1, q3, q4, (hF.run hR q4).put q2 q5 o.dst⟩
      refine ⟨fun j => if j = i then rc else rcs j, tm', A', fun j => (by show RecOK P (if j = i then rc else rcs j); split <;> first | exact hrc | exact h1 j), h2, fun φ w a b cs k hb hro hR hF => ?_, fun φ w a hR hF => ?_⟩
      · obtain ⟨φ1, w1, a1, q1, q2, q3, q4⟩ := one φ w a b cs k hb hro hR hF
        obtain ⟨φ2, w2, a2, q5, q6, q7, q8⟩ := h3 φ1 w1 a1 b cs k hb hro q2 q4
        exact ⟨φ2, w2, a2, q1.trans q5, q6, q3.trans q7, q8⟩
      · obtain ⟨φ1, w1, a1, q1, q2, q3, q4⟩ := one φ w a frame0 [] [] (.inl rfl) rfl hR hF
        refine ⟨fun _ => ⟨v, A1, ?_, q3.pend, hkeep, ?_⟩, fun e => by rw [hw] at e; cases e⟩
        · show evOper P cfg0 (if i = i then rc else rcs i) false tm o A = _
          rw [if_pos rfl]; exact hev ⟨φ, w, hR⟩ fun x hx => ev_ok hF.tok (hopk x hx)
        · exact evSeqK_congr rest _ _ _ () () (fun j hj => (if_neg (by omega)).symm) (h4 φ1 w1 a1 q2 q4)
    | false =>
      rw [hw, wIf_false] at h
      obtain ⟨rcs, tm', A', h1, h2, h3, h4⟩ := wOpsF_ev hc hops rest (i + 1) _ A K hd' h
      refine ⟨rcs, tm', A', h1, h2, fun φ w a b cs k hb hro hR hF => ?_, fun φ w a hR hF => ?_⟩
      · have hwant : wants tm ops.toList o = Region.wanted o (yielded ops a.tmps) := wants_eq fun j want d _ _ => hF.tmr.2.1 d
        rw [hw] at hwant
        obtain ⟨φ2, w2, a2, h8, h9, h10, h11⟩ := h3 φ w (a.put o.dst undef) b cs k hb hro hR (hF.put (RV_undef.2 rfl) rfl o.dst)
        have hs := stepR_op_skip (P := P) (b := b) (a := a) (k := k) (cs := cs) (w := w) (ops := ops) (i := i) (rest := List.range' (i + 1) rest.length) (by simp [ho, ← hwant])
        simp only [ho, Option.bind_some] at hs
        exact ⟨φ2, w2, a2, .head hs h8, h9, h10, h11⟩
      · refine ⟨fun e => (by rw [hw] at e; cases e), fun _ => ?_⟩
        exact h4 φ w (a.put o.dst undef) hR (hF.put (RV_undef.2 rfl) rfl o.dst)
def dcall (ops : List Oper) : Nat → List Oper → List Nat → Seen → List Nat → List Nat → Bool
  | _, [], _, _, _, _ => true
  | i, o :: rest, ms, sn, ts, rs =>
    let m := maskOf i ms o.after.toList 0
    let ls := looks ops o
    ((opsL o.op).all opk && tempsOk sn m ls o.dst && o.after.toList.all (fun e => !bind e || Nat.blt e.on i)) &&
    (match kindOf o with
    | .news => false
    | .still => dcall ops (i + 1) rest (m :: ms) (seenOf sn i ls o.dst) ts rs
    | .reads => ts.all (fun t => m.testBit t) && dcall ops (i + 1) rest (m :: ms) (seenOf sn i ls o.dst) ts (i :: rs)
    | .turns => (ts.all (fun t => m.testBit t) && (isFn o || rs.all (fun t => m.testBit t))) && dcall ops (i + 1) rest (m :: ms) (seenOf sn i ls o.dst) (i :: ts) rs)
theorem dcall_draw {ns : Nat} {ops : List Oper} {rcs : Nat → Rec} {ids : List (Option Nat)} (hids : ∀ x ∈ ids, x = none) {base : List Nat} : ∀ (rest : List Oper) (i : Nat) (S : DS) (A : AS) (hs : List AS) (ts rs : List Nat) (tm' : Trie Value) (A' : AS),
    dcall ops i rest S.ms S.sn ts rs = true → S.hs = A :: hs → A.pend = base → (∀ t ∈ S.ts, t ∈ ts) → (∀ x ∈ S.rs, x.1 ∈ rs) → (∀ x ∈ S.rs, isVal x.2.1 = true ∧ aop P x.2.2.1 x.2.1 A = some (x.2.2.2, A)) →
    evSeqK P ns ops rcs i rest S.tm A tm' A' → ∃ S', drawAll P cfg0 rcs false ns ops base ids i rest S = some S' ∧ S'.tm = tm' ∧ ∃ hs', S'.hs = A' :: hs'
  | [], i, S, A, hs, ts, rs, tm', A', _, hh, _, _, _, _, h => by
    exact ⟨S, rfl, h.1.symm, hs, by rw [hh, h.2]⟩
  | o :: rest, i, S, A, hs, ts, rs, tm', A', hst, hh, hp, hts, hrs, hval, h => by
    simp only [dcall, Bool.and_eq_true] at hst
    have hcheck : dCheck S i (maskOf i S.ms o.after.toList 0) (looks ops o) o = true := by
      unfold dCheck
      simp only [Bool.and_eq_true]
      exact hst.1
    have hA0 : ({ A with pend := pends (maskOf i S.ms o.after.toList 0) ids 0 ++ base } : AS) = A := by
      rw [pends_none ids 0 hids, List.nil_append, ← hp]
    simp only [drawAll, drawOne]
    rw [if_pos hcheck]
    unfold dDo
    rw [hh]
    simp only
    by_cases hw : wants S.tm ops o = true
    · rw [if_pos hw]
      simp only [dKind, hA0]
      replace h := h.1 hw
      obtain ⟨v, A1, he, hp1, hkeep, h⟩ := h
      ·
        cases hk : kindOf o with
        | news => rw [hk] at hst; exact absurd hst.2 (by simp)
        | still =>
          rw [hk] at hst
          have e := evOper_pend (.inl hk) he
          subst e
          simp only [dStill, he, dSeen]
          exact dcall_draw hids rest (i + 1) { tm := putD ns S.tm o.dst v, ms := maskOf i S.ms o.after.toList 0 :: S.ms, sn := seenOf S.sn i (looks ops o) o.dst, hs := S.hs, ts := S.ts, rs := S.rs } A1 hs ts rs tm' A' hst.2 hh hp hts hrs hval h
        | reads =>
          rw [hk] at hst
          simp only [Bool.and_eq_true] at hst
          have e := evOper_pend (.inr hk) he
          subst e
          have hnil : (S.ts.takeWhile fun t => !(maskOf i S.ms o.after.toList 0).testBit t) = [] := by
            cases hS : S.ts with
            | nil => rfl
            | cons t r =>
              rw [List.takeWhile_cons_of_neg]
              have := List.all_eq_true.1 hst.2.1 t (hts t (by rw [hS]; simp))
              simp [this]
          simp only [dReads, he, hnil, List.length_nil, List.take_zero, List.all_nil, if_true, dSeen]
          exact dcall_draw hids rest (i + 1) { tm := putD ns S.tm o.dst v, ms := maskOf i S.ms o.after.toList 0 :: S.ms, sn := seenOf S.sn i (looks ops o) o.dst, hs := S.hs, ts := S.ts, rs := (i, o, S.tm, v) :: S.rs } A1 hs ts (i :: rs) tm' A' hst.2.2 hh hp hts
            (fun x hx => by
              rcases List.mem_cons.1 hx with rfl | hx
              · exact List.mem_cons_self ..
              · exact List.mem_cons_of_mem _ (hrs x hx)) (fun x hx => by
              rcases List.mem_cons.1 hx with rfl | hx
              · exact ⟨kind_val (.inr hk), kind_aop (.inr hk) he⟩
              · exact hval x hx) h
        | turns =>
          rw [hk] at hst
          simp only [Bool.and_eq_true] at hst
          have hp1 : A1.pend = base := hp1.trans hp
          have hto : turnOk S.ts (maskOf i S.ms o.after.toList 0) = true := by
            cases hS : S.ts with
            | nil => rfl
            | cons t r => exact List.all_eq_true.1 hst.2.1.1 t (hts t (by rw [hS]; simp))
          have hA1 : ({ A1 with pend := base } : AS) = A1 := by rw [← hp1]
          have hag : again P (pends 0 ids 0 ++ base) (maskOf i S.ms o.after.toList 0) { A1 with pend := base } S.rs = true := by
            rcases Bool.or_eq_true _ _ ▸ hst.2.1.2 with hf | hall
            · have := hkeep hf
              subst this
              exact again_same (hval)
            · exact again_all fun x hx => List.all_eq_true.1 hall x.1 (hrs x hx)
          simp only [hto, if_true, dTurns, he]
          rw [if_pos hag]
          simp only [hA1, dSeen]
          exact dcall_draw hids rest (i + 1) { tm := putD ns S.tm o.dst v, ms := maskOf i S.ms o.after.toList 0 :: S.ms, sn := seenOf S.sn i (looks ops o) o.dst, hs := A1 :: S.hs, ts := i :: S.ts, rs := S.rs.filter fun x => !(maskOf i S.ms o.after.toList 0).testBit x.1 } A1 (S.hs) (i :: ts) rs tm' A' hst.2.2 rfl hp1
            (fun x hx => by
              rcases List.mem_cons.1 hx with rfl | hx
              · exact List.mem_cons_self ..
              · exact List.mem_cons_of_mem _ (hts x hx)) (fun x hx => hrs x (List.mem_filter.1 hx).1) (fun x hx => by
              rcases Bool.or_eq_true _ _ ▸ hst.2.1.2 with hf | hall
              · have := hkeep hf
                subst this
                exact hval x (List.mem_filter.1 hx).1
              · have h1 := (List.mem_filter.1 hx).2
                rw [List.all_eq_true.1 hall x.1 (hrs x (List.mem_filter.1 hx).1)] at h1
                simp at h1) h
    · rw [if_neg hw]
      replace h := h.2 (by simpa using hw)
      cases hk : kindOf o with
      | news => rw [hk] at hst; exact absurd hst.2 (by simp)
      | still =>
        rw [hk] at hst
        simp only [dSkip, hk, dSeen]
        exact dcall_draw hids rest (i + 1) { tm := putD ns S.tm o.dst undef, ms := maskOf i S.ms o.after.toList 0 :: S.ms, sn := seenOf S.sn i (looks ops o) o.dst, hs := S.hs, ts := S.ts, rs := S.rs } A hs ts rs tm' A' hst.2 hh hp hts hrs hval h
      | reads =>
        rw [hk] at hst
        simp only [Bool.and_eq_true] at hst
        simp only [dSkip, hk, dSeen]
        exact dcall_draw hids rest (i + 1) { tm := putD ns S.tm o.dst undef, ms := maskOf i S.ms o.after.toList 0 :: S.ms, sn := seenOf S.sn i (looks ops o) o.dst, hs := S.hs, ts := S.ts, rs := S.rs } A hs ts (i :: rs) tm' A' hst.2.2 hh hp hts (fun x hx => List.mem_cons_of_mem _ (hrs x hx)) hval h
      | turns =>
        rw [hk] at hst
        simp only [Bool.and_eq_true] at hst
        simp only [dSkip, hk, dSeen]
        exact dcall_draw hids rest (i + 1) { tm := putD ns S.tm o.dst undef, ms := maskOf i S.ms o.after.toList 0 :: S.ms, sn := seenOf S.sn i (looks ops o) o.dst, hs := S.hs, ts := S.ts, rs := S.rs } A hs (i :: ts) rs tm' A' hst.2.2 hh hp (fun x hx => List.mem_cons_of_mem _ (hts x hx)) hrs hval h
theorem dcall_ops {ops : List Oper} : ∀ (rest : List Oper) (i : Nat) (ms : List Nat) (sn : Seen) (ts rs : List Nat), dcall ops i rest ms sn ts rs = true → opsOk rest = true ∧ ∀ o ∈ rest, kindOf o ≠ .news
  | [], i, ms, sn, ts, rs, _ => ⟨rfl, by simp⟩
  | o :: rest, i, ms, sn, ts, rs, h => by
    simp only [dcall, Bool.and_eq_true] at h
    have fin : ∀ {ms sn ts rs}, dcall ops (i + 1) rest ms sn ts rs = true → kindOf o ≠ .news → opsOk (o :: rest) = true ∧ ∀ u ∈ o :: rest, kindOf u ≠ .news := fun h2 hk => by
      obtain ⟨q1, q2⟩ := dcall_ops rest _ _ _ _ _ h2
      refine ⟨?_, fun u hu => ?_⟩
      · unfold opsOk at q1 ⊢
        rw [List.all_cons, q1, h.1.1.1]; rfl
      · rcases List.mem_cons.1 hu with rfl | hu
        · exact hk
        · exact q2 u hu
    cases hk : kindOf o with
    | news => rw [hk] at h; exact absurd h.2 (by simp)
    | still => rw [hk] at h; exact fin h.2 (by rw [hk]; simp)
    | reads => rw [hk] at h; simp only [Bool.and_eq_true] at h; exact fin h.2.2 (by rw [hk]; simp)
    | turns => rw [hk] at h; simp only [Bool.and_eq_true] at h; exact fin h.2.2 (by rw [hk]; simp)
theorem wDraw_calls (hc : CfgOK P cfg0) {ns : Nat} {ops : List Oper} {tm : Trie Value} {K : Trie Value → AS → Prop} (hst : dcall ops 0 ops [] ⟨.nil, .nil⟩ [] [] = true) (h : wOpsF P true ns ops ops tm A K) : wDraw P ns ops tm A K := by
  obtain ⟨q1, q2⟩ := dcall_ops _ _ _ _ _ _ hst
  obtain ⟨rcs, tm', A', h1, h2, h3, h4⟩ := wOpsF_ev hc (ops := ops.toArray) (tail := []) q1 ops 0 tm A K (by simp) h
  refine ⟨rcs, tm', A', h1, h2, fun φ w a hR hF => ?_⟩
  have h5 := h4 φ w a hR hF
  unfold evDraw
  rw [reserve_none ops A [] q2]
  simp only [List.reverse_nil, List.nil_append]
  obtain ⟨S', q3, q4, hs', q5⟩ := dcall_draw (P := P) (ids := List.replicate ops.length none) (base := A.pend) (by intro x hx; exact (List.mem_replicate.1 hx).2) ops 0 { tm, ms := [], sn := ⟨.nil, .nil⟩, hs := [A], ts := [], rs := [] } A [] [] [] tm' A' hst rfl rfl (by simp) (by simp) (by simp) h5
  rw [q3]
  simp only [q5, q4]
theorem sDraw_calls {ns : Nat} {ops : List Oper} {k : List Item} {tm : Trie Value} {Q : Trie Value → AS → Prop} (hc : CfgOK P cfg0) (hst : dcall ops 0 ops [] ⟨.nil, .nil⟩ [] [] = true) (h : wRun P true ns ops ops k tm A Q) : sDraw P ns ops k tm A Q := by
  unfold sDraw
  refine wDraw_calls hc hst ?_
  unfold wRun at h
  exact h
end Go.Ev
namespace Go.Ev
open Go Go.Proofs Tryz
open TP (Str Tree Nd)
set_option maxRecDepth 100000
set_option maxHeartbeats 4000000
theorem without_fn {K L : Nat} (hK : K ≤ 8388608) {T : Tree Nd} (hT : bT K L T) (p : List Int) (i : Nat) (hp : ∀ x ∈ p, 0 ≤ x) (hl : p.length < 4294967295) {Z : Tree Nd} (hZ : TP.at? (toN p) T = some Z) (hi : i < Z.kids.length) :
    Fn prog 73 [vNode T, rowI (p ++ [(i : Int)])] (vNode (TP.upd (fun _ => eraseT Z i) (toN p) T)) := by
  refine fn_is func73 ntmps73 results73 rfl cfgOK mixed (cl2 (nodeC_clean T) (rowI_clean _)) ?_
  have c1 := at6_fn T p hp (by omega)
  rw [hZ] at c1
  have c2 := drop_fn Z i hi (by have := (hT.at hZ).len; omega)
  have c3 := change_fn hK hT p hp (eraseT Z i)
  rw [show chgT T p (eraseT Z i) = TP.upd (fun _ => eraseT Z i) (toN p) T by unfold chgT; rw [hZ]; rfl] at c3
  generalize eraseT Z i = Y at *
  generalize TP.upd (fun _ => Y) (toN p) T = U at *
  simp only [vNode, nodeC_eq, Option.getD_some, Option.isSome_some] at c1 c2 c3
  clear hp hZ hT
  have hn : (p ++ [(i : Int)]).length = p.length + 1 := by simp
  have hw : IntKind.i64.wrap (((p.length + 1 : Nat) : Int) - 1) = (p.length : Int) := by rw [wrap_in (by omega) (by omega)]; omega
  have hw2 : IntKind.i64.wrap ((p.length : Int) + 1 - 1) = (p.length : Int) := by rw [wrap_in (by omega) (by omega)]; omega
  have hlt : p.length < p.length + 1 := by omega
  have e0 : (p ++ [(i : Int)])[p.length]? = some (i : Int) := by simp
  have e1 : (p ++ [(i : Int)]).take p.length = p := by simp
  have hle : p.length ≤ p.length + 1 := by omega
  have hsl : frPart (p.length + 1) (ints (p ++ [(i : Int)])) 1 0 p.length = some (rowI p) := by
    rw [← hn, frPart_ints, if_pos (by simp)]
    simp
  refine burst ?_
  refine sCall_fn (by assumption) ?_
  refine burst ?_
  refine sDraw_calls cfgOK (by kernel_rfl) ?_
  (repeat' (first | with_reducible refine ends_bool ?_ | with_reducible refine ends_int ?_ | with_reducible refine ifND (fun _ => ?_) (fun _ => ?_) | with_reducible refine ifD (fun _ => ?_) (fun _ => ?_) | with_reducible refine guardND (fun _ => ?_) (fun _ => ?_) | with_reducible refine guardD (fun _ => ?_) (fun _ => ?_) | with_reducible refine sIf_intro (fun _ => ?_) (fun _ => ?_) | with_reducible refine sGuard_intro (fun _ => ?_) (fun _ => ?_) | with_reducible refine sCall_fn (by assumption) ?_ | with_reducible refine sDraw_seq cfgOK (by kernel_rfl) ?_ | ((first | with_reducible show W _ _ (.code _ :: _) _ _ _ | with_reducible show wRun _ _ _ _ _ _ _ _ _); refine burst ?_)))
  exact ends node_end rfl
end Go.Ev
namespace Go.Ev
open Go Go.Proofs Tryz
open TP (Str Tree Nd)
set_option maxRecDepth 100000
set_option maxHeartbeats 4000000
def putS (l : List GPiece) : Nat := (l.map fun p => p.put.length).sum
def lightG (o : GOp) (t : Nat) : Prop := (o.path.length ≤ t ∧ o.to.length ≤ t ∧ o.label.length ≤ t ∧ o.key.length ≤ t ∧ o.value.length ≤ t ∧ o.pieces.length ≤ t) ∧ putS o.pieces ≤ t
instance (o : GOp) (t : Nat) : Decidable (lightG o t) := inferInstanceAs (Decidable (_ ∧ _))
theorem light_fn (o : GOp) (t : Nat) (ht : t ≤ 1048576) : Fn prog 60 [vOp o, .int .i64 t] (.bool (decide (lightG o t))) := by
  refine fn_is func60 ntmps60 results60 rfl cfgOK mixed (cl2 (vOp_clean o) rfl) ?_
  by_cases hA : o.path.length ≤ t ∧ o.to.length ≤ t ∧ o.label.length ≤ t ∧ o.key.length ≤ t ∧ o.value.length ≤ t ∧ o.pieces.length ≤ t
  · have h1 : ¬ t < o.path.length := by omega
    have h2 : ¬ t < o.to.length := by omega
    have h3 : ¬ t < o.label.length := by omega
    have h4 : ¬ t < o.key.length := by omega
    have h5 : ¬ t < o.value.length := by omega
    have h6 : ¬ t < o.pieces.length := by omega
    have hL : Hid (lightG o t ↔ putS o.pieces ≤ t) := ⟨⟨fun h => h.2, fun h => ⟨hA, h⟩⟩⟩
    have hp := hA.2.2.2.2.2
    clear hA
    refine burst ?_
    refine W_for o.pieces.length (fun i tm A => A = mk [AB.cells (opC o) 67 (0, 0)] ∧ tget tm 1 = .int .i64 t ∧ tget tm 2 = .pointer (some ⟨0, 0, none⟩) ∧ tget tm 6 = .int .i64 i ∧ tget tm 5 = .int .i64 (putS (o.pieces.take i) : Nat) ∧ putS (o.pieces.take i) ≤ t) ?_ 0 _ _ (by omega) ⟨rfl, look, look, look, look, by simp [putS]⟩
    rintro i tm A hi ⟨rfl, g1, g2, g6, g5, hs⟩ next
    clear h1 h2 h3 h4 h5 h6
    refine burst ?_
    refine ifD (fun q => ?_) (fun q => ?_)
    · obtain ⟨x, e1⟩ : ∃ x, o.pieces[i]? = some x := ⟨_, get_some q⟩
      have hsum : putS (o.pieces.take (i + 1)) = putS (o.pieces.take i) + x.put.length := sum_take e1 fun p => p.put.length
      have hle : putS (o.pieces.take (i + 1)) ≤ putS o.pieces := sum_take_le o.pieces (fun p => p.put.length) (i + 1)
      generalize putS (o.pieces.take i) = n at *
      have hw1 : IntKind.i64.wrap ((t : Int) - (n : Int)) = (t : Int) - (n : Int) := wrap_in (by omega) (by omega)
      have hw := wrap_succ (Nat.le_of_lt q) (by omega)
      replace next := Hid.mk next
      replace hsum := Hid.mk hsum
      refine burst ?_
      refine ifD (fun q5 => ?_) (fun q5 => ?_)
      · (repeat' (first | with_reducible refine ends_bool ?_ | with_reducible refine ends_int ?_ | with_reducible refine ifND (fun _ => ?_) (fun _ => ?_) | with_reducible refine ifD (fun _ => ?_) (fun _ => ?_) | with_reducible refine guardND (fun _ => ?_) (fun _ => ?_) | with_reducible refine guardD (fun _ => ?_) (fun _ => ?_) | with_reducible refine sIf_intro (fun _ => ?_) (fun _ => ?_) | with_reducible refine sGuard_intro (fun _ => ?_) (fun _ => ?_) | with_reducible refine sCall_fn (by assumption) ?_ | with_reducible refine sDraw_seq cfgOK (by kernel_rfl) ?_ | ((first | with_reducible show W _ _ (.code _ :: _) _ _ _ | with_reducible show wRun _ _ _ _ _ _ _ _ _); refine burst ?_)))
        have h2 := hsum.out
        refine (decide_eq_false fun h => ?_).symm
        have := hL.out.1 h
        omega
      · have hw2 : IntKind.i64.wrap ((n : Int) + (x.put.length : Int)) = ((n + x.put.length : Nat) : Int) := by rw [wrap_in (by omega) (by omega)]; omega
        (repeat' (first | with_reducible refine ends_bool ?_ | with_reducible refine ends_int ?_ | with_reducible refine ifND (fun _ => ?_) (fun _ => ?_) | with_reducible refine ifD (fun _ => ?_) (fun _ => ?_) | with_reducible refine guardND (fun _ => ?_) (fun _ => ?_) | with_reducible refine guardD (fun _ => ?_) (fun _ => ?_) | with_reducible refine sIf_intro (fun _ => ?_) (fun _ => ?_) | with_reducible refine sGuard_intro (fun _ => ?_) (fun _ => ?_) | with_reducible refine sCall_fn (by assumption) ?_ | with_reducible refine sDraw_seq cfgOK (by kernel_rfl) ?_ | ((first | with_reducible show W _ _ (.code _ :: _) _ _ _ | with_reducible show wRun _ _ _ _ _ _ _ _ _); refine burst ?_)))
        exact next.out _ _ q ⟨rfl, look, look, look, by rw [hsum.out]; exact look, by rw [hsum.out]; omega⟩
    · rw [List.take_of_length_le (by omega)] at hs
      (repeat' (first | with_reducible refine ends_bool ?_ | with_reducible refine ends_int ?_ | with_reducible refine ifND (fun _ => ?_) (fun _ => ?_) | with_reducible refine ifD (fun _ => ?_) (fun _ => ?_) | with_reducible refine guardND (fun _ => ?_) (fun _ => ?_) | with_reducible refine guardD (fun _ => ?_) (fun _ => ?_) | with_reducible refine sIf_intro (fun _ => ?_) (fun _ => ?_) | with_reducible refine sGuard_intro (fun _ => ?_) (fun _ => ?_) | with_reducible refine sCall_fn (by assumption) ?_ | with_reducible refine sDraw_seq cfgOK (by kernel_rfl) ?_ | ((first | with_reducible show W _ _ (.code _ :: _) _ _ _ | with_reducible show wRun _ _ _ _ _ _ _ _ _); refine burst ?_)))
      exact (decide_eq_true (hL.out.2 hs)).symm
  · have hL : Hid (¬ lightG o t) := ⟨fun h => hA h.1⟩
    replace hA := Hid.mk hA
    (repeat' (first | with_reducible refine ends_bool ?_ | with_reducible refine ends_int ?_ | with_reducible refine ifND (fun _ => ?_) (fun _ => ?_) | with_reducible refine ifD (fun _ => ?_) (fun _ => ?_) | with_reducible refine guardND (fun _ => ?_) (fun _ => ?_) | with_reducible refine guardD (fun _ => ?_) (fun _ => ?_) | with_reducible refine sIf_intro (fun _ => ?_) (fun _ => ?_) | with_reducible refine sGuard_intro (fun _ => ?_) (fun _ => ?_) | with_reducible refine sCall_fn (by assumption) ?_ | with_reducible refine sDraw_seq cfgOK (by kernel_rfl) ?_ | ((first | with_reducible show W _ _ (.code _ :: _) _ _ _ | with_reducible show wRun _ _ _ _ _ _ _ _ _); refine burst ?_)))
    all_goals first | (exact (decide_eq_false hL.out).symm) | (have := hA.out; omega)
end Go.Ev
namespace Go.Ev
open Go Go.Proofs Tryz
open TP (Str Tree Nd)
set_option maxRecDepth 100000
set_option maxHeartbeats 4000000
def lightL (l : List GOp) (c t : Nat) : Prop := l.length ≤ c ∧ ∀ o ∈ l, lightG o t
instance (l : List GOp) (c t : Nat) : Decidable (lightL l c t) := inferInstanceAs (Decidable (_ ∧ _))
theorem lightList_fn (l : List GOp) (c t : Nat) (ht : t ≤ 1048576) (hc : c ≤ 1048576) : Fn prog 26 [rowO l, .int .i64 c, .int .i64 t] (.bool (decide (lightL l c t))) := by
  refine fn_is func26 ntmps26 results26 rfl cfgOK mixed (cl3 (rowO_clean l) rfl rfl) ?_
  refine burst ?_
  refine ifD (fun h => ?_) (fun h => ?_)
  · (repeat' (first | with_reducible refine ends_bool ?_ | with_reducible refine ends_int ?_ | with_reducible refine ifND (fun _ => ?_) (fun _ => ?_) | with_reducible refine ifD (fun _ => ?_) (fun _ => ?_) | with_reducible refine guardND (fun _ => ?_) (fun _ => ?_) | with_reducible refine guardD (fun _ => ?_) (fun _ => ?_) | with_reducible refine sIf_intro (fun _ => ?_) (fun _ => ?_) | with_reducible refine sGuard_intro (fun _ => ?_) (fun _ => ?_) | with_reducible refine sCall_fn (by assumption) ?_ | with_reducible refine sDraw_seq cfgOK (by kernel_rfl) ?_ | ((first | with_reducible show W _ _ (.code _ :: _) _ _ _ | with_reducible show wRun _ _ _ _ _ _ _ _ _); refine burst ?_)))
    exact (decide_eq_false fun q => by have := q.1; omega).symm
  refine burst ?_
  refine W_for l.length (fun i tm A => A = mk [] ∧ tget tm 0 = rowO l ∧ tget tm 2 = .int .i64 t ∧ tget tm 7 = .int .i64 i ∧ Hid (∀ o ∈ l.take i, lightG o t)) ?_ 0 _ _ (by omega) ⟨rfl, look, look, look, ⟨by simp⟩⟩
  rintro i tm A hi ⟨rfl, g0, g2, g7, hf⟩ next
  refine burst ?_
  refine ifD (fun q => ?_) (fun q => ?_)
  · obtain ⟨x, e1⟩ : ∃ x, l[i]? = some x := ⟨_, get_some q⟩
    have hw := wrap_succ (Nat.le_of_lt q) (by omega)
    have k := light_fn x t ht
    simp only [vOp, opC] at k
    replace next := Hid.mk next
    (repeat' (first | with_reducible refine ends_bool ?_ | with_reducible refine ends_int ?_ | with_reducible refine ifND (fun _ => ?_) (fun _ => ?_) | with_reducible refine ifD (fun _ => ?_) (fun _ => ?_) | with_reducible refine guardND (fun _ => ?_) (fun _ => ?_) | with_reducible refine guardD (fun _ => ?_) (fun _ => ?_) | with_reducible refine sIf_intro (fun _ => ?_) (fun _ => ?_) | with_reducible refine sGuard_intro (fun _ => ?_) (fun _ => ?_) | with_reducible refine sCall_fn (by assumption) ?_ | with_reducible refine sDraw_seq cfgOK (by kernel_rfl) ?_ | ((first | with_reducible show W _ _ (.code _ :: _) _ _ _ | with_reducible show wRun _ _ _ _ _ _ _ _ _); refine burst ?_)))
    · refine (decide_eq_false fun hq => ?_).symm
      have := hq.2 x (List.mem_of_getElem? e1)
      contradiction
    · rename_i hx
      refine next.out _ _ q ⟨rfl, look, look, look, ⟨fun o ho => ?_⟩⟩
      rw [List.take_add_one, e1] at ho
      simp only [Option.toList, List.mem_append, List.mem_singleton] at ho
      rcases ho with ho | rfl
      · exact hf.out o ho
      · exact hx
  · rw [List.take_of_length_le (by omega)] at hf
    (repeat' (first | with_reducible refine ends_bool ?_ | with_reducible refine ends_int ?_ | with_reducible refine ifND (fun _ => ?_) (fun _ => ?_) | with_reducible refine ifD (fun _ => ?_) (fun _ => ?_) | with_reducible refine guardND (fun _ => ?_) (fun _ => ?_) | with_reducible refine guardD (fun _ => ?_) (fun _ => ?_) | with_reducible refine sIf_intro (fun _ => ?_) (fun _ => ?_) | with_reducible refine sGuard_intro (fun _ => ?_) (fun _ => ?_) | with_reducible refine sCall_fn (by assumption) ?_ | with_reducible refine sDraw_seq cfgOK (by kernel_rfl) ?_ | ((first | with_reducible show W _ _ (.code _ :: _) _ _ _ | with_reducible show wRun _ _ _ _ _ _ _ _ _); refine burst ?_)))
    exact (decide_eq_true ⟨by omega, hf.out⟩).symm
end Go.Ev
namespace Go.Ev
open Go
variable {P : Program} {A A' : AS} {φ φ' : Rn} {w w' : World}
theorem does_frz {f : FuncId} {args args' : List Value} {v : Value} {A B S : AS} (hf : Fn P f args' v) (hargs : FrzL S args args')
    (hp : A.pend = []) (hn : B.next = A.next) (hBp : B.pend = []) (hSp : S.pend = []) (hSn : S.next = A.next) (hB : ∀ n ab, B.h.get n = some ab → ab.live = true → A.h.get n = some ab) (hlt : ∀ n ab, B.h.get n = some ab → n < A.next)
    (hS : ∀ n ab, S.h.get n = some ab → ab.live = true → A.h.get n = some ab ∧ ∀ ab', B.h.get n = some ab' → ab'.live = false) (hSlt : ∀ n ab, S.h.get n = some ab → n < A.next) : Does P (.call f args false) A v B := by
  obtain ⟨h1, h2, h3⟩ := hf false B
  refine ⟨h1, h2, fun φ w Vs hR hk hV c cs hd => ?_⟩
  obtain ⟨RS, _⟩ := hR.less (B := S) (F' := φ.F) hSn (by rw [hp, hSp]) (fun n ab q1 q2 _ => (hS n ab q1 q2).1) hSlt (by rw [hp]; simp) (fun _ h => h) (fun _ h => .inl h)
  obtain ⟨RB, RunB⟩ := hR.less (B := B) (F' := (frzAll φ S φ).F) hn (by rw [hp, hBp]) (fun n ab q1 q2 _ => hB n ab q1 q2) hlt (by rw [hp]; simp) (fun _ h => .inl h) (fun b hb => by
    rcases hb with h | h | ⟨n, ab, q1, q2, q3⟩
    · exact .inl h
    · exact .inl h
    · exact .inr ⟨n, ab, (hS n ab q1 q2).1, q2, by rw [hp]; simp, q3, (hS n ab q1 q2).2⟩)
  have e : (⟨φ.b, φ.x, (frzAll φ S φ).F⟩ : Rn) = frzAll φ S φ := rfl
  rw [e] at RB RunB
  have hV' := hargs.rv (ψ := φ) RS hSp (fun _ _ => ⟨rfl, rfl⟩) hV
  obtain ⟨φ', w', V, q1, q2, q3, q4⟩ := h3 (frzAll φ S φ) w Vs RB (cleanL_ok hargs.cleans) hV' c cs hd
  exact ⟨φ', w', V, q1, q2, q3, RunB.trans q4⟩
theorem does_bare {f : FuncId} {args args' : List Value} {v : Value} {A : AS} (hf : Fn P f args' v) (hargs : FrzL A args args') (hp : A.pend = []) (hv : bare v = true) {d : Bool} : Does P (.call f args d) A v A := by
  obtain ⟨h1, h2, h3⟩ := hf d ⟨.nil, A.next, []⟩
  have hvk : ∀ {ok : Nat → Bool}, vok ok v = true := vok_mono (fun n h => by cases h) v hv
  refine ⟨hvk, h2, fun φ w Vs hR hk hV c cs hd => ?_⟩
  have hV' := hargs.rv (ψ := φ) hR hp (fun _ _ => ⟨rfl, rfl⟩) hV
  obtain ⟨RE, _⟩ := hR.less (B := ⟨.nil, A.next, []⟩) (F' := (frzAll φ A φ).F) rfl (by rw [hp]) (fun n ab q1 q2 _ => by simp [Trie.get] at q1) (fun n ab q1 => by simp [Trie.get] at q1) (by rw [hp]; simp) (fun _ h => .inl h) (fun b hb => by
    rcases hb with h | h | ⟨n, ab, q1, q2, q3⟩
    · exact .inl h
    · exact .inl h
    · exact .inr ⟨n, ab, q1, q2, by rw [hp]; simp, q3, fun ab' h => by simp [Trie.get] at h⟩)
  obtain ⟨φ', w', V, q1, q2, q3, hr⟩ := h3 (frzAll φ A φ) w Vs RE (cleanL_ok hargs.cleans) hV' c cs hd
  have hsame : ∀ b, b < w.heap.size → w'.heap[b]? = w.heap[b]? := fun b hb => hr.keep b hb fun n ab h => by simp [Trie.get] at h
  have ext : Ext A.ok φ w φ w' := ⟨fun _ _ => ⟨rfl, rfl⟩, fun _ h => h, fun b hb => hsame b (hR.fro b hb).1⟩
  refine ⟨φ, w', V, q1, (RV.bare v V hv).2 ((RV.bare v V hv).1 q2), ⟨fun n ab g1 g2 => ?_, hR.lt, hR.inj, hR.wf, fun b hb => ⟨Nat.lt_of_lt_of_le (hR.fro b hb).1 hr.size, (hR.fro b hb).2⟩, hR.room⟩,
    ⟨fun _ _ => ⟨rfl, rfl⟩, Nat.le_refl _, rfl, hr.size, fun b hb _ => hsame b hb, fun n ab g1 g2 g3 => .inr ⟨n, ab, g1, g2, g3, rfl⟩, fun _ _ => rfl, fun _ h => h, fun b hb => .inl hb, hr.os, hr.tape, hr.out⟩⟩
  cases hl : ab.live with
  | false => exact ABRel.dead_of hl
  | true =>
    rw [hsame _ (hR.lt_heap g1 hl g2)]
    exact (hR.obj n ab g1 g2).ext ext (hR.wf n ab g1 g2)
def sole (l : List AB) (b : Nat) : List AB := ((List.replicate l.length AB.dead).set b (l[b]?.getD .dead))
theorem sole_get {l : List AB} {b i : Nat} : (sole l b)[i]? = if i < l.length then some (if i = b then l[b]?.getD .dead else .dead) else none := by
  unfold sole
  rw [List.getElem?_set, List.length_replicate]
  by_cases h : i < l.length
  · rw [if_pos h]
    by_cases e : b = i
    · subst e; simp [h]
    · rw [if_neg e, if_neg fun h => e h.symm, List.getElem?_replicate, if_pos h]
  · rw [if_neg h]
    split
    · rename_i e; subst e; simp [h]
    · rw [List.getElem?_replicate, if_neg h]
theorem sole_len {l : List AB} {b : Nat} : (sole l b).length = l.length := by simp [sole]
theorem does_frz1 {l : List AB} {b : Nat} {f : FuncId} {args args' : List Value} {v : Value} (hl : l.length < 16777216) (hf : Fn P f args' v) (hargs : FrzL (mk (sole l b)) args args') : Does P (.call f args false) (mk l) v (mk (l.set b .dead)) := by
  have hg : ∀ {l : List AB} (n : Nat), l.length < 16777216 → (mk l).h.get n = l[n]? := fun {l} n h => mk_get _ l n rfl (by simpa using h)
  refine does_frz (S := mk (sole l b)) hf hargs (mk_pend l) (by rw [mk_next, mk_next, List.length_set]) (mk_pend _) (mk_pend _) (by rw [mk_next, mk_next, sole_len]) (fun n ab h1 h2 => ?_) (fun n ab h1 => ?_) (fun n ab h1 h2 => ?_) fun n ab h1 => ?_
  · rw [hg n (by simpa using hl), List.getElem?_set] at h1
    rw [hg n hl]
    split at h1
    · split at h1
      · cases h1; cases h2
      · cases h1
    · exact h1
  · rw [hg n (by simpa using hl)] at h1
    rw [mk_next]
    have := (List.getElem?_eq_some_iff.1 h1).1
    simpa using this
  · rw [hg n (by simpa [sole_len] using hl), sole_get] at h1
    rw [hg n hl]
    split at h1
    · rename_i hlt
      split at h1
      · rename_i e
        subst e
        have : l[n]? = some l[n] := List.getElem?_eq_getElem hlt
        rw [this] at h1 ⊢
        refine ⟨h1, fun ab' h => ?_⟩
        rw [hg n (by simpa using hl), List.getElem?_set, if_pos rfl, if_pos hlt] at h
        cases h; rfl
      · cases h1; cases h2
    · cases h1
  · rw [hg n (by simpa [sole_len] using hl)] at h1
    rw [mk_next]
    have := (List.getElem?_eq_some_iff.1 h1).1
    simpa [sole_len] using this
theorem does_bareL {l : List AB} {f : FuncId} {args args' : List Value} {v : Value} (hf : Fn P f args' v) (hargs : FrzL (mk l) args args') (hv : bare v = true) {d : Bool} : Does P (.call f args d) (mk l) v (mk l) := does_bare hf hargs (mk_pend l) hv
end Go.Ev
namespace Go.Ev
open Go Go.Proofs Tryz
variable {P : Program} {c : Bool} {ns : Nat} {ops rest : List Oper} {k : List Item} {tm : Trie Value} {A : AS} {Q R : Trie Value → AS → Prop} {dst : Option Tmp}
def plainC : Code → Bool
  | .seq a b => plainC a && plainC b
  | .cond _ a b => plainC a && plainC b
  | .block _ b => plainC b
  | .scope b => plainC b
  | .skip => true
  | .label _ => true
  | .region _ _ _ => true
  | _ => false
def plainI : Item → Bool
  | .code c => plainC c
  | .inBlock _ => true
  | .inScope _ => true
  | _ => false
theorem Wn_app (h : ∀ tm A, R tm A → W P ns k tm A Q) : ∀ (n : Nat) (todo : List Item) (tm : Trie Value) (A : AS), todo.all plainI = true → Wn P ns n todo tm A R → W P ns (todo ++ k) tm A Q
  | 0, _, _, _, _, hw => hw.elim
  | n + 1, [], tm, A, _, hw => h _ _ hw
  | n + 1, it :: todo, tm, A, hp, hw => by
    simp only [List.all_cons, Bool.and_eq_true] at hp
    obtain ⟨hit, hp⟩ := hp
    have ih := Wn_app h n
    cases it with
    | code cd =>
      cases cd with
      | skip => rw [List.cons_append, W_skip]; exact ih _ _ _ hp hw
      | label l => rw [List.cons_append, W_label]; exact ih _ _ _ hp hw
      | seq a b =>
        simp only [plainI, plainC, Bool.and_eq_true] at hit
        rw [List.cons_append, W_seq]
        exact ih (.code a :: .code b :: todo) _ _ (by simp [plainI, hit, hp]) hw
      | cond q a b =>
        simp only [plainI, plainC, Bool.and_eq_true] at hit
        rw [List.cons_append, W_cond]
        simp only [Wn] at hw
        split at hw
        · rename_i t ht
          rw [ht]
          cases t with
          | true => exact ih (.code a :: todo) _ _ (by simp [plainI, hit, hp]) hw
          | false => exact ih (.code b :: todo) _ _ (by simp [plainI, hit, hp]) hw
        · exact hw.elim
      | block id b =>
        simp only [plainI, plainC] at hit
        rw [List.cons_append, W_block]
        exact ih (.code b :: .inBlock id :: todo) _ _ (by simp [plainI, hit, hp]) hw
      | scope b =>
        simp only [plainI, plainC] at hit
        rw [List.cons_append, W_scope]
        exact ih (.code b :: .inScope b :: todo) _ _ (by simp [plainI, hit, hp]) hw
      | region id ops draw =>
        simp only [Wn] at hw
        cases draw with
        | true =>
          rw [if_pos rfl] at hw
          obtain ⟨rcs, tm', A', h1, h2, h3⟩ := hw
          rw [List.cons_append, W_draw]
          exact ⟨rcs, tm', A', h1, ih _ _ _ hp h2, h3⟩
        | false =>
          rw [if_neg (by simp)] at hw
          rw [List.cons_append, W_region]
          exact wOps_mono (fun tm' A' h2 => ih _ _ _ hp h2) _ _ _ hw
      | _ => simp [plainI, plainC] at hit
    | inBlock id => rw [List.cons_append, W_inBlock]; exact ih _ _ _ hp hw
    | inScope b => rw [List.cons_append, W_inScope]; exact ih _ _ _ hp hw
    | _ => simp [plainI] at hit
theorem if_cut {t : Bool} {a b : Code} (R : Trie Value → AS → Prop) (hp : (plainC a && plainC b) = true) (h : ∀ S, Sub R S → sIf P ns t a b [] tm A S) (h2 : ∀ tm' A', R tm' A' → W P ns k tm' A' Q) : sIf P ns t a b k tm A Q := by
  have h := h R ⟨id⟩
  rw [Bool.and_eq_true] at hp
  cases t with
  | true =>
    rw [sIf_true] at h ⊢
    obtain ⟨n, hn⟩ := h
    exact Wn_app h2 n [.code a] tm A (by simp [plainI, hp.1]) hn
  | false =>
    rw [sIf_false] at h ⊢
    obtain ⟨n, hn⟩ := h
    exact Wn_app h2 n [.code b] tm A (by simp [plainI, hp.2]) hn
theorem sCall_frz {l : List AB} (b : Nat) {g : FuncId} {args args' : List Value} {v : Value} (hl : l.length < 16777216) (h : Fn P g args' v) (ha : FrzL (mk (sole l b)) args args') (hK : wRun P false ns ops rest k (putD ns tm dst v) (mk (l.set b .dead)) Q) :
    sCall P false ns (.func (.func g) #[] #[]) args dst ops rest k tm (mk l) Q := sCall_does (does_frz1 hl h ha) hK
theorem sCall_bare {l : List AB} {g : FuncId} {args args' : List Value} {v : Value} (h : Fn P g args' v) (ha : FrzL (mk l) args args') (hv : bare v = true) (hK : wRun P c ns ops rest k (putD ns tm dst v) (mk l) Q) :
    sCall P c ns (.func (.func g) #[] #[]) args dst ops rest k tm (mk l) Q := by
  unfold sCall wCall
  refine ⟨v, mk l, ?_, fun _ => rfl, hK⟩
  simpa using does_bareL h ha hv
theorem sCall_nil {l : List AB} {g : FuncId} {args args' : List Value} {v : Value} (hl : l.length < 16777216) (h : Fn P g args' v) (ha : FrzL ⟨.nil, (mk l).next, []⟩ args args') (hK : wRun P c ns ops rest k (putD ns tm dst v) (mk l) Q) :
    sCall P c ns (.func (.func g) #[] #[]) args dst ops rest k tm (mk l) Q := by
  unfold sCall wCall
  refine ⟨v, mk l, ?_, fun _ => rfl, hK⟩
  have hd := does_frz (A := mk l) (B := mk l) (S := ⟨.nil, (mk l).next, []⟩) h ha (mk_pend l) rfl (mk_pend l) rfl rfl (fun n ab h1 _ => h1) (fun n ab h1 => ?_) (fun n ab h1 => by simp [Trie.get] at h1) (fun n ab h1 => by simp [Trie.get] at h1)
  · simpa using hd
  · rw [mk_get _ l n rfl (by simpa using hl)] at h1
    rw [mk_next]
    exact (List.getElem?_eq_some_iff.1 h1).1
end Go.Ev
namespace Go.Ev
open Go Go.Proofs Tryz
open TP (Str Tree Nd)
theorem bN.mono {K L K' L' : Nat} (hK : K ≤ K') (hL : L ≤ L') {d : Nd} (h : bN K L d) : bN K' L' d :=
  ⟨by have := h.1; omega, by have := h.2.1; omega, by have := h.2.2.1; omega, fun a ha => ⟨by have := (h.2.2.2 a ha).1; omega, by have := (h.2.2.2 a ha).2; omega⟩⟩
theorem bT.mono {K L K' L' : Nat} (hK : K ≤ K') (hL : L ≤ L') {T : Tree Nd} (h : bT K L T) : bT K' L' T := by
  induction h with
  | mk hd hk _ ih => exact .mk (hd.mono hK hL) (by omega) ih
theorem bT.upd {K L K' L' : Nat} (hK : K ≤ K') (hL : L ≤ L') {f : Tree Nd → Tree Nd} : ∀ {p : List Nat} {T : Tree Nd}, bT K L T → (∀ Z, TP.at? p T = some Z → bT K' L' (f Z)) → bT K' L' (TP.upd f p T)
  | [], T, h, hf => hf T rfl
  | i :: p, T, h, hf => by
    refine .mk (h.d.mono hK hL) ?_ ?_
    · show (T.kids.modify i _).length ≤ K'
      rw [List.length_modify]; have := h.len; omega
    · intro k hk
      obtain ⟨n, hn⟩ := List.getElem?_of_mem hk
      have hn : (T.kids.modify i (TP.upd f p))[n]? = some k := hn
      rw [List.getElem?_modify] at hn
      cases hy : T.kids[n]? with
      | none => rw [hy] at hn; simp at hn
      | some y =>
        rw [hy] at hn
        have hb := h.kid y (List.mem_of_getElem? hy)
        by_cases e : i = n
        · subst e
          simp at hn
          subst hn
          exact hb.upd hK hL fun Z hZ => hf Z (by simp only [TP.at?, hy, Option.bind_some]; exact hZ)
        · simp [e] at hn
          subst hn
          exact hb.mono hK hL
theorem bT.ins {K L L' g : Nat} (hL : L ≤ L') {X T : Tree Nd} {p : List Nat} (hT : bT K L T) (hX : bT (K + 1) L' X) : bT (K + 1) L' (TP.upd (TP.insK g X) p T) := by
  refine hT.upd (by omega) hL fun Z hZ => ?_
  have hz := hT.at hZ
  refine .mk (hz.d.mono (by omega) hL) ?_ ?_
  · show (Z.kids.take g ++ X :: Z.kids.drop g).length ≤ K + 1
    have := hz.len
    simp; omega
  · intro k hk
    have hk : k ∈ Z.kids.take g ++ X :: Z.kids.drop g := hk
    rcases List.mem_append.1 hk with h | h
    · exact (hz.kid k (List.mem_of_mem_take h)).mono (by omega) hL
    · rcases List.mem_cons.1 h with rfl | h
      · exact hX
      · exact (hz.kid k (List.mem_of_mem_drop h)).mono (by omega) hL
theorem bT.del {K L c : Nat} {T : Tree Nd} {p : List Nat} (hT : bT K L T) : bT K L (TP.upd (TP.delK c) p T) := by
  refine hT.upd (Nat.le_refl _) (Nat.le_refl _) fun Z hZ => ?_
  have hz := hT.at hZ
  refine .mk hz.d ?_ fun k hk => hz.kid k (List.mem_of_mem_eraseIdx hk)
  show (Z.kids.eraseIdx c).length ≤ K
  have := hz.len
  have := List.length_eraseIdx_le Z.kids c
  omega
theorem edit_len (l : List TP.Piece) (t : Str) : (TP.edit l t).length ≤ t.length + (l.map fun p => p.put.length).sum := by
  induction l generalizing t with
  | nil => simp [TP.edit_nil]
  | cons p l ih =>
    have := ih (t.drop (p.keep + p.drop))
    rw [TP.edit_cons]
    simp only [List.length_append, List.length_take, List.length_drop, List.map_cons, List.sum_cons] at *
    omega
theorem setA_len {k : Str} {o : Option Str} : ∀ l : TP.Attrs, (TP.setA k o l).length ≤ l.length + 1
  | [] => by cases o <;> simp [TP.setA]
  | a :: l => by
    have := setA_len (k := k) (o := o) l
    rw [TP.setA]
    split
    · simp; omega
    · split <;> cases o <;> simp <;> omega
def absO (o : GOp) : TP.Op Nd TP.Dop :=
  if o.kind = 1 then .ins (toN o.path) o.at_.toNat ⟨o.id, o.leaf, o.label, [], []⟩
  else if o.kind = 2 then .del (toN o.path)
  else if o.kind = 3 then .mov (toN o.path) (toN o.to) o.at_.toNat
  else if o.kind = 4 then .dat (toN o.path) (.set o.key (if o.gone = true then none else some o.value))
  else if o.kind = 5 then .dat (toN o.path) (.rel o.label)
  else .dat (toN o.path) (.edt (o.pieces.map toP))
theorem formP_of {p : List Int} (h : mayP p) : TP.FormP (toN p) := ⟨by simpa [toN] using h.1, fun n hn => by
  obtain ⟨x, hx, rfl⟩ := List.mem_map.1 hn
  have := h.2 x hx; omega⟩
theorem rightP_of {l : List GPiece} (h : rightG l) : TP.RightP (l.map toP) := ⟨by simpa using h.1, fun p hp => by
  obtain ⟨x, hx, rfl⟩ := List.mem_map.1 hp
  have := h.2.1 x hx
  exact ⟨by show x.keep.toNat ≤ _; omega, by show x.drop.toNat ≤ _; omega⟩, by
  have := h.2.2
  rw [List.map_map]
  exact this⟩
theorem form_abs {o : GOp} (h : formG o) : TP.Form (absO o) := by
  obtain ⟨hp, hk⟩ := h
  unfold formK at hk
  unfold absO
  split
  · rw [if_pos (by assumption)] at hk
    exact ⟨formP_of hp, by have := hk.1.2; omega, hk.2, rfl, rfl⟩
  rw [if_neg (by assumption)] at hk
  split
  · exact formP_of hp
  rw [if_neg (by assumption)] at hk
  split
  · rw [if_pos (by assumption)] at hk
    exact ⟨formP_of hp, formP_of hk.2, by have := hk.1.2; omega⟩
  rw [if_neg (by assumption)] at hk
  split
  · rw [if_pos (by assumption)] at hk
    refine ⟨formP_of hp, hk.1.1, hk.1.2, fun v hv => ?_⟩
    split at hv
    · cases hv
    · cases hv
      rcases hk.2 with h | h
      · contradiction
      · exact h
  rw [if_neg (by assumption)] at hk
  split
  · rw [if_pos (by assumption)] at hk
    exact ⟨formP_of hp, hk⟩
  rw [if_neg (by assumption)] at hk
  split at hk
  · exact ⟨formP_of hp, rightP_of hk⟩
  · exact hk.elim
theorem toN_prefix {p q : List Int} (hp : ∀ x ∈ p, 0 ≤ x) (hq : ∀ x ∈ q, 0 ≤ x) : toN p <+: toN q ↔ p <+: q := by
  induction p generalizing q with
  | nil => simp [toN]
  | cons a p ih =>
    cases q with
    | nil => simp [toN]
    | cons b q =>
      have := ih (q := q) (fun x hx => hp x (by simp [hx])) (fun x hx => hq x (by simp [hx]))
      unfold toN at *
      rw [List.map_cons, List.map_cons, List.cons_prefix_cons, List.cons_prefix_cons, this]
      have h1 := hp a (by simp)
      have h2 := hq b (by simp)
      constructor
      · rintro ⟨e, h⟩; exact ⟨by omega, h⟩
      · rintro ⟨rfl, h⟩; exact ⟨rfl, h⟩
theorem toN_inj {p q : List Int} (hp : ∀ x ∈ p, 0 ≤ x) (hq : ∀ x ∈ q, 0 ≤ x) (h : toN p = toN q) : p = q := by
  have h1 := (toN_prefix hp hq).1 (by rw [h]; exact List.prefix_refl _)
  have h2 := (toN_prefix hq hp).1 (by rw [h]; exact List.prefix_refl _)
  exact h1.eq_of_length_le h2.length_le
theorem mayP.nn {p : List Int} (h : mayP p) : ∀ x ∈ p, 0 ≤ x := fun x hx => (h.2 x hx).1
theorem toN_nil {p : List Int} : toN p = [] ↔ p = [] := by simp [toN]
theorem into_zero {Z : Tree Nd} {g : Int} (_ : 0 ≤ g) : intoG Z g = 0 ↔ Z.d.leaf = false ∧ g.toNat ≤ Z.kids.length := by
  unfold intoG
  split
  · simp_all
  · split
    · rename_i h; simp; intro _; omega
    · rename_i h h2; simp; exact ⟨by simpa using h, by omega⟩
theorem val_zero {T : Tree Nd} {o : GOp} : valG T o = 0 ↔ TP.RightT T ∧ formG o ∧ ∃ T', TP.Ap TP.E0.toData T (absO o) T' := by
  unfold valG
  by_cases h1 : TP.RightT T
  case neg => rw [if_pos h1]; simp [h1]
  rw [if_neg (by simpa using h1)]
  by_cases h2 : formG o
  case neg => rw [if_pos h2]; simp [h2]
  rw [if_neg (by simpa using h2)]
  simp only [h1, h2, true_and]
  have hnn := h2.1.nn
  have hk := h2.2
  unfold formK at hk
  by_cases k1 : o.kind = 1
  · rw [if_pos k1] at hk
    rw [if_neg (by omega)]
    unfold absO
    rw [if_pos k1]
    simp only [k1, if_true]
    cases hx : TP.at? (toN o.path) T with
    | none =>
      simp only
      refine ⟨fun h => by simp at h, fun ⟨T', h⟩ => ?_⟩
      cases h with | ins hZ _ _ => rw [hx] at hZ; cases hZ
    | some x =>
      simp only
      rw [into_zero hk.1.1]
      refine ⟨fun h => ⟨_, .ins hx h.1 h.2⟩, fun ⟨T', h⟩ => ?_⟩
      cases h with | ins hZ q1 q2 => rw [hx] at hZ; cases hZ; exact ⟨q1, q2⟩
  rw [if_neg k1] at hk
  by_cases k2 : o.kind = 2
  · unfold absO
    rw [if_neg k1, if_pos k2]
    by_cases hr : o.path = []
    · rw [if_pos ⟨.inl k2, hr⟩, hr]
      refine ⟨fun h => by simp at h, fun ⟨T', h⟩ => ?_⟩
      generalize hq : toN [] = q at h
      cases h with | del _ => simp [toN] at hq
    · rw [if_neg (fun h => hr h.2)]
      have hne : toN o.path ≠ [] := fun h => hr (toN_nil.1 h)
      cases hx : TP.at? (toN o.path) T with
      | none =>
        simp only
        refine ⟨fun h => by simp at h, fun ⟨T', h⟩ => ?_⟩
        generalize hq : toN o.path = q at h hx
        cases h with | del hU => rw [hx] at hU; cases hU
      | some x =>
        simp only [if_neg k1, if_neg (show ¬ o.kind = 3 by omega), if_neg (show ¬ o.kind = 6 by omega)]
        refine ⟨fun _ => ?_, fun _ => trivial⟩
        rw [TP.snoc_of_ne hne] at hx ⊢
        exact ⟨_, .del hx⟩
  rw [if_neg k2] at hk
  by_cases k3 : o.kind = 3
  · rw [if_pos k3] at hk
    have hnt := hk.2.nn
    unfold absO
    rw [if_neg k1, if_neg k2, if_pos k3]
    by_cases hr : o.path = []
    · rw [if_pos ⟨.inr k3, hr⟩, hr]
      refine ⟨fun h => by simp at h, fun ⟨T', h⟩ => ?_⟩
      generalize hq : toN [] = q at h
      cases h with | mov _ _ _ _ _ => simp [toN] at hq
    · rw [if_neg (fun h => hr h.2)]
      have hne : toN o.path ≠ [] := fun h => hr (toN_nil.1 h)
      have hpre := toN_prefix hnn hnt
      simp only [if_neg k1, if_pos k3]
      generalize toN o.path = q at *
      generalize toN o.to = t at *
      rw [TP.snoc_of_ne hne] at hpre ⊢
      generalize TP.up q = P at *
      generalize TP.last q = c at *
      cases hx : TP.at? (P ++ [c]) T with
      | none =>
        simp only
        refine ⟨fun h => by simp at h, fun ⟨T', h⟩ => ?_⟩
        generalize hq : P ++ [c] = q' at h hx
        cases h with | mov hU _ _ _ _ => rw [hx] at hU; cases hU
      | some x =>
        simp only
        by_cases hw : o.path <+: o.to
        · rw [if_pos hw]
          refine ⟨fun h => by simp at h, fun ⟨T', h⟩ => ?_⟩
          generalize hq : P ++ [c] = q' at h hpre
          cases h with | mov _ hn _ _ _ => exact absurd (hpre.2 hw) hn
        · rw [if_neg hw]
          cases hy : TP.at? t T with
          | none =>
            simp only
            refine ⟨fun h => by simp at h, fun ⟨T', h⟩ => ?_⟩
            generalize hq : P ++ [c] = q' at h
            cases h with | mov _ _ hZ _ _ => rw [hy] at hZ; cases hZ
          | some y =>
            simp only
            rw [into_zero hk.1.1]
            refine ⟨fun h => ⟨_, .mov hx (fun h' => hw (hpre.1 h')) hy h.1 h.2⟩, fun ⟨T', h⟩ => ?_⟩
            generalize hq : P ++ [c] = q' at h
            cases h with | mov _ _ hZ q1 q2 => rw [hy] at hZ; cases hZ; exact ⟨q1, q2⟩
  rw [if_neg k3] at hk
  rw [if_neg (by omega)]
  unfold absO
  rw [if_neg k1, if_neg k2, if_neg k3]
  by_cases k4 : o.kind = 4
  · rw [if_pos k4]
    simp only [if_neg k1, if_neg k3, if_neg (show ¬ o.kind = 6 by omega)]
    cases hx : TP.at? (toN o.path) T with
    | none =>
      simp only
      refine ⟨fun h => by simp at h, fun ⟨T', h⟩ => ?_⟩
      cases h with | dat hZ _ => rw [hx] at hZ; cases hZ
    | some x =>
      simp only
      refine ⟨fun _ => ⟨_, .dat hx ?_⟩, fun _ => trivial⟩
      exact (h1.2 _ _ hx).1.2.2.1
  rw [if_neg k4] at hk ⊢
  by_cases k5 : o.kind = 5
  · rw [if_pos k5]
    simp only [if_neg k1, if_neg k3, if_neg (show ¬ o.kind = 6 by omega)]
    cases hx : TP.at? (toN o.path) T with
    | none =>
      simp only
      refine ⟨fun h => by simp at h, fun ⟨T', h⟩ => ?_⟩
      cases h with | dat hZ _ => rw [hx] at hZ; cases hZ
    | some x =>
      simp only
      exact ⟨fun _ => ⟨_, .dat hx trivial⟩, fun _ => trivial⟩
  rw [if_neg k5] at hk ⊢
  by_cases k6 : o.kind = 6
  · rw [if_pos k6] at hk
    simp only [if_neg k1, if_neg k3, if_pos k6]
    cases hx : TP.at? (toN o.path) T with
    | none =>
      simp only
      refine ⟨fun h => by simp at h, fun ⟨T', h⟩ => ?_⟩
      cases h with | dat hZ _ => rw [hx] at hZ; cases hZ
    | some x =>
      simp only
      by_cases hl : x.d.leaf = false
      · rw [if_pos hl]
        refine ⟨fun h => by simp at h, fun ⟨T', h⟩ => ?_⟩
        cases h with | dat hZ q => rw [hx] at hZ; cases hZ; have := q.1; rw [hl] at this; cases this
      · rw [if_neg hl]
        unfold app5
        rw [if_pos hk]
        by_cases he : TP.ext (o.pieces.map toP) ≤ x.d.text.length
        · rw [if_pos he]
          exact ⟨fun _ => ⟨_, .dat hx ⟨by simpa using hl, he⟩⟩, fun _ => rfl⟩
        · rw [if_neg he]
          refine ⟨fun h => by simp at h, fun ⟨T', h⟩ => ?_⟩
          cases h with | dat hZ q => rw [hx] at hZ; cases hZ; exact absurd q.2 he
  · rw [if_neg k6] at hk; exact hk.elim
theorem bT.ap {K L : Nat} {T T' : Tree Nd} {o : TP.Op Nd TP.Dop} (hT : bT K L T) (hf : TP.Form o) (h : TP.Ap TP.E0.toData T o T') : bT (K + 1) (L + 1048576) T' := by
  cases h with
  | ins hZ hl hg =>
    refine hT.ins (by omega) (.mk ⟨?_, ?_, ?_, ?_⟩ (by simp) (by simp))
    · show _ ≤ _; rw [Tree.d_mk, hf.2.2.2.1]; simp
    · rw [Tree.d_mk, hf.2.2.2.2]; simp
    · rw [Tree.d_mk]; have := hf.2.2.1; omega
    · rw [Tree.d_mk, hf.2.2.2.1]; simp
  | del hU => exact (hT.del).mono (by omega) (by omega)
  | mov hU hn hZ hl hg => exact (hT.del).ins (by omega) ((hT.at hU).mono (by omega) (by omega))
  | @dat p e Z hZ ho =>
    refine hT.upd (by omega) (by omega) fun Z' hZ' => ?_
    have hz := hT.at hZ'
    rw [hZ] at hZ'; cases hZ'
    refine .mk ?_ (by have := hz.len; show Z.kids.length ≤ _; omega) fun k hk => (hz.kid k hk).mono (by omega) (by omega)
    have hd := hz.d
    show bN _ _ (TP.dapp e Z.d)
    cases e with
    | set k o =>
      refine ⟨?_, by have := hd.2.1; show Z.d.text.length ≤ _; omega, by have := hd.2.2.1; show Z.d.label.length ≤ _; omega, fun a ha => ?_⟩
      · have := setA_len (k := k) (o := o) Z.d.attrs
        have := hd.1
        show (TP.setA k o Z.d.attrs).length ≤ _
        omega
      · rcases TP.mem_setA ha with ⟨v, hv, rfl⟩ | ha
        · exact ⟨by have := hf.2.2.1; show k.length ≤ _; omega, by have := hf.2.2.2 v hv; show v.length ≤ _; omega⟩
        · exact ⟨by have := (hd.2.2.2 a ha).1; omega, by have := (hd.2.2.2 a ha).2; omega⟩
    | rel l => exact ⟨by have := hd.1; show Z.d.attrs.length ≤ _; omega, by have := hd.2.1; show Z.d.text.length ≤ _; omega, by have := hf.2; show l.length ≤ _; omega, (hd.mono (K' := K + 1) (L' := L + 1048576) (by omega) (by omega)).2.2.2⟩
    | edt l =>
      refine ⟨by have := hd.1; show Z.d.attrs.length ≤ _; omega, ?_, by have := hd.2.2.1; show Z.d.label.length ≤ _; omega, (hd.mono (K' := K + 1) (L' := L + 1048576) (by omega) (by omega)).2.2.2⟩
      show (TP.edit l Z.d.text).length ≤ _
      have := edit_len l Z.d.text
      have := hd.2.1
      have := hf.2.2.2
      omega
end Go.Ev
namespace Go.Ev
open Go Go.Proofs Tryz
open TP (Str Tree Nd)
set_option maxRecDepth 100000
set_option maxHeartbeats 4000000
theorem Acc.add23 {B l : List AB} {v : Value} {n : Nat} {cs : List Value} (h : Acc 61 2 B l v n cs) (a : Str × Str) (hl : l.length + 3 < 16777216) (hb : n + 1 ≤ 16777216) :
    ∃ v' l', aappend prog (Ev.mk (l ++ [AB.cells [.string (bs a.1), .string (bs a.2)] 61 (0, 0)])) #[23, 23] [v, .slice (some ⟨l.length, 0, none⟩) 1 1] = some (v', Ev.mk l') ∧ Acc 61 2 B l' v' (n + 1) (cs ++ attrC a) ∧ l'.length ≤ l.length + 2 := by
  have n1 : News prog (l ++ [AB.cells (attrC a) 61 (0, 0)]) 61 2 false (.slice (some ⟨l.length, 0, none⟩) 1 1) (attrC a) 1 := news_arr (fz := (0, 0)) (e := 61) (cs := attrC a) (by simp; omega) (by simp) rfl rfl
  obtain ⟨v', l', e, o, g⟩ := (h.more (AB.cells (attrC a) 61 (0, 0))).app23 n1 (by simp; omega) hb
  exact ⟨v', l', e, o, by simp at g; omega⟩
def attrN (T : Tree Nd) (k v : Str) (gone : Bool) : Tree Nd := .mk { T.d with attrs := TP.attrE k v (TP.attrF k v gone T.d.attrs) } T.kids
def attrB (T : Tree Nd) (o : GOp) : List AB := [AB.cells (nodeL T) 26 (0, 0), AB.cells (opC o) 67 (0, 0), AB.cells zeroL 26 (0, 0)]
theorem nodeA_frz {A : AS} {T : Tree Nd} {l : TP.Attrs} {v : Value} (h : Frz A v (rowA l)) : Frz A (tupleOf [.agg #[.int .u64 T.d.id, .bool T.d.leaf, .string (bs T.d.label), v, .string (bs T.d.text), rowK T.kids]]) (vNode (.mk { T.d with attrs := l } T.kids)) := by
  rw [tup_one, vNode, nodeC_eq]
  exact .agg (.cons (.clean rfl) (.cons (.clean rfl) (.cons (.clean rfl) (.cons h (.cons (.clean rfl) (.cons (.clean (rowK_clean _)) (.clean rfl)))))))
theorem attr_fn (T : Tree Nd) (o : GOp) (hk : T.d.attrs.length ≤ 2097152) : Fn prog 75 [vNode T, vOp o] (vNode (attrN T o.key o.value o.gone)) := by
  refine fn_is func75 ntmps75 results75 rfl cfgOK mixed (cl2 (nodeC_clean T) (vOp_clean o)) ?_
  have hb : (attrB T o).length = 3 := rfl
  refine burst ?_
  refine W_for T.d.attrs.length (fun i tm A => ∃ l a c r, A = mk l ∧ tget tm 2 = .pointer (some ⟨0, 0, none⟩) ∧ tget tm 3 = .pointer (some ⟨1, 0, none⟩) ∧ tget tm 4 = .pointer (some ⟨2, 0, none⟩) ∧ tget tm 5 = .slice a r.1.length c ∧ tget tm 6 = .bool r.2 ∧ tget tm 7 = .int .i64 i ∧
    Hid (r = (T.d.attrs.take i).foldl (TP.attrS o.key o.value) ([], o.gone)) ∧ Hid (Acc 61 2 (attrB T o) l (.slice a r.1.length c) r.1.length (r.1.flatMap attrC)) ∧ r.1.length ≤ 2 * i ∧ l.length ≤ 3 + 4 * i) ?_ 0 _ _ (by omega)
    ⟨attrB T o, none, 0, ([], o.gone), by rfl, look, look, look, look, look, look, ⟨rfl⟩, ⟨.nil⟩, by simp, by simp [hb]⟩
  rintro i tm A hi ⟨l, a, c, r, rfl, h2, h3, h4, h5, h6, h7, hr, ho, hn, hl⟩ next
  replace next := Hid.mk next
  have f0 : l[0]? = some (AB.cells (nodeL T) 26 (0, 0)) := ho.out.base 0 (by rw [hb]; omega)
  have f1 : l[1]? = some (AB.cells (opC o) 67 (0, 0)) := ho.out.base 1 (by rw [hb]; omega)
  have f2 : l[2]? = some (AB.cells zeroL 26 (0, 0)) := ho.out.base 2 (by rw [hb]; omega)
  have hl1 : l.length < 16777216 := by omega
  have hl2 : l.length + 2 < 16777216 := by omega
  simp only [nodeL, opC, zeroL] at f0 f1 f2
  refine burst ?_
  refine ifD (fun q => ?_) (fun q => ?_)
  · obtain ⟨x, e1⟩ : ∃ x, T.d.attrs[i]? = some x := ⟨_, get_some q⟩
    have hw := wrap_succ (Nat.le_of_lt q) (by omega)
    obtain ⟨rl, rd⟩ := r
    simp only at h5 h6 hn
    refine burst ?_
    refine sDraw_seq cfgOK (by kernel_rfl) ?_
    refine burst ?_
    refine guard_cut (fun tm A => A = mk l ∧ tget tm 2 = .pointer (some ⟨0, 0, none⟩) ∧ tget tm 3 = .pointer (some ⟨1, 0, none⟩) ∧ tget tm 4 = .pointer (some ⟨2, 0, none⟩) ∧ tget tm 5 = .slice a rl.length c ∧ tget tm 6 = .bool rd ∧ tget tm 7 = .int .i64 i ∧ tget tm 29 = .bool (decide (rd = false ∧ TP.blt x.1 o.key = false))) ?_ ?_
    · intro S hS
      (repeat' (first | with_reducible refine ends_bool ?_ | with_reducible refine ends_int ?_ | with_reducible refine ifND (fun _ => ?_) (fun _ => ?_) | with_reducible refine ifD (fun _ => ?_) (fun _ => ?_) | with_reducible refine guardND (fun _ => ?_) (fun _ => ?_) | with_reducible refine guardD (fun _ => ?_) (fun _ => ?_) | with_reducible refine sIf_intro (fun _ => ?_) (fun _ => ?_) | with_reducible refine sGuard_intro (fun _ => ?_) (fun _ => ?_) | with_reducible refine sCall_fn (by assumption) ?_ | with_reducible refine sDraw_seq cfgOK (by kernel_rfl) ?_ | ((first | with_reducible show W _ _ (.code _ :: _) _ _ _ | with_reducible show wRun _ _ _ _ _ _ _ _ _); refine burst ?_)))
      all_goals refine hS.to ⟨rfl, look, look, look, look, look, look, ?_⟩
      all_goals refine Eq.trans look ?_
      all_goals rw [Value.bool.injEq]
      all_goals simp_all
    clear h2 h3 h4 h5 h6 h7
    rintro tm A ⟨rfl, h2, h3, h4, h5, h6, h7, h29⟩
    refine burst ?_
    refine if_cut (fun tm A => ∃ l a c rl' rd', A = mk l ∧ tget tm 2 = .pointer (some ⟨0, 0, none⟩) ∧ tget tm 3 = .pointer (some ⟨1, 0, none⟩) ∧ tget tm 4 = .pointer (some ⟨2, 0, none⟩) ∧ tget tm 5 = .slice a rl'.length c ∧ tget tm 6 = .bool rd' ∧ tget tm 7 = .int .i64 i ∧
      Hid ((rl', rd') = if rd = false ∧ TP.blt x.1 o.key = false then (rl ++ [(o.key, o.value)], true) else (rl, rd)) ∧ Hid (Acc 61 2 (attrB T o) l (.slice a rl'.length c) rl'.length (rl'.flatMap attrC)) ∧ rl'.length ≤ 2 * i + 1 ∧ l.length ≤ 5 + 4 * i) (by kernel_rfl) ?_ ?_
    · intro S hS
      refine ifD (fun g => ?_) (fun g => ?_)
      · obtain ⟨v', l', e, o', g'⟩ := ho.out.add23 (o.key, o.value) (by omega) (by simp only; omega)
        obtain ⟨a', c', hv⟩ := o'.own.slice
        subst hv
        simp only at e o'
        refine burst ?_
        refine hS.to ⟨l', a', c', rl ++ [(o.key, o.value)], true, rfl, look, look, look, ?_, look, look, ⟨by rw [if_pos g]⟩, ⟨?_⟩, by simp; omega, by omega⟩
        · simp only [List.length_append, List.length_cons, List.length_nil]; exact look
        · simp only [List.length_append, List.length_cons, List.length_nil, List.flatMap_append, List.flatMap_cons, List.flatMap_nil, List.append_nil]; exact o'
      · refine burst ?_
        exact hS.to ⟨l, a, c, rl, rd, rfl, look, look, look, look, look, look, ⟨by rw [if_neg g]⟩, ho, by omega, by omega⟩
    clear h2 h3 h4 h5 h6 h7 h29 f0 f1 f2 hl1 hl2 ho hn hl
    rintro tm A ⟨l, a, c, rl', rd', rfl, h2, h3, h4, h5, h6, h7, hr', ho, hn, hl⟩
    have f0 : l[0]? = some (AB.cells (nodeL T) 26 (0, 0)) := ho.out.base 0 (by rw [hb]; omega)
    have f1 : l[1]? = some (AB.cells (opC o) 67 (0, 0)) := ho.out.base 1 (by rw [hb]; omega)
    have f2 : l[2]? = some (AB.cells zeroL 26 (0, 0)) := ho.out.base 2 (by rw [hb]; omega)
    have hl1 : l.length < 16777216 := by omega
    have hl2 : l.length + 2 < 16777216 := by omega
    simp only [nodeL, opC, zeroL] at f0 f1 f2
    refine burst ?_
    refine sDraw_seq cfgOK (by kernel_rfl) ?_
    refine burst ?_
    have hstep : ((T.d.attrs.take (i + 1)).foldl (TP.attrS o.key o.value) ([], o.gone)) = (if x.1 = o.key then rl' else rl' ++ [x], rd') := by
      rw [List.take_add_one, e1]
      simp only [Option.toList, List.foldl_append, List.foldl_cons, List.foldl_nil]
      rw [← hr.out]
      have := hr'.out
      simp only [TP.attrS]
      by_cases hh : rd = false ∧ TP.blt x.1 o.key = false
      · rw [if_pos hh] at this; cases this; simp [hh]
      · rw [if_neg hh] at this; cases this; simp [hh]
    replace hstep := Hid.mk hstep
    refine ifND (fun g => ?_) (fun g => ?_)
    · obtain ⟨v', l', e, o', g'⟩ := ho.out.add23 x (by omega) (by omega)
      obtain ⟨a', c', hv⟩ := o'.own.slice
      subst hv
      refine burst ?_
      refine next.out _ _ q ⟨l', a', c', (rl' ++ [x], rd'), rfl, look, look, look, ?_, look, look, ⟨by rw [hstep.out, if_neg g]⟩, ⟨?_⟩, by simp; omega, by omega⟩
      · simp only [List.length_append, List.length_cons, List.length_nil]; exact look
      · simp only [List.length_append, List.length_cons, List.length_nil, List.flatMap_append, List.flatMap_cons, List.flatMap_nil, List.append_nil]; exact o'
    · refine burst ?_
      exact next.out _ _ q ⟨l, a, c, (rl', rd'), rfl, look, look, look, look, look, look, ⟨by rw [hstep.out, if_pos g]⟩, ho, by simp only; omega, by omega⟩
  · have hall : T.d.attrs.take i = T.d.attrs := List.take_of_length_le (by omega)
    rw [hall] at hr
    obtain ⟨rl, rd⟩ := r
    simp only at h5 h6 hn ho
    have hr : (rl, rd) = TP.attrF o.key o.value o.gone T.d.attrs := hr.out
    refine burst ?_
    refine if_cut (fun tm A => ∃ l a c rl', A = mk l ∧ tget tm 2 = .pointer (some ⟨0, 0, none⟩) ∧ tget tm 4 = .pointer (some ⟨2, 0, none⟩) ∧ tget tm 5 = .slice a rl'.length c ∧
      Hid (rl' = TP.attrE o.key o.value (TP.attrF o.key o.value o.gone T.d.attrs)) ∧ Hid (Acc 61 2 (attrB T o) l (.slice a rl'.length c) rl'.length (rl'.flatMap attrC)) ∧ l.length < 16777216) (by kernel_rfl) ?_ ?_
    · intro S hS
      replace hr := Hid.mk hr
      cases rd
      · obtain ⟨v', l', e, o', g'⟩ := ho.out.add23 (o.key, o.value) (by omega) (by omega)
        obtain ⟨a', c', hv⟩ := o'.own.slice
        subst hv
        simp only at e o'
        refine burst ?_
        refine hS.to ⟨l', a', c', rl ++ [(o.key, o.value)], rfl, look, look, ?_, ⟨by rw [← hr.out]; simp [TP.attrE]⟩, ⟨?_⟩, by omega⟩
        · simp only [List.length_append, List.length_cons, List.length_nil]; exact look
        · simp only [List.length_append, List.length_cons, List.length_nil, List.flatMap_append, List.flatMap_cons, List.flatMap_nil, List.append_nil]; exact o'
      · refine burst ?_
        exact hS.to ⟨l, a, c, rl, rfl, look, look, look, ⟨by rw [← hr.out]; simp [TP.attrE]⟩, ho, by omega⟩
    clear h2 h3 h4 h5 h6 h7 f0 f1 f2 hl1 hl2 ho hn hl hr
    rintro tm A ⟨l, a, c, rl', rfl, h2, h4, h5, hr', ho, hl1⟩
    have f0 : l[0]? = some (AB.cells (nodeL T) 26 (0, 0)) := ho.out.base 0 (by rw [hb]; omega)
    have f2 : l[2]? = some (AB.cells zeroL 26 (0, 0)) := ho.out.base 2 (by rw [hb]; omega)
    simp only [nodeL, zeroL] at f0 f2
    refine burst ?_
    unfold attrN
    rw [← hr'.out]
    refine ends (nodeA_frz ?_) rfl
    exact ho.out.frz (by simpa using hl1) (fun b hb' => by
      rw [hb] at hb'
      rw [gset, if_neg (by omega), gset, if_neg (by omega)]) (row_clean attrC_clean rl')
end Go.Ev
namespace Go.Ev
open Go Go.Proofs Tryz
open TP (Str Tree Nd)
theorem nIns_set (g : Nat) : ∀ (t p : List Nat) (k : Nat), p[t.length]? = some k → TP.nIns g t p = if t <+: p ∧ g ≤ k then p.set t.length (k + 1) else p
  | [], [], k, h => by simp at h
  | [], x :: r, k, h => by
    simp at h; subst h
    simp only [TP.nIns, List.nil_prefix, true_and, List.length_nil]
    split <;> simp
  | i :: t, [], k, h => by simp at h
  | i :: t, x :: r, k, h => by
    have ih := nIns_set g t r k (by simpa using h)
    simp only [TP.nIns]
    by_cases e : i = x
    · subst e
      rw [if_pos rfl, ih]
      simp only [List.cons_prefix_cons, true_and, List.length_cons, List.set_cons_succ]
      split <;> rfl
    · rw [if_neg e, if_neg (fun h => e (List.cons_prefix_cons.1 h.1).1)]
theorem nIns_short (g : Nat) : ∀ (t p : List Nat), p.length ≤ t.length → TP.nIns g t p = p
  | [], [], _ => rfl
  | [], x :: r, h => by simp at h
  | i :: t, [], _ => rfl
  | i :: t, x :: r, h => by
    simp only [TP.nIns]
    rw [nIns_short g t r (by simpa using h)]
    split <;> rfl
def fwdI (g : Nat) (t p : List Int) : List Int := match p[t.length]? with
  | some k => if t <+: p ∧ (g : Int) ≤ k then p.set t.length (k + 1) else p
  | none => p
theorem fwdI_nn {g : Nat} {t p : List Int} (hp : ∀ x ∈ p, 0 ≤ x) : ∀ x ∈ fwdI g t p, 0 ≤ x := by
  intro x hx
  unfold fwdI at hx
  split at hx
  · rename_i k hk
    split at hx
    · rcases List.mem_or_eq_of_mem_set hx with h | rfl
      · exact hp x h
      · have := hp k (List.mem_of_getElem? hk); omega
    · exact hp x hx
  · exact hp x hx
theorem fwdI_len {g : Nat} {t p : List Int} : (fwdI g t p).length = p.length := by
  unfold fwdI
  split
  · split
    · simp
    · rfl
  · rfl
theorem fwdI_toN {g : Nat} {t p : List Int} (ht : ∀ x ∈ t, 0 ≤ x) (hp : ∀ x ∈ p, 0 ≤ x) : toN (fwdI g t p) = TP.nIns g (toN t) (toN p) := by
  have hl : (toN t).length = t.length := by simp [toN]
  have hpre := toN_prefix ht hp
  unfold fwdI
  cases hk : p[t.length]? with
  | none =>
    rw [nIns_short]
    simp only [toN, List.length_map]
    exact List.getElem?_eq_none_iff.1 hk
  | some k =>
    have h0 := hp k (List.mem_of_getElem? hk)
    have hk' : (toN p)[(toN t).length]? = some k.toNat := by rw [hl]; simp [toN, hk]
    rw [nIns_set g _ _ _ hk']
    simp only
    by_cases h : t <+: p ∧ (g : Int) ≤ k
    · rw [if_pos h, if_pos ⟨hpre.2 h.1, by omega⟩, hl]
      unfold toN
      rw [List.map_set, show (k + 1).toNat = k.toNat + 1 by omega]
    · rw [if_neg h, if_neg (fun q => h ⟨hpre.1 q.1, by omega⟩)]
theorem toN_of {p : List Int} (hp : ∀ x ∈ p, 0 ≤ x) : (toN p).map Int.ofNat = p := by
  unfold toN
  rw [List.map_map]
  conv => rhs; rw [← List.map_id p]
  apply List.map_congr_left
  intro x hx
  have := hp x hx
  simp only [Function.comp_apply, id]
  exact Int.toNat_of_nonneg this
theorem toN_ofN (p : List Nat) : toN (p.map Int.ofNat) = p := by simp [toN, Function.comp_def]
theorem move_ok {T X Z : Tree Nd} {o : GOp} {g : Nat} (hp : ∀ x ∈ o.path, 0 ≤ x) (ht : ∀ x ∈ o.to, 0 ≤ x) (hne : o.path ≠ []) (hX : TP.at? (toN o.path) T = some X) (hZ : TP.at? (toN o.to) T = some Z) (hg : g ≤ Z.kids.length) (hn : ¬ o.path <+: o.to) :
    ∃ (p' : List Int) (c' : Nat) (Z' : Tree Nd), fwdI g o.to o.path = p' ++ [(c' : Int)] ∧ (∀ x ∈ p', 0 ≤ x) ∧ p'.length + 1 = o.path.length ∧ TP.at? (toN p') (TP.upd (TP.insK g X) (toN o.to) T) = some Z' ∧ c' < Z'.kids.length ∧
      TP.upd (TP.delK c') (toN p') (TP.upd (TP.insK g X) (toN o.to) T) = TP.mov (TP.up (toN o.path)) (TP.last (toN o.path)) (toN o.to) g X T := by
  have hne' : toN o.path ≠ [] := fun h => hne (toN_nil.1 h)
  have hs := TP.snoc_of_ne hne'
  have hn' : ¬ toN o.path <+: toN o.to := fun h => hn ((toN_prefix hp ht).1 h)
  have hU := hX
  rw [hs] at hU hn'
  obtain ⟨P', c', h1, h2⟩ := TP.ins_del (g := g) (X := X) hZ hg hU hn'
  rw [← hs] at h1
  have hf := fwdI_toN (g := g) ht hp
  obtain ⟨Y, hY, _⟩ := TP.ins_fwd (fun _ => ()) (Y := X) hZ hg hX
  rw [h1] at hY hf
  have hY : TP.at? (P' ++ [c']) (TP.upd (TP.insK g X) (toN o.to) T) = some Y := hY
  obtain ⟨Z', hZ'⟩ := TP.at?_up hY
  rw [TP.at?_append, hZ'] at hY
  obtain ⟨k, hk, _⟩ := TP.at?_cons.1 hY
  have hlen := congrArg List.length hf
  simp only [toN, List.length_map, fwdI_len, List.length_append, List.length_cons, List.length_nil] at hlen
  refine ⟨P'.map Int.ofNat, c', Z', ?_, fun x hx => ?_, by simp; omega, by rw [toN_ofN]; exact hZ', (List.getElem?_eq_some_iff.1 hk).1, by rw [toN_ofN]; exact h2⟩
  · rw [← toN_of (fwdI_nn (g := g) (t := o.to) hp), hf]; simp
  · obtain ⟨y, _, rfl⟩ := List.mem_map.1 hx
    exact Int.natCast_nonneg y
end Go.Ev
namespace Go.Ev
open Go
variable {P : Program} {φ : Rn} {w : World}
def dpreK (ops : List Oper) (j : Nat) : Nat → List Oper → List Nat → Seen → List Nat → List Nat → Option (List Nat × Seen × List Nat × List Nat)
  | _, [], ms, sn, ts, rs => some (ms, sn, ts, rs)
  | i, o :: rest, ms, sn, ts, rs =>
    let m := maskOf i ms o.after.toList 0
    let ls := looks ops o
    if ((opsL o.op).all opk && tempsOk sn m ls o.dst && o.after.toList.all (fun e => !bind e || Nat.blt e.on i)) && !m.testBit j then
      match kindOf o with
      | .news => none
      | .still => dpreK ops j (i + 1) rest (m :: ms) (seenOf sn i ls o.dst) ts rs
      | .reads => if ts.all (fun t => m.testBit t) then dpreK ops j (i + 1) rest (m :: ms) (seenOf sn i ls o.dst) ts (i :: rs) else none
      | .turns => if ts.all (fun t => m.testBit t) && (isFn o || rs.all (fun t => m.testBit t)) then dpreK ops j (i + 1) rest (m :: ms) (seenOf sn i ls o.dst) (i :: ts) rs else none
    else none
def dnewsK (pre : List Oper) (on : Oper) (suf : List Oper) : Bool :=
  let ops := pre ++ on :: suf
  match dpreK ops pre.length 0 pre [] ⟨.nil, .nil⟩ [] [] with
  | some (ms, sn, ts, rs) =>
    let j := pre.length
    let m := maskOf j ms on.after.toList 0
    let ls := looks ops on
    ((opsL on.op).all opk && tempsOk sn m ls on.dst && on.after.toList.all (fun e => !bind e || Nat.blt e.on j)) && on.after.toList.all (fun e => !bind e) && dsuf ops j (j + 1) suf (m :: ms) (seenOf sn j ls on.dst) ts rs
  | none => false
theorem evSeqK_congr' {ns : Nat} {ops : List Oper} {rcs rcs' : Nat → Rec} {tm' : Trie Value} {A' : AS} : ∀ (rest : List Oper) (i : Nat) (tm : Trie Value) (A : AS), (∀ j, i ≤ j → j < i + rest.length → rcs j = rcs' j) → evSeqK P ns ops rcs i rest tm A tm' A' → evSeqK P ns ops rcs' i rest tm A tm' A'
  | [], i, tm, A, _, h => h
  | o :: rest, i, tm, A, hc, h => by
    refine ⟨fun hw => ?_, fun hw => evSeqK_congr' rest _ _ _ (fun j hj hj2 => hc j (by omega) (by simp only [List.length_cons]; omega)) (h.2 hw)⟩
    obtain ⟨v, A1, h1, h2, h3, h4⟩ := h.1 hw
    exact ⟨v, A1, by rw [← hc i (Nat.le_refl _) (by simp)]; exact h1, h2, h3, evSeqK_congr' rest _ _ _ (fun j hj hj2 => hc j (by omega) (by simp only [List.length_cons]; omega)) h4⟩
theorem dpreK_draw {ns : Nat} {ops : List Oper} {rcs : Nat → Rec} {ids : List (Option Nat)} {p s n : Nat} (hids : ids = List.replicate p none ++ some n :: List.replicate s none) {tail : List Oper} {ms' : List Nat} {sn' : Seen} {ts' rs' : List Nat} : ∀ (rest : List Oper) (i : Nat) (S : DS) (A : AS) (hs : List AS) (ts rs : List Nat) (tm' : Trie Value) (A' : AS),
    dpreK ops p i rest S.ms S.sn ts rs = some (ms', sn', ts', rs') → S.hs = A :: hs → A.pend = [] → (∀ t ∈ S.ts, t ∈ ts) → (∀ x ∈ S.rs, x.1 ∈ rs) → (∀ x ∈ S.rs, isVal x.2.1 = true ∧ aop P x.2.2.1 x.2.1 (A.wp [n]) = some (x.2.2.2, A.wp [n])) →
    evSeqK P ns ops rcs i rest S.tm (A.wp [n]) tm' A' → ∃ S', drawAll P cfg0 rcs false ns ops [] ids i (rest ++ tail) S = drawAll P cfg0 rcs false ns ops [] ids (i + rest.length) tail S' ∧ S'.tm = tm' ∧ (∃ hs', S'.hs = A'.wp [] :: hs') ∧ S'.ms = ms' ∧ S'.sn = sn' ∧ (∀ t ∈ S'.ts, t ∈ ts') ∧ ∀ x ∈ S'.rs, x.1 ∈ rs'
  | [], i, S, A, hs, ts, rs, tm', A', hst, hh, hp, hts, hrs, hval, h => by
    simp only [dpreK, Option.some.injEq, Prod.mk.injEq] at hst
    obtain ⟨e1, e2, e3, e4⟩ := hst
    subst e3 e4
    refine ⟨S, rfl, h.1.symm, ⟨hs, ?_⟩, e1, e2, hts, hrs⟩
    rw [hh, ← h.2]
    show A :: hs = (A.wp []) :: hs
    rw [show A.wp [] = A by unfold AS.wp; rw [← hp]]
  | o :: rest, i, S, A, hs, ts, rs, tm', A', hst, hh, hp, hts, hrs, hval, h => by
    simp only [dpreK] at hst
    split at hst
    case isFalse => cases hst
    rename_i hck
    simp only [Bool.and_eq_true, Bool.not_eq_true'] at hck
    have hcheck : dCheck S i (maskOf i S.ms o.after.toList 0) (looks ops o) o = true := by
      unfold dCheck
      simp only [Bool.and_eq_true]
      exact hck.1
    have hA0 : ({ A with pend := pends (maskOf i S.ms o.after.toList 0) ids 0 ++ [] } : AS) = A.wp [n] := by
      rw [hids, pends_one, Nat.zero_add, if_neg (by rw [hck.2]; simp)]; rfl
    rw [List.cons_append, List.length_cons, show i + (rest.length + 1) = i + 1 + rest.length by omega]
    simp only [drawAll, drawOne]
    rw [if_pos hcheck]
    unfold dDo
    rw [hh]
    simp only
    by_cases hw : wants S.tm ops o = true
    · rw [if_pos hw]
      simp only [dKind, hA0]
      replace h := h.1 hw
      obtain ⟨v, A1, he, hp1, hkeep, h⟩ := h
      ·
        cases hk : kindOf o with
        | news => rw [hk] at hst; cases hst
        | still =>
          rw [hk] at hst
          have e := evOper_pend (.inl hk) he
          subst e
          simp only [dStill, he, dSeen]
          exact dpreK_draw hids rest (i + 1) { tm := putD ns S.tm o.dst v, ms := maskOf i S.ms o.after.toList 0 :: S.ms, sn := seenOf S.sn i (looks ops o) o.dst, hs := S.hs, ts := S.ts, rs := S.rs } A hs ts rs tm' A' hst hh hp hts hrs hval h
        | reads =>
          rw [hk] at hst
          simp only at hst
          split at hst
          case isFalse => cases hst
          rename_i hall
          have e := evOper_pend (.inr hk) he
          subst e
          have hnil : (S.ts.takeWhile fun t => !(maskOf i S.ms o.after.toList 0).testBit t) = [] := by
            cases hS : S.ts with
            | nil => rfl
            | cons t r =>
              rw [List.takeWhile_cons_of_neg]
              have := List.all_eq_true.1 hall t (hts t (by rw [hS]; simp))
              simp [this]
          simp only [dReads, he, hnil, List.length_nil, List.take_zero, List.all_nil, if_true, dSeen]
          exact dpreK_draw hids rest (i + 1) { tm := putD ns S.tm o.dst v, ms := maskOf i S.ms o.after.toList 0 :: S.ms, sn := seenOf S.sn i (looks ops o) o.dst, hs := S.hs, ts := S.ts, rs := (i, o, S.tm, v) :: S.rs } A hs ts (i :: rs) tm' A' hst hh hp hts
            (fun x hx => by
              rcases List.mem_cons.1 hx with rfl | hx
              · exact List.mem_cons_self ..
              · exact List.mem_cons_of_mem _ (hrs x hx)) (fun x hx => by
              rcases List.mem_cons.1 hx with rfl | hx
              · exact ⟨kind_val (.inr hk), kind_aop (.inr hk) he⟩
              · exact hval x hx) h
        | turns =>
          rw [hk] at hst
          simp only [Bool.and_eq_true] at hst
          split at hst
          case isFalse => cases hst
          rename_i hall
          have hto : turnOk S.ts (maskOf i S.ms o.after.toList 0) = true := by
            cases hS : S.ts with
            | nil => rfl
            | cons t r => exact List.all_eq_true.1 hall.1 t (hts t (by rw [hS]; simp))
          have hag : again P (pends 0 ids 0 ++ []) (maskOf i S.ms o.after.toList 0) { A1 with pend := [] } S.rs = true := by
            rcases Bool.or_eq_true _ _ ▸ hall.2 with hf | hall2
            · have := hkeep hf
              subst this
              exact again_same hval
            · exact again_all fun x hx => List.all_eq_true.1 hall2 x.1 (hrs x hx)
          simp only [hto, if_true, dTurns, he]
          rw [if_pos hag]
          simp only [dSeen]
          have hA1 : (({ A1 with pend := [] } : AS)).wp [n] = A1 := by
            show ({ A1 with pend := [n] } : AS) = A1
            have : A1.pend = [n] := hp1
            rw [← this]
          exact dpreK_draw hids rest (i + 1) { tm := putD ns S.tm o.dst v, ms := maskOf i S.ms o.after.toList 0 :: S.ms, sn := seenOf S.sn i (looks ops o) o.dst, hs := { A1 with pend := [] } :: S.hs, ts := i :: S.ts, rs := S.rs.filter fun x => !(maskOf i S.ms o.after.toList 0).testBit x.1 } { A1 with pend := [] } (S.hs) (i :: ts) rs tm' A' hst rfl rfl
            (fun x hx => by
              rcases List.mem_cons.1 hx with rfl | hx
              · exact List.mem_cons_self ..
              · exact List.mem_cons_of_mem _ (hts x hx)) (fun x hx => hrs x (List.mem_filter.1 hx).1) (fun x hx => by
              rw [hA1]
              rcases Bool.or_eq_true _ _ ▸ hall.2 with hf | hall2
              · have := hkeep hf
                subst this
                exact hval x (List.mem_filter.1 hx).1
              · have h1 := (List.mem_filter.1 hx).2
                rw [List.all_eq_true.1 hall2 x.1 (hrs x (List.mem_filter.1 hx).1)] at h1
                simp at h1) (by rw [hA1]; exact h)
    · rw [if_neg hw]
      replace h := h.2 (by simpa using hw)
      cases hk : kindOf o with
      | news => rw [hk] at hst; cases hst
      | still =>
        rw [hk] at hst
        simp only [dSkip, hk, dSeen]
        exact dpreK_draw hids rest (i + 1) { tm := putD ns S.tm o.dst undef, ms := maskOf i S.ms o.after.toList 0 :: S.ms, sn := seenOf S.sn i (looks ops o) o.dst, hs := S.hs, ts := S.ts, rs := S.rs } A hs ts rs tm' A' hst hh hp hts hrs hval h
      | reads =>
        rw [hk] at hst
        simp only at hst
        split at hst
        case isFalse => cases hst
        simp only [dSkip, hk, dSeen]
        exact dpreK_draw hids rest (i + 1) { tm := putD ns S.tm o.dst undef, ms := maskOf i S.ms o.after.toList 0 :: S.ms, sn := seenOf S.sn i (looks ops o) o.dst, hs := S.hs, ts := S.ts, rs := S.rs } A hs ts (i :: rs) tm' A' hst hh hp hts (fun x hx => List.mem_cons_of_mem _ (hrs x hx)) hval h
      | turns =>
        rw [hk] at hst
        simp only [Bool.and_eq_true] at hst
        split at hst
        case isFalse => cases hst
        simp only [dSkip, hk, dSeen]
        exact dpreK_draw hids rest (i + 1) { tm := putD ns S.tm o.dst undef, ms := maskOf i S.ms o.after.toList 0 :: S.ms, sn := seenOf S.sn i (looks ops o) o.dst, hs := S.hs, ts := S.ts, rs := S.rs } A hs (i :: ts) rs tm' A' hst hh hp (fun x hx => List.mem_cons_of_mem _ (hts x hx)) hrs hval h
theorem dpreK_ops {ops : List Oper} {j : Nat} {r : List Nat × Seen × List Nat × List Nat} : ∀ (rest : List Oper) (i : Nat) (ms : List Nat) (sn : Seen) (ts rs : List Nat), dpreK ops j i rest ms sn ts rs = some r → opsOk rest = true ∧ ∀ o ∈ rest, kindOf o ≠ .news
  | [], i, ms, sn, ts, rs, _ => ⟨rfl, by simp⟩
  | o :: rest, i, ms, sn, ts, rs, h => by
    simp only [dpreK] at h
    split at h
    case isFalse => cases h
    rename_i hck
    simp only [Bool.and_eq_true] at hck
    have fin : ∀ {ms sn ts rs}, dpreK ops j (i + 1) rest ms sn ts rs = some r → kindOf o ≠ .news → opsOk (o :: rest) = true ∧ ∀ u ∈ o :: rest, kindOf u ≠ .news := fun h2 hk => by
      obtain ⟨q1, q2⟩ := dpreK_ops rest _ _ _ _ _ h2
      refine ⟨?_, fun u hu => ?_⟩
      · unfold opsOk at q1 ⊢
        rw [List.all_cons, q1, hck.1.1.1]; rfl
      · rcases List.mem_cons.1 hu with rfl | hu
        · exact hk
        · exact q2 u hu
    cases hk : kindOf o with
    | news => rw [hk] at h; cases h
    | still => rw [hk] at h; exact fin h (by rw [hk]; simp)
    | reads => rw [hk] at h; simp only at h; split at h; exact fin h (by rw [hk]; simp); cases h
    | turns => rw [hk] at h; simp only at h; split at h; exact fin h (by rw [hk]; simp); cases h
theorem wDraw_newsK (hc : CfgOK P cfg0) {ns : Nat} {pre suf : List Oper} {d : Option Tmp} {t ty : TypeId} {pos : String} {after : Array Edge} {z : Value} {tm : Trie Value} {A : AS} {K : Trie Value → AS → Prop}
    (hz : zeroOf P t = some z) (hp : A.pend = []) (hroom : A.next + 2 < 2 ^ 24) (hst : dnewsK pre ⟨d, .alloc t, ty, pos, after, none⟩ suf = true)
    (h : wOpsF P true ns (pre ++ ⟨d, .alloc t, ty, pos, after, none⟩ :: suf) pre tm ((A.put (.cells z.cells.toList t (0, 0))).wp [A.next]) fun tm1 A1 => wOps P ns (pre ++ ⟨d, .alloc t, ty, pos, after, none⟩ :: suf) suf (putD ns tm1 d (ptr A.next)) (A1.wp []) K) :
    wDraw P ns (pre ++ ⟨d, .alloc t, ty, pos, after, none⟩ :: suf) tm A K := by
  have hst0 := hst
  unfold dnewsK at hst
  simp only at hst
  split at hst
  case h_2 => cases hst
  rename_i ms sn ts rs hpre
  simp only [Bool.and_eq_true] at hst
  obtain ⟨⟨hon, hun⟩, hsuf⟩ := hst
  obtain ⟨p1, p2⟩ := dpreK_ops _ _ _ _ _ _ hpre
  obtain ⟨s1, s2⟩ := dsuf_ops _ _ _ _ _ _ hsuf
  generalize hon' : (⟨d, .alloc t, ty, pos, after, none⟩ : Oper) = on at *
  have honop : on.op = .alloc t := by rw [← hon']
  have hong : on.guard = none := by rw [← hon']
  have hond : on.dst = d := by rw [← hon']
  have hona : on.after = after := by rw [← hon']
  generalize hops : pre ++ on :: suf = ops at *
  have hok : opsOk ops = true := by
    rw [← hops]
    unfold opsOk at p1 s1 ⊢
    rw [List.all_append, List.all_cons, p1, s1, honop, hon.1.1]; rfl
  obtain ⟨rcs1, tm1, A1, r1, hK1, run1, ev1⟩ := wOpsF_ev hc (ops := ops.toArray) (tail := on :: suf) hok pre 0 tm _ _ (by simp [hops]) h
  obtain ⟨rcs2, tm', A', r2, hK2, run2, ev2⟩ := wOps_ev hc (ops := ops.toArray) (tail := []) hok suf (pre.length + 1) _ _ _ (by rw [← hops]; simp) hK1
  refine ⟨fun k => if k ≤ pre.length then rcs1 k else rcs2 k, tm', A', fun k => ?_, hK2, fun φ w a hR hF => ?_⟩
  · show RecOK P (if k ≤ pre.length then rcs1 k else rcs2 k)
    split
    · exact r1 k
    · exact r2 k
  have hRp := hR.ahead (ab := .cells z.cells.toList t (0, 0)) hp hroom
  have hokA : ∀ n, A.ok n = true → ((A.put (.cells z.cells.toList t (0, 0))).wp [A.next]).ok n = true := fun n hn => by
    rw [AS.ok_iff] at hn ⊢
    refine hn.imp (fun q => ⟨Nat.lt_succ_of_lt q.1, ?_⟩) id
    show n ∉ [A.next]
    have := q.1
    simp; omega
  have hFp : FR φ ((A.put (.cells z.cells.toList t (0, 0))).wp [A.next]) w ns tm [] a := ⟨hF.tmr, Trie.all_of fun n x hx => vok_mono hokA x (Trie.all_get hF.tok hx), hF.dsr, rfl⟩
  have e1 := ev1 φ w a hRp hFp
  obtain ⟨φ1, w1, a1, _, R1, runs1, F1⟩ := run1 φ w a frame0 [] [] (.inl rfl) rfl hRp hFp
  have hpend1 : A1.pend = [A.next] := runs1.pend
  have hw1 : A1.wp [A.next] = A1 := by unfold AS.wp; rw [← hpend1]
  have hget : A1.h.get A.next = some (.cells z.cells.toList t (0, 0)) := by
    rw [runs1.pnd A.next (by show A.next ∈ [A.next]; simp)]
    show (A.put _).h.get _ = _
    rw [put_get A _ (by omega), if_pos rfl]
  have hzb : ∀ v ∈ z.cells.toList, bare v = true := vokL_mem.1 (vok_cells (zeroOf_ok (w := w) hz).2.1)
  obtain ⟨R2, ext2⟩ := Rel.made (A := A1) (q := [A.next]) (r := []) (n := A.next) (by rw [hw1]; exact R1) (by simp) (by intro m; simp) hget rfl hzb
  rw [hw1] at ext2
  have hok2 : ∀ n, A1.ok n = true → (A1.wp []).ok n = true := fun n hn => by
    rw [AS.ok_iff] at hn ⊢
    exact hn.imp (fun q => ⟨q.1, by show n ∉ []; simp⟩) id
  have hnx : A.next < A1.next := by have := runs1.next; exact Nat.lt_of_lt_of_le (Nat.lt_succ_self _) this
  have F2 : FR (upd φ1 A.next w1.heap.size 0) (A1.wp []) (w1.alloc (.cells z.cells t)) ns tm1 [] a1 := ⟨F1.tmr.ext ext2 F1.tok, Trie.all_of fun n x hx => vok_mono hok2 x (Trie.all_get F1.tok hx), by have := F1.dsr; cases hd : a1.defers with
    | nil => rfl
    | cons x l => rw [hd] at this; exact absurd this (by simp [RDL]), rfl⟩
  have F3 := F2.put (v := ptr A.next) (RV_ptr.2 rfl) (by
    show (A1.wp []).ok A.next = true
    rw [AS.ok_iff]
    exact .inl ⟨hnx, by show A.next ∉ []; simp⟩) d
  have e2 := ev2 _ _ _ R2 F3
  have hids : reserve P ops A [] = some (A.put (.cells z.cells.toList t (0, 0)), List.replicate pre.length none ++ some A.next :: List.replicate suf.length none) := by
    rw [← hops, reserve_app pre _ A [] p2]
    unfold reserve
    rw [honop]
    simp only
    rw [if_pos (by rw [hong, hona, hun]; rfl)]
    have hal : aalloc P A t = some (ptr A.next, A.put (.cells z.cells.toList t (0, 0))) := by
      unfold aalloc
      rw [hz]
      simp only
      unfold abox anew room
      rw [if_pos (by rw [hp]; simpa [Nat.blt_eq] using hroom)]
    rw [hal]
    simp only
    rw [reserve_none suf _ _ s2]
    simp
  unfold evDraw
  rw [hids]
  simp only
  have e1' : evSeqK P ns ops (fun k => if k ≤ pre.length then rcs1 k else rcs2 k) 0 pre tm ((A.put (.cells z.cells.toList t (0, 0))).wp [A.next]) tm1 A1 := evSeqK_congr' pre 0 _ _ (fun k _ hk => (if_pos (by omega)).symm) e1
  have e2' : evSeq P ns ops (fun k => if k ≤ pre.length then rcs1 k else rcs2 k) (pre.length + 1) suf (putD ns tm1 d (ptr A.next)) (A1.wp []) = some (tm', A') := by
    rw [← e2]
    exact evSeq_congr' suf _ _ _ fun k hk _ => if_neg (by omega)
  obtain ⟨S', q1, q2, ⟨hs', q3⟩, q4, q5, q6, q7⟩ := dpreK_draw (P := P) (n := A.next) (p := pre.length) (s := suf.length) rfl (tail := on :: suf) pre 0 { tm, ms := [], sn := ⟨.nil, .nil⟩, hs := [A.put (.cells z.cells.toList t (0, 0))], ts := [], rs := [] } _ [] [] [] tm1 A1 hpre rfl hp (by simp) (by simp) (by simp) e1'
  rw [hops] at q1
  rw [hp, q1, Nat.zero_add]
  have hcheck : dCheck S' pre.length (maskOf pre.length S'.ms on.after.toList 0) (looks ops on) on = true := by
    unfold dCheck
    simp only [Bool.and_eq_true]
    rw [q4, q5, hona, honop, hond]
    exact hon
  have hwant : wants S'.tm ops on = true := by unfold wants; rw [hong]
  have hkind : kindOf on = .news := by unfold kindOf; rw [honop]
  have hat : ((List.replicate pre.length none ++ some A.next :: List.replicate suf.length (none : Option Nat))[pre.length]?).bind id = some A.next := by
    rw [List.getElem?_append_right (by simp)]; simp
  simp only [drawAll, drawOne]
  rw [if_pos hcheck]
  unfold dDo
  rw [q3]
  simp only [hwant, if_true, dKind, hkind, dNews, hat, dSeen]
  obtain ⟨S'', q8, q9, hs'', q10⟩ := dsuf_draw (P := P) (n := A.next) (p := pre.length) (s := suf.length) rfl suf (pre.length + 1) { tm := putD ns S'.tm on.dst (ptr A.next), ms := maskOf pre.length S'.ms on.after.toList 0 :: S'.ms, sn := seenOf S'.sn pre.length (looks ops on) on.dst, hs := S'.hs, ts := S'.ts, rs := S'.rs } (A1.wp []) hs' ts rs tm' A' (by
    show dsuf ops pre.length (pre.length + 1) suf (maskOf pre.length S'.ms on.after.toList 0 :: S'.ms) (seenOf S'.sn pre.length (looks ops on) on.dst) ts rs = true
    rw [q4, q5, hona, hond]; exact hsuf) q3 rfl q6 q7 (by
    show evSeq P ns ops _ (pre.length + 1) suf (putD ns S'.tm on.dst (ptr A.next)) (A1.wp []) = _
    rw [q2, hond]; exact e2')
  rw [q8]
  simp only [q10, q9]
theorem sDraw_newsK (j : Nat) {ns : Nat} {ops pre suf : List Oper} {k : List Item} {tm : Trie Value} {l : List AB} {Q : Trie Value → AS → Prop} {d : Option Tmp} {t ty : TypeId} {pos : String} {after : Array Edge} {z : Value} (hc : CfgOK P cfg0)
    (e1 : ops.take j = pre) (e2 : ops.drop j = ⟨d, .alloc t, ty, pos, after, none⟩ :: suf) (hz : zeroOf P t = some z) (hl : l.length + 2 < 16777216) (hst : dnewsK pre ⟨d, .alloc t, ty, pos, after, none⟩ suf = true)
    (h : wRun P true ns ops pre [] tm (mkp (l ++ [.cells z.cells.toList t (0, 0)]) [l.length]) fun tm' A' => sNews P ns l.length d ops suf k tm' A' Q) : sDraw P ns ops k tm (mk l) Q := by
  have e : ops = pre ++ ⟨d, .alloc t, ty, pos, after, none⟩ :: suf := by rw [← e1, ← e2, List.take_append_drop]
  subst e
  unfold sDraw
  refine wDraw_newsK hc hz (mk_pend l) (by rw [mk_next]; exact hl) hst ?_
  rw [mk_next, mk_put]
  unfold wRun mkp at h
  refine wOpsF_mono (fun tm' A' h2 => ?_) _ _ _ h
  rw [W_nil] at h2
  unfold sNews wRun at h2
  rw [wOpsF_false] at h2
  exact h2
end Go.Ev
namespace Go.Ev
open Go Go.Proofs Tryz
open TP (Str Tree Nd)
set_option maxRecDepth 100000
set_option maxHeartbeats 4000000
theorem erase_del {T : Tree Nd} {i : Nat} : eraseT T i = TP.delK i T := by
  unfold eraseT TP.delK
  congr 1
  exact (List.eraseIdx_eq_take_drop_succ ..).symm
theorem frz_sole {l : List AB} {b n : Nat} {cs : List Value} {e s : Nat} (hl : l.length < 16777216) (hb : l[b]? = some (.grown cs e s)) (hn : cs.length = n * s) (hc : cleanL cs = true) (hv : cs.all cellv = true) (hm : 0 < n) : Frz (Ev.mk (sole l b)) (.slice (some ⟨b, 0, none⟩) n (big + n)) (frow n cs) :=
  (Own.row (elem := e) (s := s) (by rw [sole_get, if_pos (List.getElem?_eq_some_iff.1 hb).1, if_pos rfl, hb]; rfl) hn hv hm).frz (by simpa [sole_len] using hl) hc
theorem move_fn {K L : Nat} (hK : K + 1 ≤ 8388608) {T X Z : Tree Nd} (hT : bT K L T) (o : GOp) {g : Nat} (hg0 : o.at_ = (g : Int)) (hp : ∀ x ∈ o.path, 0 ≤ x) (ht : ∀ x ∈ o.to, 0 ≤ x) (hpm : ∀ x ∈ o.path, x < 1048576) (hpl : o.path.length ≤ 64) (htl : o.to.length ≤ 64) (hne : o.path ≠ []) (hX : TP.at? (toN o.path) T = some X)
    (hZ : TP.at? (toN o.to) T = some Z) (hg : g ≤ Z.kids.length) (hn : ¬ o.path <+: o.to) : Fn prog 74 [vNode T, vOp o] (vNode (TP.mov (TP.up (toN o.path)) (TP.last (toN o.path)) (toN o.to) g X T)) := by
  refine fn_is func74 ntmps74 results74 rfl cfgOK mixed (cl2 (nodeC_clean T) (vOp_clean o)) ?_
  obtain ⟨p', c', Z', m1, m2, m3, m4, m5, m6⟩ := move_ok hp ht hne hX hZ hg hn
  have c1 := at6_fn T o.path hp (by omega)
  have c2 := at6_fn T o.to ht (by omega)
  have c3 := put_fn Z X g hg (by have := (hT.at hZ).len; omega)
  have c4 := change_fn (by omega) hT o.to ht (putT Z g X)
  have hchg : chgT T o.to (putT Z g X) = TP.upd (TP.insK g X) (toN o.to) T := by
    unfold chgT
    rw [hZ]
    exact TP.upd_const (f := TP.insK g X) hZ
  rw [hchg] at c4
  have hM : bT (K + 1) L (TP.upd (TP.insK g X) (toN o.to) T) := hT.ins (Nat.le_refl _) ((hT.at hX).mono (by omega) (Nat.le_refl _))
  have c5 := without_fn hK hM p' c' m2 (by omega) m4 m5
  rw [show TP.upd (fun _ => eraseT Z' c') (toN p') (TP.upd (TP.insK g X) (toN o.to) T) = TP.mov (TP.up (toN o.path)) (TP.last (toN o.path)) (toN o.to) g X T by
    rw [← m6, ← TP.upd_const (f := TP.delK c') m4]
    congr 1
    funext _
    exact erase_del, ← m1] at c5
  generalize TP.mov (TP.up (toN o.path)) (TP.last (toN o.path)) (toN o.to) g X T = R at *
  generalize TP.upd (TP.insK g X) (toN o.to) T = M at *
  generalize putT Z g X = Y at *
  have c6 := within4_fn o.to o.path (by omega)
  clear hchg m1 m2 m3 m4 m5 m6 hM ht
  replace hp := Hid.mk hp
  replace hpm := Hid.mk hpm
  rw [hX] at c1
  rw [hZ] at c2
  simp only [vNode, nodeC_eq, Option.getD_some, Option.isSome_some] at c1 c2 c3 c4 c5
  clear hX hZ hT
  replace hg := Hid.mk hg
  replace hn := Hid.mk hn
  replace c5 := Hid.mk c5
  replace c6 := Hid.mk c6
  rw [← hg0] at c3
  replace hg0 := Hid.mk hg0
  refine burst ?_
  refine sCall_fn (by assumption) ?_
  refine burst ?_
  refine sCall_fn (by assumption) ?_
  refine burst ?_
  refine sDraw_newsK 9 cfgOK rfl rfl zr26 (by simp) (by kernel_rfl) ?_
  refine burst ?_
  refine sCall_fn (by assumption) ?_
  refine burst ?_
  refine sCall_fn (by assumption) ?_
  refine burst ?_
  obtain ⟨v, l, hd, acc, hlen⟩ := copied_does o.path (by omega) [AB.cells (nodeL T) 26 (0, 0), AB.cells (opC o) 67 (0, 0), AB.cells zeroL 26 (0, 0), AB.cells (nodeL X) 26 (0, 0), AB.cells (nodeL Z) 26 (0, 0), AB.cells (nodeL M) 26 (0, 0)] (by simp)
  simp only [nodeL, opC, zeroL] at hd acc
  simp only [List.length_cons, List.length_nil] at hlen
  refine sCall_does hd ?_
  have hl1 : l.length < 16777216 := by omega
  have hl2 : l.length + 2 < 16777216 := by omega
  have f0 := (acc.base 0 (by simp)).trans rfl
  have f1 := (acc.base 1 (by simp)).trans rfl
  have f2 := (acc.base 2 (by simp)).trans rfl
  have f5 := (acc.base 5 (by simp)).trans rfl
  have hpos : 0 < o.path.length := List.length_pos_iff.2 hne
  obtain ⟨b, rfl, hb, _, _⟩ := own_pos acc.own hpos
  have hb6 := (acc.off b rfl).1
  simp only [List.length_cons, List.length_nil] at hb6
  have b0 : ¬ b = 0 := by omega
  have b1 : ¬ b = 1 := by omega
  have b2 : ¬ b = 2 := by omega
  have b5 : ¬ b = 5 := by omega
  clear hd acc
  refine burst ?_
  refine sDraw_seq cfgOK (by kernel_rfl) ?_
  refine burst ?_
  have fz : Frz (mk l) (.slice (some ⟨b, 0, none⟩) o.path.length (big + o.path.length)) (rowI o.path) := (Own.row (elem := 3) (s := 1) hb (by simp [ints]) (ints_cellv _) (by omega)).frz hl1 (ints_clean _)
  replace fz := Hid.mk fz
  refine guard_cut (fun tm A => A = mk l ∧ tget tm 2 = .pointer (some ⟨0, 0, none⟩) ∧ tget tm 3 = .pointer (some ⟨1, 0, none⟩) ∧ tget tm 4 = .pointer (some ⟨2, 0, none⟩) ∧ tget tm 9 = .pointer (some ⟨5, 0, none⟩) ∧ tget tm 10 = .slice (some ⟨b, 0, none⟩) o.path.length (big + o.path.length) ∧ tget tm 11 = .int .i64 o.to.length ∧
    ∃ c : Bool, tget tm 59 = .bool c ∧ Hid (c = true ↔ ∃ k, o.path[o.to.length]? = some k ∧ o.to <+: o.path ∧ o.at_ ≤ k)) ?_ ?_
  · intro S hS
    refine guardD (fun q => ?_) (fun q => ?_)
    · obtain ⟨k, hk⟩ : ∃ k, o.path[o.to.length]? = some k := ⟨_, get_some q⟩
      refine burst ?_
      refine sCall_bare c6.out (.cons (.clean (rowI_clean _)) (.cons fz.out (.clean rfl))) rfl ?_
      refine burst ?_
      refine guardD (fun q2 => ?_) (fun q2 => ?_)
      · refine burst ?_
        refine hS.to ⟨rfl, look, look, look, look, look, look, _, look, ⟨?_⟩⟩
        rw [decide_eq_true_iff, hk]
        exact ⟨fun h => ⟨k, rfl, q2, h⟩, fun ⟨k', e, _, h⟩ => by cases e; exact h⟩
      · refine burst ?_
        refine hS.to ⟨rfl, look, look, look, look, look, look, false, look, ⟨?_⟩⟩
        exact ⟨fun h => Bool.noConfusion h, fun ⟨k', _, h, _⟩ => absurd h q2⟩
    · refine burst ?_
      refine hS.to ⟨rfl, look, look, look, look, look, look, false, look, ⟨?_⟩⟩
      exact ⟨fun h => Bool.noConfusion h, fun ⟨k', e, _, _⟩ => by rw [List.getElem?_eq_none (by omega)] at e; cases e⟩
  rintro tm A ⟨rfl, t2, t3, t4, t9, t10, t11, c, t59, hc⟩
  have he := hg0.out
  cases c
  · have hf : fwdI g o.to o.path = o.path := by
      unfold fwdI
      split
      · rename_i k hk
        rw [if_neg]
        intro q
        have := hc.out.2 ⟨k, hk, q.1, by rw [he]; exact q.2⟩
        cases this
      · rfl
    rw [hf] at c5
    clear he
    refine burst ?_
    refine sCall_frz b hl1 c5.out (.cons (.clean (by rw [← nodeC_eq M]; exact vNode_clean M)) (.cons (frz_sole hl1 hb (by simp [ints]) (ints_clean _) (ints_cellv _) (by omega)) (.clean rfl))) ?_
    refine burst ?_
    exact ends node_end rfl
  · obtain ⟨k, hk, hpre, hge⟩ := hc.out.1 rfl
    have hf : fwdI g o.to o.path = o.path.set o.to.length (k + 1) := by
      unfold fwdI
      rw [hk]
      exact if_pos ⟨hpre, by rw [← he]; exact hge⟩
    rw [hf] at c5
    have h0 := hp.out k (List.mem_of_getElem? hk)
    have hm := hpm.out k (List.mem_of_getElem? hk)
    have hw : IntKind.i64.wrap (k + 1) = k + 1 := wrap_in (by omega) (by omega)
    have hlt : o.to.length < o.path.length := (List.getElem?_eq_some_iff.1 hk).1
    have hin : o.to.length + 1 ≤ o.path.length := hlt
    clear he hc hpre hge h0 hm hf
    refine burst ?_
    have hcs : List.take o.to.length (ints o.path) ++ [Value.int IntKind.i64 (k + 1)] ++ List.drop (o.to.length + 1) (ints o.path) = ints (o.path.set o.to.length (k + 1)) := by
      unfold ints
      rw [← List.map_take, ← List.map_drop, List.set_eq_take_append_cons_drop, if_pos hlt]
      simp
    rw [hcs]
    have hb' : (l.set b (AB.grown (ints (o.path.set o.to.length (k + 1))) 3 1))[b]? = some (AB.grown (ints (o.path.set o.to.length (k + 1))) 3 1) := by
      rw [List.getElem?_set, if_pos rfl, if_pos (List.getElem?_eq_some_iff.1 hb).1]
    have hl1' : (l.set b (AB.grown (ints (o.path.set o.to.length (k + 1))) 3 1)).length < 16777216 := by simpa using hl1
    have hsl : Frz (Ev.mk (sole (l.set b (AB.grown (ints (o.path.set o.to.length (k + 1))) 3 1)) b)) (.slice (some ⟨b, 0, none⟩) o.path.length (big + o.path.length)) (rowI (o.path.set o.to.length (k + 1))) := by
      have := frz_sole (n := o.path.length) hl1' hb' (by simp [ints]) (ints_clean _) (ints_cellv _) hpos
      unfold rowI
      rw [List.length_set]; exact this
    refine sCall_frz b hl1' c5.out (.cons (.clean (by rw [← nodeC_eq M]; exact vNode_clean M)) (.cons hsl (.clean rfl))) ?_
    clear hb' hl1' hsl hcs
    refine burst ?_
    exact ends node_end rfl
end Go.Ev
