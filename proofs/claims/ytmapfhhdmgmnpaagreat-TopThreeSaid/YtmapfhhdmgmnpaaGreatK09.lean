import Derived.Test.YtmapfhhdmgmnpaaGreatK08
namespace Go.Ev
open Go Go.Proofs Tryz
open TP (Str Tree Nd)
set_option maxRecDepth 100000
set_option maxHeartbeats 4000000
open Classical in
noncomputable def appG (T : Tree Nd) (o : GOp) : Tree Nd := if h : ∃ T', TP.Ap TP.E0.toData T (absO o) T' then h.choose else zeroT
theorem appG_ap {T : Tree Nd} {o : GOp} (h : valG T o = 0) : TP.Ap TP.E0.toData T (absO o) (appG T o) := by
  obtain ⟨_, _, h⟩ := val_zero.1 h
  unfold appG
  rw [dif_pos h]
  exact h.choose_spec
theorem appG_eq {T T' : Tree Nd} {o : GOp} (h : TP.Ap TP.E0.toData T (absO o) T') : appG T o = T' := by
  have : ∃ T', TP.Ap TP.E0.toData T (absO o) T' := ⟨T', h⟩
  unfold appG
  rw [dif_pos this]
  exact this.choose_spec.det h
theorem chgT_upd {T Z : Tree Nd} {p : List Int} {f : Tree Nd → Tree Nd} (h : TP.at? (toN p) T = some Z) : chgT T p (f Z) = TP.upd f (toN p) T := by
  unfold chgT
  rw [h]
  exact TP.upd_const (f := f) h
theorem nodei_end {A : AS} {T : Tree Nd} {k : IntKind} {n : Int} : Frz A (tupleOf [.agg #[.int .u64 T.d.id, .bool T.d.leaf, .string (bs T.d.label), rowA T.d.attrs, .string (bs T.d.text), rowK T.kids], .int k n]) (.tuple #[vNode T, .int k n]) := by
  have h : clean (vNode T) = true := nodeC_clean T
  rw [vNode, nodeC_eq] at h ⊢
  exact .tuple (.cons (.clean h) (.clean rfl))
theorem snoc_int {q : List Int} {P : List Nat} {c : Nat} (hq : ∀ x ∈ q, 0 ≤ x) (h : P ++ [c] = toN q) : q = P.map Int.ofNat ++ [(c : Int)] := by
  rw [← toN_of hq, ← h]; simp
theorem apply_fn {K L : Nat} (hK : K + 1 ≤ 2097152) (hL : L ≤ 1099511627776) {T : Tree Nd} (hT : bT K L T) (o : GOp) (ho : lenG o) :
    Fn prog 32 [vNode T, vOp o] (.tuple #[vNode (if valG T o = 0 then appG T o else zeroT), .int .i64 (valG T o)]) := by
  refine fn_is func32 ntmps32 results32 rfl cfgOK mixed (cl2 (nodeC_clean T) (vOp_clean o)) ?_
  have c1 := valid_fn (by omega) hL hT o ho
  have hv0 := @val_zero T o
  by_cases hv : valG T o = 0
  case neg =>
    rw [if_neg hv]
    generalize valG T o = e at *
    clear hv0 hT
    simp only [vNode, nodeC_eq, vOp, opC] at c1
    refine burst ?_
    refine sCall_fn (by assumption) ?_
    refine burst ?_
    refine ends (.tuple (.cons (.agg zero_frz) (.clean rfl))) ?_
    rfl
  rw [hv] at c1
  rw [if_pos hv, hv]
  obtain ⟨hr, hf, T', hap⟩ := hv0.1 hv
  rw [appG_eq hap]
  clear hv0
  have hnn := hf.1.nn
  have hk := hf.2
  unfold formK at hk
  have hlen := ho.1
  obtain ⟨x, hx⟩ : ∃ x, TP.at? (toN o.path) T = some x := by
    unfold absO at hap
    split at hap
    · cases hap with | ins hZ _ _ => exact ⟨_, hZ⟩
    split at hap
    · generalize hq : toN o.path = q at hap
      cases hap with | del hU => exact ⟨_, hU⟩
    split at hap
    · generalize hq : toN o.path = q at hap
      cases hap with | mov hU _ _ _ _ => exact ⟨_, hU⟩
    split at hap
    · cases hap with | dat hZ _ => exact ⟨_, hZ⟩
    split at hap
    · cases hap with | dat hZ _ => exact ⟨_, hZ⟩
    · cases hap with | dat hZ _ => exact ⟨_, hZ⟩
  have c2 := at6_fn T o.path hnn hlen
  rw [hx] at c2
  simp only [vNode, nodeC_eq, vOp, opC, Option.getD_some, Option.isSome_some] at c1 c2
  by_cases k1 : o.kind = 1
  · rw [if_pos k1] at hk
    unfold absO at hap
    rw [if_pos k1] at hap
    have hg : (o.at_.toNat : Int) = o.at_ := by have := hk.1.1; omega
    cases hap with | @ins _ _ _ Z hZ hl hgl =>
    rw [hx] at hZ; cases hZ
    have c3 := put_fn x (.mk ⟨o.id, o.leaf, o.label, [], []⟩ []) o.at_.toNat hgl (by have := (hT.at hx).len; omega)
    have c4 := change_fn (by omega) hT o.path hnn (putT x o.at_.toNat (.mk ⟨o.id, o.leaf, o.label, [], []⟩ []))
    rw [show chgT T o.path (putT x o.at_.toNat (.mk ⟨o.id, o.leaf, o.label, [], []⟩ [])) = TP.ins (toN o.path) o.at_.toNat (.mk ⟨o.id, o.leaf, o.label, [], []⟩ []) T from chgT_upd (f := TP.insK o.at_.toNat (.mk ⟨o.id, o.leaf, o.label, [], []⟩ [])) hx] at c4
    rw [hg] at c3
    generalize TP.ins _ _ _ _ = R at *
    generalize putT x o.at_.toNat _ = Y at *
    clear hr hf hT hnn hk hlen hx hg hl hgl ho
    simp only [vNode, nodeC_eq, TP.Tree.d_mk, TP.Tree.kids_mk] at c3 c4
    simp only [k1] at c1
    refine burst ?_
    refine sCall_fn (by assumption) ?_
    refine burst ?_
    refine sCall_fn (by assumption) ?_
    refine burst ?_
    refine sDraw_calls cfgOK (by kernel_rfl) ?_
    refine burst ?_
    refine sCall_nil (by simp) (by assumption) (.cons (.clean ?_) (.cons (.clean rfl) (.cons (.agg (.cons (.clean rfl) (.cons (.clean rfl) (.cons (.clean rfl) (.cons .nil (.cons (.clean rfl) (.cons .nil (.clean rfl))))))))  (.clean rfl)))) ?_
    · rw [← nodeC_eq x]; exact vNode_clean x
    refine burst ?_
    refine sCall_fn (by assumption) ?_
    refine burst ?_
    exact ends nodei_end rfl
  rw [if_neg k1] at hk
  by_cases k2 : o.kind = 2
  · unfold absO at hap
    rw [if_neg k1, if_pos k2] at hap
    generalize hq : toN o.path = q at hap
    cases hap with | @del P c U hU =>
    have hpath := snoc_int hnn hq.symm
    obtain ⟨Z, hZ⟩ := TP.at?_up hU
    have hc : c < Z.kids.length := by
      rw [TP.at?_append, hZ] at hU
      obtain ⟨k, hk, _⟩ := TP.at?_cons.1 hU
      exact (List.getElem?_eq_some_iff.1 hk).1
    have c3 := without_fn (by omega) hT (P.map Int.ofNat) c (fun x hx => by obtain ⟨y, _, rfl⟩ := List.mem_map.1 hx; exact Int.natCast_nonneg y) (by
      have := congrArg List.length hpath
      simp at this; simp; omega) (by rw [toN_ofN]; exact hZ) hc
    rw [← hpath, toN_ofN, show TP.upd (fun _ => eraseT Z c) P T = TP.del P c T by
      rw [erase_del]; exact TP.upd_const (f := TP.delK c) hZ] at c3
    generalize TP.del P c T = R at *
    clear hr hf hT hnn hk hlen hx ho hpath hU hZ hc hq
    simp only [vNode, nodeC_eq] at c3
    replace k2 := decide_eq_true k2
    refine burst ?_
    refine sCall_fn (by assumption) ?_
    refine burst ?_
    refine sCall_fn (by assumption) ?_
    refine burst ?_
    refine sCall_fn (by assumption) ?_
    refine burst ?_
    exact ends nodei_end rfl
  rw [if_neg k2] at hk
  by_cases k3 : o.kind = 3
  · rw [if_pos k3] at hk
    unfold absO at hap
    rw [if_neg k1, if_neg k2, if_pos k3] at hap
    have hg : o.at_ = (o.at_.toNat : Int) := by have := hk.1.1; omega
    have hpre := toN_prefix hnn hk.2.nn
    generalize hq : toN o.path = q at hap
    cases hap with | @mov P c t g U Z hU hn hZ hl hgl =>
    rw [hq] at hpre
    have hne : o.path ≠ [] := fun e => by rw [e] at hq; simp [toN] at hq
    have c3 := move_fn (by omega) hT o hg hnn hk.2.nn (fun x hx => (hf.1.2 x hx).2) hf.1.1 hk.2.1 hne (by rw [hq]; exact hU) hZ hgl (fun h => hn (hpre.2 h))
    rw [hq, TP.up_snoc, TP.last_snoc] at c3
    generalize TP.mov _ _ _ _ _ _ = R at *
    clear hr hf hT hnn hk hlen hx ho hU hZ hn hq hg hpre hl hgl hne
    simp only [vNode, nodeC_eq] at c3
    simp only [vOp, opC] at c3
    replace k3 := decide_eq_true k3
    refine burst ?_
    refine sCall_fn (by assumption) ?_
    refine burst ?_
    refine sCall_fn (by assumption) ?_
    refine burst ?_
    refine sCall_fn (by assumption) ?_
    refine burst ?_
    exact ends nodei_end rfl
  rw [if_neg k3] at hk
  by_cases k4 : o.kind = 4
  · unfold absO at hap
    rw [if_neg k1, if_neg k2, if_neg k3, if_pos k4] at hap
    cases hap with | @dat _ _ Z hZ hok =>
    rw [hx] at hZ; cases hZ
    have hb := (hT.at hx).d.1
    have c3 := attr_fn x o (by omega)
    have ha : attrN x o.key o.value o.gone = TP.datK (TP.dapp (.set o.key (if o.gone = true then none else some o.value))) x := by
      unfold attrN TP.datK
      rw [TP.attr_setA (hr.2 _ _ hx).1.2.2.1]; rfl
    have c4 := change_fn (by omega) hT o.path hnn (attrN x o.key o.value o.gone)
    rw [show chgT T o.path (attrN x o.key o.value o.gone) = TP.dat (toN o.path) (TP.E0.toData.app (.set o.key (if o.gone = true then none else some o.value))) T by
      rw [ha]; exact chgT_upd (f := TP.datK (TP.dapp (.set o.key (if o.gone = true then none else some o.value)))) hx] at c4
    generalize TP.dat _ _ _ = R at *
    generalize attrN x _ _ _ = Y at *
    clear hr hf hT hnn hk hlen hx ho hok ha hb
    simp only [vNode, nodeC_eq] at c3 c4
    simp only [vOp, opC] at c3
    replace k4 := decide_eq_true k4
    refine burst ?_
    refine sCall_fn (by assumption) ?_
    refine burst ?_
    refine sCall_fn (by assumption) ?_
    refine burst ?_
    refine sDraw_calls cfgOK (by kernel_rfl) ?_
    refine burst ?_
    refine sCall_fn (by assumption) ?_
    refine burst ?_
    refine sCall_fn (by assumption) ?_
    refine burst ?_
    exact ends nodei_end rfl
  rw [if_neg k4] at hk
  by_cases k5 : o.kind = 5
  · unfold absO at hap
    rw [if_neg k1, if_neg k2, if_neg k3, if_neg k4, if_pos k5] at hap
    cases hap with | @dat _ _ Z hZ hok =>
    rw [hx] at hZ; cases hZ
    have c4 := change_fn (by omega) hT o.path hnn (TP.datK (TP.dapp (.rel o.label)) x)
    rw [show chgT T o.path (TP.datK (TP.dapp (.rel o.label)) x) = TP.dat (toN o.path) (TP.E0.toData.app (.rel o.label)) T from chgT_upd (f := TP.datK (TP.dapp (.rel o.label))) hx] at c4
    generalize TP.dat _ _ _ = R at *
    clear hr hf hT hnn hk hlen hx ho hok
    simp only [vNode, nodeC_eq, TP.datK, TP.dapp, TP.Tree.d_mk, TP.Tree.kids_mk] at c4
    replace k5 := decide_eq_true k5
    refine burst ?_
    refine sCall_fn (by assumption) ?_
    refine burst ?_
    refine sCall_fn (by assumption) ?_
    refine burst ?_
    refine sCall_fn (by assumption) ?_
    refine burst ?_
    exact ends nodei_end rfl
  rw [if_neg k5] at hk
  by_cases k6 : o.kind = 6
  · rw [if_pos k6] at hk
    unfold absO at hap
    rw [if_neg k1, if_neg k2, if_neg k3, if_neg k4, if_neg k5] at hap
    cases hap with | @dat _ _ Z hZ hok =>
    rw [hx] at hZ; cases hZ
    have hb := (hT.at hx).d.2.1
    have c3 := apply5_fn x.d.text o.pieces (by omega)
    unfold app5 at c3
    rw [if_pos hk, if_pos hok.2] at c3
    have c4 := change_fn (by omega) hT o.path hnn (TP.datK (TP.dapp (.edt (o.pieces.map toP))) x)
    rw [show chgT T o.path (TP.datK (TP.dapp (.edt (o.pieces.map toP))) x) = TP.dat (toN o.path) (TP.E0.toData.app (.edt (o.pieces.map toP))) T from chgT_upd (f := TP.datK (TP.dapp (.edt (o.pieces.map toP)))) hx] at c4
    generalize TP.dat _ _ _ = R at *
    clear hr hf hT hnn hk hlen hx ho hok hb
    simp only [vNode, nodeC_eq, TP.datK, TP.dapp, TP.Tree.d_mk, TP.Tree.kids_mk] at c3 c4
    replace k6 := decide_eq_true k6
    refine burst ?_
    refine sCall_fn (by assumption) ?_
    refine burst ?_
    refine sCall_fn (by assumption) ?_
    refine burst ?_
    refine sCall_fn (by assumption) ?_
    refine burst ?_
    refine sCall_fn (by assumption) ?_
    refine burst ?_
    exact ends nodei_end rfl
  · rw [if_neg k6] at hk
    exact hk.elim
end Go.Ev
namespace Go.Ev
open Go Go.Proofs Tryz
open TP (Str Tree Nd)
set_option maxRecDepth 100000
set_option maxHeartbeats 4000000
noncomputable def allG : Tree Nd → List GOp → Nat → Tree Nd × Nat × Int
  | T, [], i => (T, i, 0)
  | T, o :: l, i => if valG T o = 0 then allG (appG T o) l (i + 1) else (zeroT, i, valG T o)
open Classical in
noncomputable def allR (T : Tree Nd) (l : List GOp) : Tree Nd × Nat × Int := if TP.RightT T then allG T l 0 else (zeroT, 0, 2)
theorem tree3_end {A : AS} {T : Tree Nd} {k k' : IntKind} {n m : Int} : Frz A (tupleOf [.agg #[.int .u64 T.d.id, .bool T.d.leaf, .string (bs T.d.label), rowA T.d.attrs, .string (bs T.d.text), rowK T.kids], .int k n, .int k' m]) (.tuple #[vNode T, .int k n, .int k' m]) := by
  have h : clean (vNode T) = true := nodeC_clean T
  rw [vNode, nodeC_eq] at h ⊢
  exact .tuple (.cons (.clean h) (.clean rfl))
theorem applyAll_fn {K L : Nat} {T : Tree Nd} (hT : bT K L T) (l : List GOp) (hK : K + l.length + 1 ≤ 2097152) (hL : L + l.length * 1048576 ≤ 1099511627776) (hl : ∀ o ∈ l, lenG o) :
    Fn prog 9 [vNode T, rowO l] (.tuple #[vNode (allR T l).1, .int .i64 (allR T l).2.1, .int .i64 (allR T l).2.2]) := by
  refine fn_is func9 ntmps9 results9 rfl cfgOK mixed (cl2 (nodeC_clean T) (rowO_clean l)) ?_
  have c1 := right31_fn (by omega) hT
  simp only [vNode, nodeC_eq] at c1
  refine burst ?_
  refine sCall_fn (by assumption) ?_
  refine burst ?_
  refine ifND (fun hr => ?_) (fun hr => ?_)
  · have e : allR T l = (zeroT, 0, 2) := by unfold allR; rw [if_neg hr]
    rw [e]
    refine burst ?_
    refine ends (.tuple (.cons (.agg zero_frz) (.clean rfl))) rfl
  have e : allR T l = allG T l 0 := by unfold allR; rw [if_pos hr]
  rw [e]
  clear e hr c1
  obtain ⟨r, hr⟩ : ∃ r, r = allG T l 0 := ⟨_, rfl⟩
  rw [← hr]
  replace hr := Hid.mk hr
  refine burst ?_
  refine W_for l.length (fun i tm A => ∃ (m : List AB) (U : Tree Nd), A = mk m ∧ tget tm 1 = rowO l ∧ tget tm 2 = .pointer (some ⟨0, 0, none⟩) ∧ tget tm 4 = .pointer (some ⟨1, 0, none⟩) ∧ tget tm 7 = .int .i64 i ∧ m[0]? = some (AB.cells (nodeL U) 26 (0, 0)) ∧ m[1]? = some (AB.cells zeroL 26 (0, 0)) ∧ m.length = 2 + i ∧
    Hid (bT (K + i) (L + i * 1048576) U) ∧ Hid (r = allG U (l.drop i) i)) ?_ 0 _ _ (by omega) ⟨[AB.cells (nodeL T) 26 (0, 0), AB.cells zeroL 26 (0, 0)], T, rfl, look, look, look, look, rfl, rfl, rfl, ⟨by simpa using hT⟩, ⟨hr.out⟩⟩
  rintro i tm A hi ⟨m, U, rfl, h1, h2, h4, h7, f0, f1, hm, hU, hall⟩ next
  replace next := Hid.mk next
  clear hT hr
  have hm1 : m.length < 16777216 := by omega
  have hm2 : m.length + 2 < 16777216 := by omega
  have hm3 : m.length + 1 < 16777216 := by omega
  have n0 : ¬ m.length = 0 := by omega
  have n1 : ¬ m.length = 1 := by omega
  have g0 : (m ++ [AB.cells zeroL 26 (0, 0)])[0]? = some (AB.cells (nodeL U) 26 (0, 0)) := by rw [List.getElem?_append_left (by omega)]; exact f0
  have g1 : (m ++ [AB.cells zeroL 26 (0, 0)])[1]? = some (AB.cells zeroL 26 (0, 0)) := by rw [List.getElem?_append_left (by omega)]; exact f1
  have g2 : (m ++ [AB.cells zeroL 26 (0, 0)])[m.length]? = some (AB.cells zeroL 26 (0, 0)) := by simp
  replace hm := Hid.mk hm
  simp only [nodeL, zeroL] at f0 f1 g0 g1 g2
  refine burst ?_
  refine ifD (fun q => ?_) (fun q => ?_)
  · obtain ⟨o, e1⟩ : ∃ o, l[i]? = some o := ⟨_, get_some q⟩
    have hw := wrap_succ (Nat.le_of_lt q) (by omega)
    have c := apply_fn (K := K + i) (L := L + i * 1048576) (by omega) (Nat.le_trans (Nat.add_le_add_left (Nat.mul_le_mul_right _ hi) _) hL) hU.out o (hl o (List.mem_of_getElem? e1))
    simp only [vNode, nodeC_eq, vOp, opC] at c
    have hdrop : l.drop i = o :: l.drop (i + 1) := by
      rw [List.drop_eq_getElem_cons q]
      congr 1
      rw [List.getElem?_eq_getElem q] at e1; exact Option.some.inj e1
    have hstep : Hid (r = if valG U o = 0 then allG (appG U o) (l.drop (i + 1)) (i + 1) else (zeroT, i, valG U o)) := ⟨by rw [hall.out, hdrop]; rfl⟩
    have hbt : Hid (valG U o = 0 → bT (K + (i + 1)) (L + (i + 1) * 1048576) (appG U o)) := ⟨fun hv => by
      obtain ⟨_, hf, _⟩ := val_zero.1 hv
      have := hU.out.ap (form_abs hf) (appG_ap hv)
      rw [show K + (i + 1) = K + i + 1 by omega, show L + (i + 1) * 1048576 = L + i * 1048576 + 1048576 by omega]; exact this⟩
    clear hall hU hdrop hl
    by_cases hv : valG U o = 0
    · rw [if_pos hv, hv] at c
      have hst := hstep.out
      rw [if_pos hv] at hst
      have hbv := hbt.out hv
      clear hstep hbt hv
      replace hst := Hid.mk hst
      replace hbv := Hid.mk hbv
      generalize appG U o = V at *
      refine burst ?_
      refine sDraw_news 9 cfgOK rfl rfl zr26 hm2 (by kernel_rfl) ?_
      refine burst ?_
      refine sCall_fn (by assumption) ?_
      refine burst ?_
      refine next.out _ _ q ⟨_, V, rfl, look, look, look, look, ?_, ?_, ?_, ⟨hbv.out⟩, ⟨hst.out⟩⟩
      · rw [gset, if_pos rfl, gset, if_neg n0, g0]; rfl
      · rw [gset, if_neg (by decide), gset, if_neg n1, g1]
      · have := hm.out
        simp; omega
    · rw [if_neg hv] at c
      have hst := hstep.out
      rw [if_neg hv] at hst
      rw [hst]
      generalize valG U o = e at *
      clear hstep hbt hst
      refine burst ?_
      refine sDraw_news 9 cfgOK rfl rfl zr26 hm2 (by kernel_rfl) ?_
      refine burst ?_
      refine sCall_fn (by assumption) ?_
      refine burst ?_
      refine ends (.tuple (.cons (.agg zero_frz) (.clean rfl))) rfl
  · have hd : l.drop i = [] := List.drop_of_length_le (by omega)
    have hst := hall.out
    rw [hd] at hst
    rw [hst]
    have hii : i = l.length := by omega
    subst hii
    clear hst hall hU hd hl next
    refine burst ?_
    exact ends tree3_end rfl
end Go.Ev
namespace Go.Ev
open Go
variable {P : Program}
def anyN : Nat := rowN + ptrN + 1
theorem anyN_big : big ≤ anyN := by decide
theorem anyN_fr : frN anyN = false := by decide
theorem Fn.ofNil {f : FuncId} {v' : Value} (hcl : clean v' = true) (hf : ∃ fn, P.funcs[f]? = some fn ∧ fn.body.isSome = true)
    (h1 : ∃ v A', CallsW P f [.slice none 0 0] A0 v A' ∧ Frz A' v v') (h2 : ∀ off sp, ∃ v A', CallsW P f [.slice (some ⟨anyN, off, sp⟩) 0 big] A0 v A' ∧ Frz A' v v') : Fn P f [frow 0 []] v' := by
  refine Fn.ofAlt hcl hf fun φ w Vs hV => ?_
  obtain ⟨V, M, rfl, hV, hM⟩ := hV
  simp only [RVL] at hM
  subst hM
  simp only [frow, RV] at hV
  obtain ⟨F, C, hF, hC, hr⟩ := hV
  simp only [funRel, if_true] at hr
  have hC0 : lenOf ⟨[Value.int .i64 ((0 : Nat) : Int)]⟩ = 0 := rfl
  rw [hC0] at hr
  rcases hr with ⟨e1, e2, e3⟩ | ⟨a, cap, e1, hle, hs⟩
  · subst e1
    obtain ⟨v, A', hc, hz⟩ := h1
    exact ⟨φ, [.slice none 0 0], v, A', rfl, fun _ _ => ⟨rfl, rfl⟩, rfl, ⟨_, _, rfl, rfl, rfl⟩, hc, hz⟩
  · subst e1
    obtain ⟨v, A', hc, hz⟩ := h2 a.off a.spot
    refine ⟨⟨fun n => if n = anyN then a.block else φ.b n, fun n => if n = anyN then cap else φ.x n, φ.F⟩, [.slice (some ⟨anyN, a.off, a.spot⟩) 0 big], v, A', rfl, fun n hn => ?_, ?_, ⟨_, _, rfl, ?_, rfl⟩, hc, hz⟩
    · have : n ≠ anyN := fun e => by rw [e, anyN_fr] at hn; cases hn
      simp [this]
    · simp only [vokL, vok, Bool.and_true]
      rw [AS.ok_iff]
      exact .inr anyN_big
    · simp only [RV, renA, renCap, if_true]
      rw [if_neg (Nat.lt_irrefl _)]
      obtain ⟨b, o, s⟩ := a
      simp
end Go.Ev
namespace Go.Ev
open Go
variable {P : Program} {φ : Rn} {w : World} {A : AS}
theorem takeWhile_le {α : Type} {p q : α → Bool} (h : ∀ x, p x = true → q x = true) : ∀ {l : List α}, (l.takeWhile p).length ≤ (l.takeWhile q).length
  | [] => Nat.le_refl _
  | x :: l => by
    simp only [List.takeWhile_cons]
    cases hp : p x with
    | false => simp
    | true => rw [h x hp]; simp [takeWhile_le h (l := l)]
def dfree (ops : List Oper) : Nat → List Oper → List Nat → Seen → List Nat → List Nat → List Nat → Bool
  | _, [], _, _, _, _, _ => true
  | i, o :: rest, ms, sn, ts, us, rs =>
    let m := maskOf i ms o.after.toList 0
    let ls := looks ops o
    ((opsL o.op).all opk && tempsOk sn m ls o.dst && o.after.toList.all (fun e => !bind e || Nat.blt e.on i)) &&
    (match kindOf o with
    | .news => false
    | .still => dfree ops (i + 1) rest (m :: ms) (seenOf sn i ls o.dst) ts us rs
    | .reads => us.all (fun t => m.testBit t) && dfree ops (i + 1) rest (m :: ms) (seenOf sn i ls o.dst) ts us (i :: rs)
    | .turns => (ts.all (fun t => m.testBit t) && (isFn o || rs.all (fun t => m.testBit t))) && dfree ops (i + 1) rest (m :: ms) (seenOf sn i ls o.dst) (i :: ts) (if isFn o then us else i :: us) rs)
theorem dfree_draw {ns : Nat} {ops : List Oper} {rcs : Nat → Rec} {ids : List (Option Nat)} (hids : ∀ x ∈ ids, x = none) {base : List Nat} : ∀ (rest : List Oper) (i : Nat) (S : DS) (A : AS) (hs : List AS) (ts us rs : List Nat) (tm' : Trie Value) (A' : AS),
    dfree ops i rest S.ms S.sn ts us rs = true → S.hs = A :: hs → A.pend = base → (∀ t ∈ S.ts, t ∈ ts) → (∀ x ∈ S.rs, x.1 ∈ rs) → (∀ x ∈ S.rs, isVal x.2.1 = true ∧ aop P x.2.2.1 x.2.1 A = some (x.2.2.2, A)) → (∀ B ∈ hs.take (S.ts.takeWhile fun t => !us.contains t).length, B = A) →
    evSeqK P ns ops rcs i rest S.tm A tm' A' → ∃ S', drawAll P cfg0 rcs false ns ops base ids i rest S = some S' ∧ S'.tm = tm' ∧ ∃ hs', S'.hs = A' :: hs'
  | [], i, S, A, hs, ts, us, rs, tm', A', _, hh, _, _, _, _, _, h => by
    exact ⟨S, rfl, h.1.symm, hs, by rw [hh, h.2]⟩
  | o :: rest, i, S, A, hs, ts, us, rs, tm', A', hst, hh, hp, hts, hrs, hval, hsam, h => by
    simp only [dfree, Bool.and_eq_true] at hst
    have hcheck : dCheck S i (maskOf i S.ms o.after.toList 0) (looks ops o) o = true := by
      unfold dCheck
      simp only [Bool.and_eq_true]
      exact hst.1
    have hA0 : ({ A with pend := pends (maskOf i S.ms o.after.toList 0) ids 0 ++ base } : AS) = A := by
      rw [pends_none ids 0 hids, List.nil_append, ← hp]
    simp only [drawAll, drawOne]
    rw [if_pos hcheck]
    unfold dDo
    rw [hh]
    simp only
    by_cases hw : wants S.tm ops o = true
    · rw [if_pos hw]
      simp only [dKind, hA0]
      replace h := h.1 hw
      obtain ⟨v, A1, he, hp1, hkeep, h⟩ := h
      ·
        cases hk : kindOf o with
        | news => rw [hk] at hst; exact absurd hst.2 (by simp)
        | still =>
          rw [hk] at hst
          have e := evOper_pend (.inl hk) he
          subst e
          simp only [dStill, he, dSeen]
          exact dfree_draw hids rest (i + 1) { tm := putD ns S.tm o.dst v, ms := maskOf i S.ms o.after.toList 0 :: S.ms, sn := seenOf S.sn i (looks ops o) o.dst, hs := S.hs, ts := S.ts, rs := S.rs } A1 hs ts us rs tm' A' hst.2 hh hp hts hrs hval hsam h
        | reads =>
          rw [hk] at hst
          simp only [Bool.and_eq_true] at hst
          have e := evOper_pend (.inr hk) he
          subst e
          have hle : (S.ts.takeWhile fun t => !(maskOf i S.ms o.after.toList 0).testBit t).length ≤ (S.ts.takeWhile fun t => !us.contains t).length := takeWhile_le fun t ht => by
            cases hc : us.contains t with
            | false => rfl
            | true =>
              have := List.all_eq_true.1 hst.2.1 t (by simpa using hc)
              rw [this] at ht; cases ht
          have hpA : ({ A1 with pend := pends (maskOf i S.ms o.after.toList 0) ids 0 ++ base } : AS) = A1 := hA0
          have hall : (hs.take (S.ts.takeWhile fun t => !(maskOf i S.ms o.after.toList 0).testBit t).length).all (still P (pends (maskOf i S.ms o.after.toList 0) ids 0 ++ base) S.tm o v) = true := by
            rw [List.all_eq_true]
            intro B hB
            have hB := hsam B ((List.take_sublist_take_left hle).subset hB)
            subst hB
            unfold still
            rw [hpA, kind_aop (.inr hk) he]
            exact veq_refl v
          simp only [dReads, he, hall, if_true, dSeen]
          exact dfree_draw hids rest (i + 1) { tm := putD ns S.tm o.dst v, ms := maskOf i S.ms o.after.toList 0 :: S.ms, sn := seenOf S.sn i (looks ops o) o.dst, hs := S.hs, ts := S.ts, rs := (i, o, S.tm, v) :: S.rs } A1 hs ts us (i :: rs) tm' A' hst.2.2 hh hp hts
            (fun x hx => by
              rcases List.mem_cons.1 hx with rfl | hx
              · exact List.mem_cons_self ..
              · exact List.mem_cons_of_mem _ (hrs x hx)) (fun x hx => by
              rcases List.mem_cons.1 hx with rfl | hx
              · exact ⟨kind_val (.inr hk), kind_aop (.inr hk) he⟩
              · exact hval x hx) hsam h
        | turns =>
          rw [hk] at hst
          simp only [Bool.and_eq_true] at hst
          have hp1 : A1.pend = base := hp1.trans hp
          have hto : turnOk S.ts (maskOf i S.ms o.after.toList 0) = true := by
            cases hS : S.ts with
            | nil => rfl
            | cons t r => exact List.all_eq_true.1 hst.2.1.1 t (hts t (by rw [hS]; simp))
          have hA1 : ({ A1 with pend := base } : AS) = A1 := by rw [← hp1]
          have hag : again P (pends 0 ids 0 ++ base) (maskOf i S.ms o.after.toList 0) { A1 with pend := base } S.rs = true := by
            rcases Bool.or_eq_true _ _ ▸ hst.2.1.2 with hf | hall
            · have := hkeep hf
              subst this
              exact again_same (hval)
            · exact again_all fun x hx => List.all_eq_true.1 hall x.1 (hrs x hx)
          simp only [hto, if_true, dTurns, he]
          rw [if_pos hag]
          simp only [hA1, dSeen]
          exact dfree_draw hids rest (i + 1) { tm := putD ns S.tm o.dst v, ms := maskOf i S.ms o.after.toList 0 :: S.ms, sn := seenOf S.sn i (looks ops o) o.dst, hs := A1 :: S.hs, ts := i :: S.ts, rs := S.rs.filter fun x => !(maskOf i S.ms o.after.toList 0).testBit x.1 } A1 (S.hs) (i :: ts) (if isFn o then us else i :: us) rs tm' A' hst.2.2 rfl hp1
            (fun x hx => by
              rcases List.mem_cons.1 hx with rfl | hx
              · exact List.mem_cons_self ..
              · exact List.mem_cons_of_mem _ (hts x hx)) (fun x hx => hrs x (List.mem_filter.1 hx).1) (fun x hx => by
              rcases Bool.or_eq_true _ _ ▸ hst.2.1.2 with hf | hall
              · have := hkeep hf
                subst this
                exact hval x (List.mem_filter.1 hx).1
              · have h1 := (List.mem_filter.1 hx).2
                rw [List.all_eq_true.1 hall x.1 (hrs x (List.mem_filter.1 hx).1)] at h1
                simp at h1) (fun B hB => by
              cases hf : isFn o with
              | true =>
                have := hkeep hf
                subst this
                rw [hf, if_pos rfl, hh] at hB
                simp only [List.takeWhile_cons] at hB
                split at hB
                · simp only [List.length_cons, List.take_succ_cons] at hB
                  rcases List.mem_cons.1 hB with e | hB
                  · exact e
                  · exact hsam B hB
                · simp at hB
              | false =>
                rw [hf, if_neg (by simp)] at hB
                simp [List.takeWhile_cons] at hB) h
    · rw [if_neg hw]
      replace h := h.2 (by simpa using hw)
      cases hk : kindOf o with
      | news => rw [hk] at hst; exact absurd hst.2 (by simp)
      | still =>
        rw [hk] at hst
        simp only [dSkip, hk, dSeen]
        exact dfree_draw hids rest (i + 1) { tm := putD ns S.tm o.dst undef, ms := maskOf i S.ms o.after.toList 0 :: S.ms, sn := seenOf S.sn i (looks ops o) o.dst, hs := S.hs, ts := S.ts, rs := S.rs } A hs ts us rs tm' A' hst.2 hh hp hts hrs hval hsam h
      | reads =>
        rw [hk] at hst
        simp only [Bool.and_eq_true] at hst
        simp only [dSkip, hk, dSeen]
        exact dfree_draw hids rest (i + 1) { tm := putD ns S.tm o.dst undef, ms := maskOf i S.ms o.after.toList 0 :: S.ms, sn := seenOf S.sn i (looks ops o) o.dst, hs := S.hs, ts := S.ts, rs := S.rs } A hs ts us (i :: rs) tm' A' hst.2.2 hh hp hts (fun x hx => List.mem_cons_of_mem _ (hrs x hx)) hval hsam h
      | turns =>
        rw [hk] at hst
        simp only [Bool.and_eq_true] at hst
        simp only [dSkip, hk, dSeen]
        exact dfree_draw hids rest (i + 1) { tm := putD ns S.tm o.dst undef, ms := maskOf i S.ms o.after.toList 0 :: S.ms, sn := seenOf S.sn i (looks ops o) o.dst, hs := S.hs, ts := S.ts, rs := S.rs } A hs (i :: ts) (if isFn o then us else i :: us) rs tm' A' hst.2.2 hh hp (fun x hx => List.mem_cons_of_mem _ (hts x hx)) hrs hval (fun B hB => by
          cases hf : isFn o with
          | true => rw [hf, if_pos rfl] at hB; exact hsam B hB
          | false =>
            rw [hf, if_neg (by simp)] at hB
            refine hsam B ((List.take_sublist_take_left (takeWhile_le fun t ht => ?_)).subset hB)
            simp only [List.contains_cons, Bool.not_or, Bool.and_eq_true] at ht
            exact ht.2) h
theorem dfree_ops {ops : List Oper} : ∀ (rest : List Oper) (i : Nat) (ms : List Nat) (sn : Seen) (ts us rs : List Nat), dfree ops i rest ms sn ts us rs = true → opsOk rest = true ∧ ∀ o ∈ rest, kindOf o ≠ .news
  | [], i, ms, sn, ts, us, rs, _ => ⟨rfl, by simp⟩
  | o :: rest, i, ms, sn, ts, us, rs, h => by
    simp only [dfree, Bool.and_eq_true] at h
    have fin : ∀ {ms sn ts us rs}, dfree ops (i + 1) rest ms sn ts us rs = true → kindOf o ≠ .news → opsOk (o :: rest) = true ∧ ∀ u ∈ o :: rest, kindOf u ≠ .news := fun h2 hk => by
      obtain ⟨q1, q2⟩ := dfree_ops rest _ _ _ _ _ _ h2
      refine ⟨?_, fun u hu => ?_⟩
      · unfold opsOk at q1 ⊢
        rw [List.all_cons, q1, h.1.1.1]; rfl
      · rcases List.mem_cons.1 hu with rfl | hu
        · exact hk
        · exact q2 u hu
    cases hk : kindOf o with
    | news => rw [hk] at h; exact absurd h.2 (by simp)
    | still => rw [hk] at h; exact fin h.2 (by rw [hk]; simp)
    | reads => rw [hk] at h; simp only [Bool.and_eq_true] at h; exact fin h.2.2 (by rw [hk]; simp)
    | turns => rw [hk] at h; simp only [Bool.and_eq_true] at h; exact fin h.2.2 (by rw [hk]; simp)
theorem wDraw_free (hc : CfgOK P cfg0) {ns : Nat} {ops : List Oper} {tm : Trie Value} {K : Trie Value → AS → Prop} (hst : dfree ops 0 ops [] ⟨.nil, .nil⟩ [] [] [] = true) (h : wOpsF P true ns ops ops tm A K) : wDraw P ns ops tm A K := by
  obtain ⟨q1, q2⟩ := dfree_ops _ _ _ _ _ _ _ hst
  obtain ⟨rcs, tm', A', h1, h2, h3, h4⟩ := wOpsF_ev hc (ops := ops.toArray) (tail := []) q1 ops 0 tm A K (by simp) h
  refine ⟨rcs, tm', A', h1, h2, fun φ w a hR hF => ?_⟩
  have h5 := h4 φ w a hR hF
  unfold evDraw
  rw [reserve_none ops A [] q2]
  simp only [List.reverse_nil, List.nil_append]
  obtain ⟨S', q3, q4, hs', q5⟩ := dfree_draw (P := P) (ids := List.replicate ops.length none) (base := A.pend) (by intro x hx; exact (List.mem_replicate.1 hx).2) ops 0 { tm, ms := [], sn := ⟨.nil, .nil⟩, hs := [A], ts := [], rs := [] } A [] [] [] [] tm' A' hst rfl rfl (by simp) (by simp) (by simp) (by simp) h5
  rw [q3]
  simp only [q5, q4]
theorem sDraw_free {ns : Nat} {ops : List Oper} {k : List Item} {tm : Trie Value} {Q : Trie Value → AS → Prop} (hc : CfgOK P cfg0) (hst : dfree ops 0 ops [] ⟨.nil, .nil⟩ [] [] [] = true) (h : wRun P true ns ops ops k tm A Q) : sDraw P ns ops k tm A Q := by
  unfold sDraw
  refine wDraw_free hc hst ?_
  unfold wRun at h
  exact h
end Go.Ev
namespace Go.Ev
open Go Go.Proofs Tryz
open TP (Str Tree Nd)
set_option maxRecDepth 100000
set_option maxHeartbeats 4000000
theorem aBin_row {P : Program} {t e : TypeId} {n : Nat} {cs : List Value} (hu : P.underlying t = some (.slice e)) (hn : n ≠ 0) : aBin P .eql t (frow n cs) (.slice none 0 0) = some (.bool false) := by
  unfold aBin
  have h1 : abin P .eql t (frow n cs) (.slice none 0 0) = none := rfl
  have h2 : aeq P .eql t (frow n cs) (.slice none 0 0) = none := rfl
  have h3 : aeqArr P .eql t (frow n cs) (.slice none 0 0) = none := by unfold aeqArr; rw [hu]; rfl
  have h4 : aeqRow P .eql t (frow n cs) (.slice none 0 0) = some (.bool false) := by
    unfold aeqRow
    have : rowOf (frow n cs) = some (n, cs) := rowOf_frow
    rw [this, hu]
    simp [negOf, hn]
  rw [h1, h2, h3, h4]
theorem aBin_nil64 : aBin prog .eql 64 (.slice none 0 0) (.slice none 0 0) = some (.bool true) := by kernel_rfl
theorem aBin_own64 {off : Nat} {sp : Option Nat} : aBin prog .eql 64 (.slice (some ⟨anyN, off, sp⟩) 0 big) (.slice none 0 0) = some (.bool false) := by kernel_rfl
theorem calls_frz {ns : Nat} {f : FuncId} {fn : Func} {body : Code} {args : List Value} {v : Value} {rs : Array ResultVar} (hfn : prog.funcs[f]? = some fn) (hns : fn.ntmps = ns) (hrs : fn.results = rs) (hbody : fn.body = some body)
    (h : W prog ns [.code body] (setArgs args 0 .nil) (mk []) fun tm A' => ∃ vs, aresults prog tm A' rs.toList = some vs ∧ Frz A' (tupleOf vs) v)
    (h1 : args.length ≤ ns := by exact Nat.le_of_ble_eq_true rfl) (h2 : ns < 65535 := by decide) (hok : codeOk body = true := by kernel_rfl) : ∃ v' A', CallsW prog f args (mk []) v' A' ∧ Frz A' v' v := by
  subst hns hrs
  obtain ⟨v0, A', hf, hc⟩ := fn_calls (R := fun v0 A' => Frz A' v0 v) cfgOK mixed hfn hbody h1 h2 hok h
  exact ⟨v0, A', hc, hf⟩
theorem news_zero {l : List AB} {elem k n b o c : Nat} {sp : Option Nat} (hn : n = 0) : News prog l elem k false (.slice (some ⟨b, o, sp⟩) n c) [] 0 := by
  subst hn
  refine ⟨?_, by simp, rfl⟩
  unfold newCells
  simp [sliceLen, sliceCells]
theorem clone_fn (p : List Int) (hp : p.length ≤ 16777216) : Fn prog 211 [rowI p] (rowI p) := by
  cases p with
  | nil =>
    refine Fn.ofNil (rowI_clean []) ⟨_, func211, rfl⟩ ?_ fun off sp => ?_
    · rw [mk_nil]
      have e := aBin_nil64
      refine calls_frz func211 ntmps211 results211 rfl ?_
      refine burst ?_
      refine ends ?_ rfl
      exact .nil
    · rw [mk_nil]
      have e := @aBin_own64 off sp
      obtain ⟨v', l', e2, o, g⟩ := app64 (l := [AB.cells [] 3 (0, 0)]) (.zero (b := 0) rfl) (news_zero (b := anyN) (o := off) (c := big) (sp := sp) rfl) (by simp) (by simp)
      refine calls_frz func211 ntmps211 results211 rfl ?_
      have hl : l'.length < 16777216 := by have := g.2.1; simp at this; omega
      clear g
      refine burst ?_
      exact ends (frz_own o hl rfl rfl rfl) rfl
  | cons x p =>
    refine fn_is func211 ntmps211 results211 rfl cfgOK mixed (cl1 (rowI_clean _)) ?_
    have e : aBin prog .eql 64 (rowI (x :: p)) (.slice none 0 0) = some (.bool false) := aBin_row (n := p.length + 1) (cs := ints (x :: p)) underlying64 (by omega)
    obtain ⟨v', l', e2, o, g⟩ := app64 (l := [AB.cells [] 3 (0, 0)]) (.zero (b := 0) rfl) (news_ints (x :: p)) (by simp) (by simpa using hp)
    have hl : l'.length < 16777216 := by have := g.2.1; simp at this; omega
    clear g
    refine burst ?_
    exact ends (frz_own o hl (by simp) rfl (ints_clean _)) rfl
theorem parent_fn (p : List Int) (i : Int) (hp : p.length ≤ 16777215) : Fn prog 129 [rowI (p ++ [i])] (.tuple #[rowI p, .int .i64 i, .bool true]) := by
  refine fn_is func129 ntmps129 results129 rfl cfgOK mixed (cl1 (rowI_clean _)) ?_
  have hn : (p ++ [i]).length = p.length + 1 := by simp
  have c := clone_fn p (by omega)
  have hw2 : IntKind.i64.wrap (((p.length + 1 : Nat) : Int) - 1) = (p.length : Int) := by rw [wrap_in (by omega) (by omega)]; omega
  have hlt : p.length < p.length + 1 := by omega
  have hle : p.length ≤ p.length + 1 := by omega
  have e0 : (p ++ [i])[p.length]? = some i := by simp
  have hsl : frPart (p.length + 1) (ints (p ++ [i])) 1 0 p.length = some (rowI p) := by
    rw [← hn, frPart_ints, if_pos (by simp)]
    simp
  refine burst ?_
  refine ifD (fun h => by omega) (fun h => ?_)
  clear h
  refine burst ?_
  refine sDraw_free cfgOK (by kernel_rfl) ?_
  refine burst ?_
  refine sCall_fn (by assumption) ?_
  refine burst ?_
  refine ends (.tuple (.cons (.clean (rowI_clean p)) (.clean rfl))) rfl
theorem some64_fn (p : List Int) (hp : p.length ≤ 16777216) : Fn prog 147 [rowI p] (rowI p) := by
  refine fn_is func147 ntmps147 results147 rfl cfgOK mixed (cl1 (rowI_clean _)) ?_
  obtain ⟨v', l', e2, o, g⟩ := app64 (l := []) .nil (news_ints p) (by simp) (by simpa using hp)
  have hl : l'.length < 16777216 := by have := g.2.1; simp at this; omega
  clear g
  refine burst ?_
  exact ends (frz_own o hl (by simp) rfl (ints_clean _)) rfl
theorem some65_fn (p : List GPiece) (hp : p.length ≤ 16777216) : Fn prog 148 [rowP p] (rowP p) := by
  refine fn_is func148 ntmps148 results148 rfl cfgOK mixed (cl1 (rowP_clean _)) ?_
  obtain ⟨v', l', e2, o, g⟩ := app65 (l := []) .nil (news_row pieceC_length pieceC_cellv p) (by simp) (by simpa using hp)
  have hl : l'.length < 16777216 := by have := g.2.1; simp at this; omega
  clear g
  refine burst ?_
  exact ends (frz_own o hl (by simp) rfl (row_clean pieceC_clean p)) rfl
theorem key_fn (s : Str) : Fn prog 198 [.string (bs s)] (.bool (decide (keyG s))) := by
  refine fn_is func198 ntmps198 results198 rfl cfgOK mixed (cl1 rfl) ?_
  by_cases h : s = []
  · subst h
    (repeat' (first | with_reducible refine ends_bool ?_ | with_reducible refine ends_int ?_ | with_reducible refine ifND (fun _ => ?_) (fun _ => ?_) | with_reducible refine ifD (fun _ => ?_) (fun _ => ?_) | with_reducible refine guardND (fun _ => ?_) (fun _ => ?_) | with_reducible refine guardD (fun _ => ?_) (fun _ => ?_) | with_reducible refine sIf_intro (fun _ => ?_) (fun _ => ?_) | with_reducible refine sGuard_intro (fun _ => ?_) (fun _ => ?_) | with_reducible refine sCall_fn (by assumption) ?_ | with_reducible refine sDraw_seq cfgOK (by kernel_rfl) ?_ | ((first | with_reducible show W _ _ (.code _ :: _) _ _ _ | with_reducible show wRun _ _ _ _ _ _ _ _ _); refine burst ?_))) <;> simp_all [keyG]
  · have := List.length_pos_iff.2 h
    (repeat' (first | with_reducible refine ends_bool ?_ | with_reducible refine ends_int ?_ | with_reducible refine ifND (fun _ => ?_) (fun _ => ?_) | with_reducible refine ifD (fun _ => ?_) (fun _ => ?_) | with_reducible refine guardND (fun _ => ?_) (fun _ => ?_) | with_reducible refine guardD (fun _ => ?_) (fun _ => ?_) | with_reducible refine sIf_intro (fun _ => ?_) (fun _ => ?_) | with_reducible refine sGuard_intro (fun _ => ?_) (fun _ => ?_) | with_reducible refine sCall_fn (by assumption) ?_ | with_reducible refine sDraw_seq cfgOK (by kernel_rfl) ?_ | ((first | with_reducible show W _ _ (.code _ :: _) _ _ _ | with_reducible show wRun _ _ _ _ _ _ _ _ _); refine burst ?_)))
    · rw [decide_eq_decide, keyG]; omega
end Go.Ev
namespace Go.Ev
open Go
variable {P : Program} {φ : Rn} {w : World} {A : AS}
def ashape (ns a b : Nat) : List Oper → List Nat → List Nat → Bool
  | [], _, _ => true
  | o :: rest, la, lb => o.guard.isNone && (match o.op, o.dst with
    | .fieldAddr _ (.tmp x) _, some d => Nat.blt d ns && !(d == a) && !(d == b) && !la.contains d && !lb.contains d && (if x == a then ashape ns a b rest (d :: la) lb else x == b && ashape ns a b rest la (d :: lb))
    | .load _ (.tmp x), some d => la.contains x && !(d == a) && !(d == b) && !la.contains d && !lb.contains d && ashape ns a b rest la lb
    | .store _ (.tmp x) _, none => lb.contains x && ashape ns a b rest la lb
    | _, _ => false)
def aord (ops : List Oper) : Nat → List Oper → List Nat → Seen → List Nat → Bool
  | _, [], _, _, _ => true
  | i, o :: rest, ms, sn, ts =>
    let m := maskOf i ms o.after.toList 0
    let ls := looks ops o
    ((opsL o.op).all opk && tempsOk sn m ls o.dst && o.after.toList.all (fun e => !bind e || Nat.blt e.on i)) &&
    (match kindOf o with
    | .news => false
    | .still => aord ops (i + 1) rest (m :: ms) (seenOf sn i ls o.dst) ts
    | .reads => aord ops (i + 1) rest (m :: ms) (seenOf sn i ls o.dst) ts
    | .turns => ts.all (fun t => m.testBit t) && aord ops (i + 1) rest (m :: ms) (seenOf sn i ls o.dst) (i :: ts))
def PtIn (n : Nat) (v : Value) : Prop := ∃ o, v = .pointer (some ⟨n, o, none⟩)
def RdIn (P : Program) (N : Nat) (A : AS) (x : Nat × Oper × Trie Value × Value) : Prop := ∀ B : AS, B.h.get N = A.h.get N → aop P x.2.2.1 x.2.1 B = some (x.2.2.2, B)
theorem aload_get {B : AS} {N o : Nat} (h : B.h.get N = A.h.get N) (t : TypeId) : aload P B t (.pointer (some ⟨N, o, none⟩)) = aload P A t (.pointer (some ⟨N, o, none⟩)) := by
  have hc : ∀ k, cellsFrom B (.pointer (some ⟨N, o, none⟩)) k = cellsFrom A (.pointer (some ⟨N, o, none⟩)) k := fun k => by
    have e : addr (.pointer (some ⟨N, o, none⟩)) = some ⟨N, o, none⟩ := rfl
    unfold cellsFrom
    rw [e]
    simp only
    unfold cellsAt
    rw [h]
  unfold aload
  simp only [hc]
theorem setCells_get {M off : Nat} {vs : List Value} {A' : AS} (hM : M + 1 < 2 ^ 24) (h : setCells A M off vs = some A') {n : Nat} (hn : n ≠ M) : A'.h.get n = A.h.get n ∧ A'.pend = A.pend := by
  unfold setCells at h
  split at h
  · split at h
    · split at h
      · simp only [Option.some.injEq] at h; subst h; exact ⟨by rw [set_get A M _ hM, if_neg hn], rfl⟩
      · cases h
    · split at h
      · simp only [Option.some.injEq] at h; subst h; exact ⟨by rw [set_get A M _ hM, if_neg hn], rfl⟩
      · cases h
    · cases h
  · cases h
theorem afield_pt {s : TypeId} {p v : Value} {f n : Nat} (hp : PtIn n p) (h : afieldAt P s p f = some v) : PtIn n v := by
  obtain ⟨o, rfl⟩ := hp
  unfold afieldAt at h
  split at h
  · split at h
    · split at h
      · split at h
        · cases h
        · rename_i fd _ _ _ _ _
          have e : ptrAdd (.pointer (some ⟨n, o, none⟩)) fd.offset = some (.pointer (some ⟨n, o + fd.offset, none⟩)) := by simp [ptrAdd, addr, Addr.add]
          rw [e] at h
          cases h
          exact ⟨_, rfl⟩
      · cases h
    · cases h
  · cases h
theorem tget_putE {ns d t : Nat} {tm : Trie Value} {v : Value} (hns : ns < 65535) : tget (putD ns tm (some d) v) t = if d < ns ∧ t = d then v else tget tm t := tget_put hns
theorem again_in {N m : Nat} {pend base : List Nat} : ∀ {rs : List (Nat × Oper × Trie Value × Value)}, (∀ x ∈ rs, RdIn P N A x) → again P pend m { A with pend := base } rs = true
  | [], _ => rfl
  | (j, o, tm, u) :: rs, h => by
    simp only [again, Bool.and_eq_true, Bool.or_eq_true]
    refine ⟨.inr ?_, again_in fun x hx => h x (List.mem_cons_of_mem _ hx)⟩
    have := h _ (List.mem_cons_self ..) { A with pend := pend } rfl
    simp only at this
    unfold still
    rw [show ({ ({ A with pend := base } : AS) with pend := pend } : AS) = { A with pend := pend } from rfl, this]
    exact veq_refl u
theorem apart_draw {ns a b N M : Nat} (hns : ns < 65535) (hMN : N ≠ M) (hM : M + 1 < 2 ^ 24) {ops : List Oper} {rcs : Nat → Rec} {ids : List (Option Nat)} (hids : ∀ x ∈ ids, x = none) {base : List Nat} : ∀ (rest : List Oper) (i : Nat) (S : DS) (A : AS) (hs : List AS) (ts la lb : List Nat) (tm' : Trie Value) (A' : AS),
    aord ops i rest S.ms S.sn ts = true → ashape ns a b rest la lb = true → S.hs = A :: hs → A.pend = base → (∀ t ∈ S.ts, t ∈ ts) → (∀ B ∈ hs, B.h.get N = A.h.get N) → (∀ x ∈ S.rs, RdIn P N A x) →
    PtIn N (tget S.tm a) → PtIn M (tget S.tm b) → (∀ x ∈ la, PtIn N (tget S.tm x)) → (∀ x ∈ lb, PtIn M (tget S.tm x)) →
    evSeq P ns ops rcs i rest S.tm A = some (tm', A') → ∃ S', drawAll P cfg0 rcs false ns ops base ids i rest S = some S' ∧ S'.tm = tm' ∧ ∃ hs', S'.hs = A' :: hs'
  | [], i, S, A, hs, ts, la, lb, tm', A', _, _, hh, _, _, _, _, _, _, _, _, h => by
    simp only [evSeq, Option.some.injEq, Prod.mk.injEq] at h
    exact ⟨S, rfl, h.1, hs, by rw [hh, h.2]⟩
  | o :: rest, i, S, A, hs, ts, la, lb, tm', A', hst, hsh, hh, hp, hts, hmem, hrd, ha, hb, hla, hlb, h => by
    simp only [aord, Bool.and_eq_true] at hst
    have hcheck : dCheck S i (maskOf i S.ms o.after.toList 0) (looks ops o) o = true := by
      unfold dCheck
      simp only [Bool.and_eq_true]
      exact hst.1
    have hA0 : ({ A with pend := pends (maskOf i S.ms o.after.toList 0) ids 0 ++ base } : AS) = A := by
      rw [pends_none ids 0 hids, List.nil_append, ← hp]
    obtain ⟨dst, op, ty, pos, after, g⟩ := o
    simp only [ashape, Bool.and_eq_true] at hsh
    obtain ⟨hg, hsh⟩ := hsh
    simp only [Option.isNone_iff_eq_none] at hg
    subst hg
    simp only [drawAll, drawOne]
    rw [if_pos hcheck]
    unfold dDo
    rw [hh]
    have hw : wants S.tm ops ⟨dst, op, ty, pos, after, none⟩ = true := rfl
    simp only [hw, if_true, dKind, hA0]
    simp only [evSeq, hw, if_true] at h
    split at h
    case h_2 => cases h
    rename_i v A1 he
    by_cases hp1 : A1.pend = A.pend
    case neg => rw [if_neg hp1] at h; cases h
    rw [if_pos hp1] at h
    split at hsh
    ·
      rename_i s x f d
      simp only [Bool.and_eq_true, Bool.not_eq_true', beq_eq_false_iff_ne] at hsh
      have hk : kindOf ⟨some d, .fieldAddr s (.tmp x) f, ty, pos, after, none⟩ = .still := rfl
      rw [hk] at hst
      have e := evOper_pend (.inl hk) he
      have hv := kind_aop (.inl hk) he
      subst e
      simp only [hk, dStill, he, dSeen]
      obtain ⟨⟨⟨⟨⟨hd, hda⟩, hdb⟩, hdla⟩, hdlb⟩, hsh⟩ := hsh
      have hd : d < ns := by simpa [Nat.blt_eq] using hd
      have hval : afieldAt P s (tget S.tm x) f = some v := by
        have hv : still1 A1 (afieldAt P s (tget S.tm x) f) = some (v, A1) := hv
        cases hq : afieldAt P s (tget S.tm x) f with
        | none => rw [hq] at hv; cases hv
        | some u => rw [hq] at hv; cases hv; rfl
      have ga : PtIn N (tget (putD ns S.tm (some d) v) a) := by rw [tget_putE hns, if_neg (fun h => hda h.2.symm)]; exact ha
      have gb : PtIn M (tget (putD ns S.tm (some d) v) b) := by rw [tget_putE hns, if_neg (fun h => hdb h.2.symm)]; exact hb
      have gla : ∀ y ∈ la, PtIn N (tget (putD ns S.tm (some d) v) y) := fun y hy => by
        rw [tget_putE hns, if_neg (fun h => by rw [h.2] at hy; simp at hdla; exact hdla hy)]; exact hla y hy
      have glb : ∀ y ∈ lb, PtIn M (tget (putD ns S.tm (some d) v) y) := fun y hy => by
        rw [tget_putE hns, if_neg (fun h => by rw [h.2] at hy; simp at hdlb; exact hdlb hy)]; exact hlb y hy
      have gd : tget (putD ns S.tm (some d) v) d = v := by rw [tget_putE hns, if_pos ⟨hd, rfl⟩]
      split at hsh
      · rename_i hx
        have hx : x = a := by simpa using hx
        subst hx
        refine apart_draw hns hMN hM hids rest (i + 1) { tm := putD ns S.tm (some d) v, ms := maskOf i S.ms after.toList 0 :: S.ms, sn := seenOf S.sn i (looks ops ⟨some d, .fieldAddr s (.tmp x) f, ty, pos, after, none⟩) (some d), hs := S.hs, ts := S.ts, rs := S.rs } A1 hs ts (d :: la) lb tm' A' hst.2 hsh hh hp hts hmem hrd ga gb (fun y hy => ?_) glb h
        rcases List.mem_cons.1 hy with rfl | hy
        · show PtIn N (tget (putD ns S.tm (some y) v) y)
          rw [gd]; exact afield_pt ha hval
        · exact gla y hy
      · simp only [Bool.and_eq_true, beq_iff_eq] at hsh
        obtain ⟨hx, hsh⟩ := hsh
        subst hx
        refine apart_draw hns hMN hM hids rest (i + 1) { tm := putD ns S.tm (some d) v, ms := maskOf i S.ms after.toList 0 :: S.ms, sn := seenOf S.sn i (looks ops ⟨some d, .fieldAddr s (.tmp x) f, ty, pos, after, none⟩) (some d), hs := S.hs, ts := S.ts, rs := S.rs } A1 hs ts la (d :: lb) tm' A' hst.2 hsh hh hp hts hmem hrd ga gb gla (fun y hy => ?_) h
        rcases List.mem_cons.1 hy with rfl | hy
        · show PtIn M (tget (putD ns S.tm (some y) v) y)
          rw [gd]; exact afield_pt hb hval
        · exact glb y hy
    ·
      rename_i t x d
      simp only [Bool.and_eq_true, Bool.not_eq_true', beq_eq_false_iff_ne] at hsh
      have hk : kindOf ⟨some d, .load t (.tmp x), ty, pos, after, none⟩ = .reads := rfl
      rw [hk] at hst
      have e := evOper_pend (.inr hk) he
      have hv := kind_aop (.inr hk) he
      subst e
      obtain ⟨⟨⟨⟨⟨hx, hda⟩, hdb⟩, hdla⟩, hdlb⟩, hsh⟩ := hsh
      have hx := hla x (by simpa using hx)
      have hR : RdIn P N A1 (i, ⟨some d, .load t (.tmp x), ty, pos, after, none⟩, S.tm, v) := fun B hB => by
        obtain ⟨o, hx⟩ := hx
        have hv : still1 A1 (aload P A1 t (tget S.tm x)) = some (v, A1) := hv
        show still1 B (aload P B t (tget S.tm x)) = some (v, B)
        rw [hx] at hv ⊢
        rw [aload_get hB]
        cases hq : aload P A1 t (.pointer (some ⟨N, o, none⟩)) with
        | none => rw [hq] at hv; cases hv
        | some u => rw [hq] at hv; cases hv; rfl
      have hall : (hs.take (S.ts.takeWhile fun t => !(maskOf i S.ms after.toList 0).testBit t).length).all (still P (pends (maskOf i S.ms after.toList 0) ids 0 ++ base) S.tm ⟨some d, .load t (.tmp x), ty, pos, after, none⟩ v) = true := by
        rw [List.all_eq_true]
        intro B hB
        have := hR { B with pend := pends (maskOf i S.ms after.toList 0) ids 0 ++ base } (hmem B (List.mem_of_mem_take hB))
        simp only at this
        unfold still
        rw [this]
        exact veq_refl v
      simp only [hk, dReads, he, hall, if_true, dSeen]
      have ga : PtIn N (tget (putD ns S.tm (some d) v) a) := by rw [tget_putE hns, if_neg (fun h => hda h.2.symm)]; exact ha
      have gb : PtIn M (tget (putD ns S.tm (some d) v) b) := by rw [tget_putE hns, if_neg (fun h => hdb h.2.symm)]; exact hb
      have gla : ∀ y ∈ la, PtIn N (tget (putD ns S.tm (some d) v) y) := fun y hy => by
        rw [tget_putE hns, if_neg (fun h => by rw [h.2] at hy; simp at hdla; exact hdla hy)]; exact hla y hy
      have glb : ∀ y ∈ lb, PtIn M (tget (putD ns S.tm (some d) v) y) := fun y hy => by
        rw [tget_putE hns, if_neg (fun h => by rw [h.2] at hy; simp at hdlb; exact hdlb hy)]; exact hlb y hy
      exact apart_draw hns hMN hM hids rest (i + 1) { tm := putD ns S.tm (some d) v, ms := maskOf i S.ms after.toList 0 :: S.ms, sn := seenOf S.sn i (looks ops ⟨some d, .load t (.tmp x), ty, pos, after, none⟩) (some d), hs := S.hs, ts := S.ts, rs := (i, ⟨some d, .load t (.tmp x), ty, pos, after, none⟩, S.tm, v) :: S.rs } A1 hs ts la lb tm' A' hst.2 hsh hh hp hts hmem (fun x hx => by
        rcases List.mem_cons.1 hx with rfl | hx
        · exact hR
        · exact hrd x hx) ga gb gla glb h
    ·
      rename_i t x y
      simp only [Bool.and_eq_true] at hsh
      obtain ⟨hx, hsh⟩ := hsh
      have hx := hlb x (by simpa using hx)
      have hk : kindOf ⟨none, .store t (.tmp x) y, ty, pos, after, none⟩ = .turns := rfl
      rw [hk] at hst
      simp only [Bool.and_eq_true] at hst
      have hget : A1.h.get N = A.h.get N := by
        obtain ⟨_, h1, _⟩ := evOper_some he
        obtain ⟨o, hx⟩ := hx
        have h1 : (match done1 (astore P A t (tget S.tm x) (ev S.tm y)) with | some (v, A) => some (v, A, (none : Option Deferred)) | none => none) = some (v, A1, none) := by
          rw [← h1]; rfl
        rw [hx] at h1
        cases hq : astore P A t (.pointer (some ⟨M, o, none⟩)) (ev S.tm y) with
        | none => rw [hq] at h1; cases h1
        | some A2 =>
          rw [hq] at h1
          cases h1
          unfold astore at hq
          have e : addr (.pointer (some ⟨M, o, none⟩)) = some ⟨M, o, none⟩ := rfl
          rw [e] at hq
          split at hq
          · rename_i heq _
            cases heq
            split at hq
            · exact (setCells_get hM hq hMN).1
            · cases hq
          · cases hq
      have hp1 : A1.pend = base := hp1.trans hp
      have hto : turnOk S.ts (maskOf i S.ms after.toList 0) = true := by
        cases hS : S.ts with
        | nil => rfl
        | cons t r => exact List.all_eq_true.1 hst.2.1 t (hts t (by rw [hS]; simp))
      have hA1 : ({ A1 with pend := base } : AS) = A1 := by rw [← hp1]
      have hrd1 : ∀ x ∈ S.rs, RdIn P N A1 x := fun x hx B hB => hrd x hx B (by rw [hB, hget])
      have hag : again P (pends 0 ids 0 ++ base) (maskOf i S.ms after.toList 0) { A1 with pend := base } S.rs = true := again_in hrd1
      simp only [hk, hto, if_true, dTurns, he]
      rw [if_pos hag]
      simp only [hA1, dSeen]
      exact apart_draw hns hMN hM hids rest (i + 1) { tm := putD ns S.tm none v, ms := maskOf i S.ms after.toList 0 :: S.ms, sn := seenOf S.sn i (looks ops ⟨none, .store t (.tmp x) y, ty, pos, after, none⟩) none, hs := A1 :: S.hs, ts := i :: S.ts, rs := S.rs.filter fun x => !(maskOf i S.ms after.toList 0).testBit x.1 } A1 S.hs (i :: ts) la lb tm' A' hst.2.2 hsh rfl hp1
        (fun x hx => by
          rcases List.mem_cons.1 hx with rfl | hx
          · exact List.mem_cons_self ..
          · exact List.mem_cons_of_mem _ (hts x hx)) (fun B hB => by
          rw [hh] at hB
          rcases List.mem_cons.1 hB with rfl | hB
          · exact hget.symm
          · rw [hmem B hB, hget]) (fun x hx => hrd1 x (List.mem_filter.1 hx).1) ha hb hla hlb h
    · cases hsh
theorem aord_ops {ops : List Oper} : ∀ (rest : List Oper) (i : Nat) (ms : List Nat) (sn : Seen) (ts : List Nat), aord ops i rest ms sn ts = true → opsOk rest = true ∧ ∀ o ∈ rest, kindOf o ≠ .news
  | [], i, ms, sn, ts, _ => ⟨rfl, by simp⟩
  | o :: rest, i, ms, sn, ts, h => by
    simp only [aord, Bool.and_eq_true] at h
    have fin : ∀ {ms sn ts}, aord ops (i + 1) rest ms sn ts = true → kindOf o ≠ .news → opsOk (o :: rest) = true ∧ ∀ u ∈ o :: rest, kindOf u ≠ .news := fun h2 hk => by
      obtain ⟨q1, q2⟩ := aord_ops rest _ _ _ _ h2
      refine ⟨?_, fun u hu => ?_⟩
      · unfold opsOk at q1 ⊢
        rw [List.all_cons, q1, h.1.1.1]; rfl
      · rcases List.mem_cons.1 hu with rfl | hu
        · exact hk
        · exact q2 u hu
    cases hk : kindOf o with
    | news => rw [hk] at h; exact absurd h.2 (by simp)
    | still => rw [hk] at h; exact fin h.2 (by rw [hk]; simp)
    | reads => rw [hk] at h; exact fin h.2 (by rw [hk]; simp)
    | turns => rw [hk] at h; simp only [Bool.and_eq_true] at h; exact fin h.2.2 (by rw [hk]; simp)
theorem sDraw_apart (a b : Nat) {ns N M : Nat} {oa ob : Nat} {ops : List Oper} {k : List Item} {tm : Trie Value} {Q : Trie Value → AS → Prop} (hc : CfgOK P cfg0) (hst : aord ops 0 ops [] ⟨.nil, .nil⟩ [] = true) (hsh : ashape ns a b ops [] [] = true)
    (ha : tget tm a = .pointer (some ⟨N, oa, none⟩)) (hb : tget tm b = .pointer (some ⟨M, ob, none⟩)) (h : wRun P false ns ops ops k tm A Q) (hns : ns < 65535 := by decide) (hMN : N ≠ M := by decide) (hM : M + 1 < 2 ^ 24 := by decide) : sDraw P ns ops k tm A Q := by
  unfold sDraw
  unfold wRun at h
  rw [wOpsF_false] at h
  obtain ⟨q1, q2⟩ := aord_ops _ _ _ _ _ hst
  obtain ⟨rcs, tm', A', h1, h2, h3, h4⟩ := wOps_ev hc (ops := ops.toArray) (tail := []) q1 ops 0 tm A _ (by simp) h
  refine ⟨rcs, tm', A', h1, h2, fun φ w a' hR hF => ?_⟩
  have h5 := h4 φ w a' hR hF
  unfold evDraw
  rw [reserve_none ops A [] q2]
  simp only [List.reverse_nil, List.nil_append]
  obtain ⟨S', q3, q4, hs', q5⟩ := apart_draw (P := P) hns hMN hM (ids := List.replicate ops.length none) (base := A.pend) (by intro x hx; exact (List.mem_replicate.1 hx).2) ops 0 { tm, ms := [], sn := ⟨.nil, .nil⟩, hs := [A], ts := [], rs := [] } A [] [] [] [] tm' A' hst hsh rfl rfl (by simp) (by simp) (by simp) ⟨_, ha⟩ ⟨_, hb⟩ (by simp) (by simp) h5
  rw [q3]
  simp only [q5, q4]
end Go.Ev
namespace Go.Ev
open Go Go.Proofs Tryz
open TP (Str Tree Nd)
set_option maxRecDepth 100000
set_option maxHeartbeats 4000000
def zeroO : GOp := ⟨0, [], 0, [], 0, false, [], [], [], false, []⟩
def bareG (o : GOp) : GOp :=
  if o.kind = 1 then { zeroO with kind := o.kind, path := o.path, at_ := o.at_, id := o.id, leaf := o.leaf, label := o.label }
  else if o.kind = 2 then { zeroO with kind := o.kind, path := o.path }
  else if o.kind = 3 then { zeroO with kind := o.kind, path := o.path, at_ := o.at_, to := o.to }
  else if o.kind = 4 then { zeroO with kind := o.kind, path := o.path, key := o.key, gone := o.gone, value := if o.gone = true then [] else o.value }
  else if o.kind = 5 then { zeroO with kind := o.kind, path := o.path, label := o.label }
  else if o.kind = 6 then { zeroO with kind := o.kind, path := o.path, pieces := o.pieces }
  else { zeroO with kind := o.kind }
theorem op_frz {A : AS} {o : GOp} {p t : Value} {l : Value} (hp : Frz A p (rowI o.path)) (ht : Frz A t (rowI o.to)) (hl : Frz A l (rowP o.pieces)) : Frz A (tupleOf [.agg #[.int .u8 o.kind, p, .int .i64 o.at_, t, .int .u64 o.id, .bool o.leaf, .string (bs o.label), .string (bs o.key), .string (bs o.value), .bool o.gone, l]]) (vOp o) :=
  .agg (.cons (.clean rfl) (.cons hp (.cons (.clean rfl) (.cons ht (.cons (.clean rfl) (.cons (.clean rfl) (.cons (.clean rfl) (.cons (.clean rfl) (.cons (.clean rfl) (.cons (.clean rfl) (.cons hl (.clean rfl))))))))))))
theorem bare_fn (o : GOp) (hp : o.path.length ≤ 16777216) (ht : o.to.length ≤ 16777216) (hl : o.pieces.length ≤ 16777216) : Fn prog 79 [vOp o] (vOp (bareG o)) := by
  refine fn_is func79 ntmps79 results79 rfl cfgOK mixed (cl1 (vOp_clean o)) ?_
  have c1 := some64_fn o.path hp
  have c2 := some64_fn o.to ht
  have c3 := some65_fn o.pieces hl
  have kp : ∀ {A : AS} (p : List Int), Frz A (rowI p) (rowI p) := fun p => .clean (rowI_clean p)
  have kl : ∀ {A : AS} (p : List GPiece), Frz A (rowP p) (rowP p) := fun p => .clean (rowP_clean p)
  have hB := Hid.mk (@bareG.eq_def o)
  replace kp := Hid.mk @kp
  replace kl := Hid.mk @kl
  refine burst ?_
  refine sDraw_newsK 6 cfgOK rfl rfl zr67 (by simp) (by kernel_rfl) ?_
  refine burst ?_
  refine sCall_fn (by assumption) ?_
  refine burst ?_
  refine ifD (fun k1 => ?_) (fun k1 => ?_)
  · have e := hB.out
    rw [if_pos k1] at e
    rw [e]
    replace k1 := decide_eq_true k1
    refine burst ?_
    refine sDraw_apart 1 3 cfgOK (by kernel_rfl) (by kernel_rfl) look look ?_
    refine burst ?_
    exact ⟨_, rfl, op_frz (o := { zeroO with kind := o.kind, path := o.path, at_ := o.at_, id := o.id, leaf := o.leaf, label := o.label }) (kp.out _) .nil .nil⟩
  refine burst ?_
  refine ifD (fun k2 => ?_) (fun k2 => ?_)
  · have e := hB.out
    rw [if_neg k1, if_pos k2] at e
    rw [e]
    replace k2 := decide_eq_true k2
    refine burst ?_
    exact ⟨_, rfl, op_frz (o := { zeroO with kind := o.kind, path := o.path }) (kp.out _) .nil .nil⟩
  refine burst ?_
  refine ifD (fun k3 => ?_) (fun k3 => ?_)
  · have e := hB.out
    rw [if_neg k1, if_neg k2, if_pos k3] at e
    rw [e]
    replace k3 := decide_eq_true k3
    refine burst ?_
    refine sDraw_calls cfgOK (by kernel_rfl) ?_
    refine burst ?_
    refine sCall_fn (by assumption) ?_
    refine burst ?_
    exact ⟨_, rfl, op_frz (o := { zeroO with kind := o.kind, path := o.path, at_ := o.at_, to := o.to }) (kp.out _) (kp.out _) .nil⟩
  refine burst ?_
  refine ifD (fun k4 => ?_) (fun k4 => ?_)
  · have e := hB.out
    rw [if_neg k1, if_neg k2, if_neg k3, if_pos k4] at e
    rw [e]
    replace k4 := decide_eq_true k4
    refine burst ?_
    refine sDraw_apart 1 3 cfgOK (by kernel_rfl) (by kernel_rfl) look look ?_
    clear e
    cases hg : o.gone
    · refine burst ?_
      exact ⟨_, rfl, op_frz (o := { zeroO with kind := o.kind, path := o.path, key := o.key, gone := false, value := o.value }) (kp.out _) .nil .nil⟩
    · refine burst ?_
      exact ⟨_, rfl, op_frz (o := { zeroO with kind := o.kind, path := o.path, key := o.key, gone := true, value := [] }) (kp.out _) .nil .nil⟩
  refine burst ?_
  refine ifD (fun k5 => ?_) (fun k5 => ?_)
  · have e := hB.out
    rw [if_neg k1, if_neg k2, if_neg k3, if_neg k4, if_pos k5] at e
    rw [e]
    replace k5 := decide_eq_true k5
    refine burst ?_
    exact ⟨_, rfl, op_frz (o := { zeroO with kind := o.kind, path := o.path, label := o.label }) (kp.out _) .nil .nil⟩
  refine burst ?_
  refine ifD (fun k6 => ?_) (fun k6 => ?_)
  · have e := hB.out
    rw [if_neg k1, if_neg k2, if_neg k3, if_neg k4, if_neg k5, if_pos k6] at e
    rw [e]
    replace k6 := decide_eq_true k6
    refine burst ?_
    refine sCall_fn (by assumption) ?_
    refine burst ?_
    exact ⟨_, rfl, op_frz (o := { zeroO with kind := o.kind, path := o.path, pieces := o.pieces }) (kp.out _) .nil (kl.out _)⟩
  · have e := hB.out
    rw [if_neg k1, if_neg k2, if_neg k3, if_neg k4, if_neg k5, if_neg k6] at e
    rw [e]
    refine burst ?_
    exact ⟨_, rfl, op_frz (o := { zeroO with kind := o.kind }) .nil .nil .nil⟩
end Go.Ev
namespace Go.Ev
open Go Go.Proofs Tryz
open TP (Str Tree Nd)
set_option maxRecDepth 100000
set_option maxHeartbeats 4000000
theorem goto_to {P : Program} {ns l : Nat} {k k' : List Item} {tm : Trie Value} {A : AS} {Q : Trie Value → AS → Prop} (h : gotoIn l k = some k') (h2 : W P ns k' tm A Q) : W P ns (.code (.goto l) :: k) tm A Q := by rw [W_goto h]; exact h2
theorem right_fn (l : List GPiece) : Fn prog 199 [rowP l] (.bool (decide (rightG l))) := by
  refine fn_is func199 ntmps199 results199 rfl cfgOK mixed (cl1 (rowP_clean l)) ?_
  refine burst ?_
  refine ifD (fun h => ?_) (fun h => ?_)
  · refine burst ?_
    refine goto_to rfl ?_
    refine burst ?_
    refine ends_bool ?_
    have : ¬ rightG l := fun q => by have := q.1; omega
    simp [this]
  · have hlen : l.length ≤ 4096 := by omega
    clear h
    refine burst ?_
    refine W_for l.length (fun i tm A => ∃ m : List AB, A = mk m ∧ m.length ≤ i ∧ tget tm 9 = rowP l ∧ tget tm 10 = .int .i64 l.length ∧ tget tm 11 = .int .i64 i ∧ tget tm 3 = .int .i64 (((l.take i).map fun p => p.put.length).sum : Nat) ∧ Hid (((l.take i).map fun p => p.put.length).sum ≤ 1048576 ∧ ∀ p ∈ l.take i, 0 ≤ p.keep ∧ p.keep ≤ 1048576 ∧ 0 ≤ p.drop ∧ p.drop ≤ 1048576)) ?_ 0 _ _ (by omega) ⟨[], rfl, by simp, look, look, look, look, by simp, by simp⟩
    rintro i tm A hi ⟨m, rfl, hm, h9, h10, h11, h3, hs⟩ next
    replace next := Hid.mk next
    refine burst ?_
    refine ifD (fun q => ?_) (fun q => ?_)
    · obtain ⟨x, e1⟩ : ∃ x, l[i]? = some x := ⟨_, get_some q⟩
      have hx : x ∈ l := List.mem_of_getElem? e1
      have hsum := Hid.mk (sum_take e1 fun p => p.put.length)
      have hle := sum_take_le l (fun p => p.put.length) (i + 1)
      have hsn := hs.out.1
      generalize hn : ((l.take i).map fun p => p.put.length).sum = n at *
      have no : Hid (¬ (0 ≤ x.keep ∧ x.keep ≤ 1048576 ∧ 0 ≤ x.drop ∧ x.drop ≤ 1048576 ∧ x.put.length ≤ 1048576 - n) → ¬ rightG l) := ⟨fun h1 h2 => h1 ⟨(h2.2.1 x hx).1, (h2.2.1 x hx).2.1, (h2.2.1 x hx).2.2.1, (h2.2.1 x hx).2.2.2, by have := h2.2.2; have := hsum.out; omega⟩⟩
      have hw1 : IntKind.i64.wrap (1048576 - (n : Int)) = 1048576 - (n : Int) := wrap_in (by omega) (by omega)
      have hm1 : m.length < 16777216 := by omega
      have hm2 : m.length + 2 < 16777216 := by omega
      have hm3 : m.length + 1 < 16777216 := by omega
      have g2 : (m ++ [AB.cells [.int .i64 0, .int .i64 0, .string ⟨#[]⟩] 104 (0, 0)])[m.length]? = some (AB.cells [.int .i64 0, .int .i64 0, .string ⟨#[]⟩] 104 (0, 0)) := by simp
      refine burst ?_
      rw [wo_min]
      refine sMin seen seen ?_
      refine burst ?_
      refine guard_cut (fun tm A => A = mk ((m ++ [AB.cells [.int .i64 0, .int .i64 0, .string ⟨#[]⟩] 104 (0, 0)]).set m.length (AB.cells [.int .i64 x.keep, .int .i64 x.drop, .string (bs x.put)] 104 (0, 0))) ∧ tget tm 5 = .pointer (some ⟨m.length, 0, none⟩) ∧ tget tm 9 = rowP l ∧ tget tm 10 = .int .i64 l.length ∧ tget tm 11 = .int .i64 i ∧ tget tm 3 = .int .i64 (n : Nat) ∧ tget tm 36 = .bool (!decide (0 ≤ x.keep ∧ x.keep ≤ 1048576 ∧ 0 ≤ x.drop ∧ x.drop ≤ 1048576 ∧ x.put.length ≤ 1048576 - n))) ?_ ?_
      · intro S hS
        have fin : ∀ {b : Bool}, (b = true ↔ ¬ (0 ≤ x.keep ∧ x.keep ≤ 1048576 ∧ 0 ≤ x.drop ∧ x.drop ≤ 1048576 ∧ x.put.length ≤ 1048576 - n)) → Value.bool b = .bool (!decide (0 ≤ x.keep ∧ x.keep ≤ 1048576 ∧ 0 ≤ x.drop ∧ x.drop ≤ 1048576 ∧ x.put.length ≤ 1048576 - n)) := fun {b} h => by
          congr 1
          rw [Bool.eq_iff_iff, h, Bool.not_eq_true', decide_eq_false_iff_not]
        replace fin := Hid.mk @fin
        refine guardND (fun q1 => ?_) (fun q1 => ?_)
        · refine burst ?_
          rw [wo_max]
          refine sMax seen seen ?_
          refine burst ?_
          refine guardND (fun q2 => ?_) (fun q2 => ?_)
          · refine burst ?_
            refine hS.to ⟨rfl, look, look, look, look, look, Eq.trans look (fin.out (b := decide ((1048576 : Int) - n < x.put.length)) ?_)⟩
            simp only [decide_eq_true_iff]
            omega
          · refine burst ?_
            refine hS.to ⟨rfl, look, look, look, look, look, Eq.trans look (fin.out (b := true) ?_)⟩
            simp only [true_iff]
            omega
        · refine burst ?_
          refine hS.to ⟨rfl, look, look, look, look, look, Eq.trans look (fin.out (b := true) ?_)⟩
          simp only [true_iff]
          omega
      clear h9 h10 h11 h3
      rintro tm A ⟨rfl, t5, t9, t10, t11, t3, t36⟩
      refine burst ?_
      refine ifND (fun g => ?_) (fun g => ?_)
      · refine burst ?_
        refine goto_to rfl ?_
        refine burst ?_
        refine ends_bool ?_
        exact (decide_eq_false (no.out g)).symm
      · have hw := wrap_succ (Nat.le_of_lt q) (by omega)
        have hw2 : IntKind.i64.wrap ((n : Int) + (x.put.length : Int)) = ((n + x.put.length : Nat) : Int) := by rw [wrap_in (by omega) (by omega)]; omega
        replace g := Hid.mk g
        clear t36
        refine burst ?_
        refine next.out _ _ q ⟨_, rfl, by simp; omega, look, look, look, by rw [hsum.out]; exact look, by rw [hsum.out]; have := g.out; omega, fun y hy => ?_⟩
        rw [List.take_add_one, e1] at hy
        simp only [Option.toList, List.mem_append, List.mem_singleton] at hy
        rcases hy with hy | rfl
        · exact hs.out.2 y hy
        · have := g.out; omega
    · rw [List.take_of_length_le (by omega)] at hs
      refine burst ?_
      refine ends_bool ?_
      exact (decide_eq_true ⟨hlen, hs.out.2, hs.out.1⟩).symm
end Go.Ev
namespace Go.Ev
open Go Go.Proofs Tryz
open TP (Str Tree Nd)
set_option maxRecDepth 100000
set_option maxHeartbeats 4000000
theorem formed_fn (o : GOp) (hl : lenG o) : Fn prog 124 [vOp o] (.bool (decide (formG o))) := by
  obtain ⟨hl1, hl2⟩ := hl
  refine fn_is func124 ntmps124 results124 rfl cfgOK mixed (cl1 (vOp_clean o)) ?_
  have c1 := may_fn o.path hl1
  have c2 := may_fn o.to hl2
  have c3 := key_fn o.key
  have c4 := right_fn o.pieces
  refine burst ?_
  refine guard_cut (fun tm A => A = mk [AB.cells (opC o) 67 (0, 0)] ∧ tget tm 1 = .pointer (some ⟨0, 0, none⟩) ∧ tget tm 3 = .bool (decide (gapG o))) ?_ ?_
  · intro S hS
    (repeat' (first | with_reducible refine ends_bool ?_ | with_reducible refine ends_int ?_ | with_reducible refine ifND (fun _ => ?_) (fun _ => ?_) | with_reducible refine ifD (fun _ => ?_) (fun _ => ?_) | with_reducible refine guardND (fun _ => ?_) (fun _ => ?_) | with_reducible refine guardD (fun _ => ?_) (fun _ => ?_) | with_reducible refine sIf_intro (fun _ => ?_) (fun _ => ?_) | with_reducible refine sGuard_intro (fun _ => ?_) (fun _ => ?_) | with_reducible refine sCall_fn (by assumption) ?_ | with_reducible refine sDraw_seq cfgOK (by kernel_rfl) ?_ | ((first | with_reducible show W _ _ (.code _ :: _) _ _ _ | with_reducible show wRun _ _ _ _ _ _ _ _ _); refine burst ?_)))
    all_goals refine hS.to ⟨by first | rfl | simp only [opC, *], look, ?_⟩
    all_goals refine Eq.trans look ?_
    all_goals rw [Value.bool.injEq]
    all_goals unfold gapG
    all_goals simp [*]
    all_goals omega
  rintro tm A ⟨rfl, a1, a3⟩
  refine burst ?_
  refine sCall_fn (by assumption) ?_
  refine burst ?_
  clear c1
  cases hg : o.gone <;> (repeat' (first | with_reducible refine ends_bool ?_ | with_reducible refine ends_int ?_ | with_reducible refine ifND (fun _ => ?_) (fun _ => ?_) | with_reducible refine ifD (fun _ => ?_) (fun _ => ?_) | with_reducible refine guardND (fun _ => ?_) (fun _ => ?_) | with_reducible refine guardD (fun _ => ?_) (fun _ => ?_) | with_reducible refine sIf_intro (fun _ => ?_) (fun _ => ?_) | with_reducible refine sGuard_intro (fun _ => ?_) (fun _ => ?_) | with_reducible refine sCall_fn (by assumption) ?_ | with_reducible refine sDraw_seq cfgOK (by kernel_rfl) ?_ | ((first | with_reducible show W _ _ (.code _ :: _) _ _ _ | with_reducible show wRun _ _ _ _ _ _ _ _ _); refine burst ?_)))
  all_goals clear c2 c3 c4
  all_goals simp_all [formG, formK, keyG]
  all_goals omega
end Go.Ev
namespace Go.Ev
open Go Go.Proofs Tryz
open TP (Str Tree Nd)
set_option maxRecDepth 100000
set_option maxHeartbeats 4000000
def movesG (o : GOp) : Prop := formG o ∧ (if o.kind = 1 then True else if o.kind = 2 then o.path ≠ [] else if o.kind = 3 then o.path ≠ [] ∧ ¬ o.path <+: o.to else False)
instance (o : GOp) : Decidable (movesG o) := by unfold movesG; infer_instance
theorem moves_fn (o : GOp) (hl : lenG o) : Fn prog 305 [vOp o] (.bool (decide (movesG o))) := by
  refine fn_is func305 ntmps305 results305 rfl cfgOK mixed (cl1 (vOp_clean o)) ?_
  have c1 := formed_fn o hl
  have c2 := within_fn o.path o.to hl.1
  simp only [vOp, opC] at c1
  clear hl
  (repeat' (first | with_reducible refine ends_bool ?_ | with_reducible refine ends_int ?_ | with_reducible refine ifND (fun _ => ?_) (fun _ => ?_) | with_reducible refine ifD (fun _ => ?_) (fun _ => ?_) | with_reducible refine guardND (fun _ => ?_) (fun _ => ?_) | with_reducible refine guardD (fun _ => ?_) (fun _ => ?_) | with_reducible refine sIf_intro (fun _ => ?_) (fun _ => ?_) | with_reducible refine sGuard_intro (fun _ => ?_) (fun _ => ?_) | with_reducible refine sCall_fn (by assumption) ?_ | with_reducible refine sDraw_seq cfgOK (by kernel_rfl) ?_ | ((first | with_reducible show W _ _ (.code _ :: _) _ _ _ | with_reducible show wRun _ _ _ _ _ _ _ _ _); refine burst ?_)))
  all_goals clear c1 c2
  all_goals simp_all [movesG]
  all_goals first | (simp [List.length_pos_iff]; done) | (intros; exact List.length_pos_iff.1 (by assumption))
structure GChg where
  takes : Bool
  puts : Bool
  from_ : List Int
  to : List Int
  at_ : Int
  gap : Int
def chgC (c : GChg) : List Value := [.bool c.takes, .bool c.puts, rowI c.from_, rowI c.to, .int .i64 c.at_, .int .i64 c.gap]
abbrev vChg (c : GChg) : Value := .agg (chgC c).toArray
theorem chgC_clean (c : GChg) : cleanL (chgC c) = true := by
  simp only [chgC, cleanL_one, clean_int, clean_bool, rowI_clean, Bool.true_and]; rfl
theorem vChg_clean (c : GChg) : clean (vChg c) = true := chgC_clean c
def lastI (p : List Int) : Int := p.getLastD 0
def chgOf (o : GOp) : GChg := ⟨!decide (o.kind = 1), !decide (o.kind = 2), if o.kind = 1 then [] else o.path.dropLast, if o.kind = 1 then o.path else o.to, if o.kind = 1 then 0 else lastI o.path, o.at_⟩
theorem b327_4 {a b : Bool} {n : Nat} {l : List Value} {g : Int} : abuild prog 327 [(0, .bool a), (1, .bool b), (3, frow n l), (5, .int .i64 g)] = some (.agg #[.bool a, .bool b, .slice none 0 0, frow n l, .int .i64 0, .int .i64 g]) := by kernel_rfl
theorem chg_frz {A : AS} {c : GChg} {f : Value} (hf : Frz A f (rowI c.from_)) : Frz A (tupleOf [.agg #[.bool c.takes, .bool c.puts, f, rowI c.to, .int .i64 c.at_, .int .i64 c.gap]]) (vChg c) :=
  .agg (.cons (.clean rfl) (.cons (.clean rfl) (.cons hf (.cons (.clean (rowI_clean _)) (.cons (.clean rfl) (.cons (.clean rfl) (.clean rfl)))))))
theorem of_fn (o : GOp) (hp : o.path.length ≤ 16777215) (hm : o.kind = 1 ∨ o.path ≠ []) : Fn prog 306 [vOp o] (vChg (chgOf o)) := by
  refine fn_is func306 ntmps306 results306 rfl cfgOK mixed (cl1 (vOp_clean o)) ?_
  have hb := @b327_4
  by_cases h1 : o.kind = 1
  · have e : chgOf o = ⟨false, !decide (o.kind = 2), [], o.path, 0, o.at_⟩ := by simp [chgOf, h1]
    rw [e]
    clear e hm
    replace h1 := decide_eq_true h1
    refine burst ?_
    exact ⟨_, rfl, chg_frz (c := ⟨false, !decide (o.kind = 2), [], o.path, 0, o.at_⟩) .nil⟩
  · have hne : o.path ≠ [] := by rcases hm with h | h; exact absurd h h1; exact h
    obtain ⟨p, i, hpi⟩ : ∃ p i, o.path = p ++ [i] := ⟨_, _, (List.dropLast_concat_getLast hne).symm⟩
    have c := parent_fn p i (by rw [hpi] at hp; simp at hp; omega)
    rw [← hpi] at c
    have e : chgOf o = ⟨true, !decide (o.kind = 2), p, o.to, i, o.at_⟩ := by simp [chgOf, h1, hpi, lastI]
    rw [e]
    clear e hm hne hpi
    refine burst ?_
    refine sCall_fn (by assumption) ?_
    refine burst ?_
    exact ⟨_, rfl, chg_frz (c := ⟨true, !decide (o.kind = 2), p, o.to, i, o.at_⟩) (.clean (rowI_clean p))⟩
def landI (c : GChg) : Int := if c.at_ < c.gap ∧ c.from_ = c.to then c.gap - 1 else c.gap
theorem land_fn (c : GChg) (hf : c.from_.length < 4294967296) (h0 : -1048577 ≤ c.gap) (h1 : c.gap ≤ 1048577) : Fn prog 307 [vChg c] (.int .i64 (landI c)) := by
  refine fn_is func307 ntmps307 results307 rfl cfgOK mixed (cl1 (vChg_clean c)) ?_
  have c1 := same_fn c.from_ c.to hf
  have hw : IntKind.i64.wrap (c.gap - 1) = c.gap - 1 := wrap_in (by omega) (by omega)
  have eC : chgC c = [.bool c.takes, .bool c.puts, rowI c.from_, rowI c.to, .int .i64 c.at_, .int .i64 c.gap] := rfl
  clear h0 h1 hf
  (repeat' (first | with_reducible refine ends_bool ?_ | with_reducible refine ends_int ?_ | with_reducible refine ifND (fun _ => ?_) (fun _ => ?_) | with_reducible refine ifD (fun _ => ?_) (fun _ => ?_) | with_reducible refine guardND (fun _ => ?_) (fun _ => ?_) | with_reducible refine guardD (fun _ => ?_) (fun _ => ?_) | with_reducible refine sIf_intro (fun _ => ?_) (fun _ => ?_) | with_reducible refine sGuard_intro (fun _ => ?_) (fun _ => ?_) | with_reducible refine sCall_fn (by assumption) ?_ | with_reducible refine sDraw_seq cfgOK (by kernel_rfl) ?_ | ((first | with_reducible show W _ _ (.code _ :: _) _ _ _ | with_reducible show wRun _ _ _ _ _ _ _ _ _); refine burst ?_)))
  all_goals clear c1 hw eC
  all_goals grind [landI]
def numI (c : GChg) (p : List Int) (k : Int) : Int := (if c.takes = true ∧ c.at_ < k ∧ p = c.from_ then k - 1 else k) + (if c.puts = true ∧ c.gap ≤ k ∧ p = c.to then 1 else 0)
theorem number_fn (c : GChg) (p : List Int) (k : Int) (hp : p.length < 4294967296) (h0 : -1048577 ≤ k) (h1 : k ≤ 1048577) : Fn prog 308 [vChg c, rowI p, .int .i64 k] (.int .i64 (numI c p k)) := by
  refine fn_is func308 ntmps308 results308 rfl cfgOK mixed (cl3 (vChg_clean c) (rowI_clean p) rfl) ?_
  have c1 := same_fn p c.from_ hp
  have c2 := same_fn p c.to hp
  have hw : IntKind.i64.wrap (k - 1) = k - 1 := wrap_in (by omega) (by omega)
  have hw2 : IntKind.i64.wrap (k + 1) = k + 1 := wrap_in (by omega) (by omega)
  have hw3 : IntKind.i64.wrap (k - 1 + 1) = k - 1 + 1 := wrap_in (by omega) (by omega)
  have eC : chgC c = [.bool c.takes, .bool c.puts, rowI c.from_, rowI c.to, .int .i64 c.at_, .int .i64 c.gap] := rfl
  clear h0 h1 hp
  refine burst ?_
  refine guard_cut (fun tm A => A = mk [AB.cells (chgC c) 327 (0, 0)] ∧ tget tm 1 = rowI p ∧ tget tm 2 = .int .i64 k ∧ tget tm 3 = .pointer (some ⟨0, 0, none⟩) ∧ tget tm 7 = .int .i64 k ∧ tget tm 22 = .bool (decide (c.takes = true ∧ c.at_ < k ∧ p = c.from_))) ?_ ?_
  · intro S hS
    (repeat' (first | with_reducible refine ends_bool ?_ | with_reducible refine ends_int ?_ | with_reducible refine ifND (fun _ => ?_) (fun _ => ?_) | with_reducible refine ifD (fun _ => ?_) (fun _ => ?_) | with_reducible refine guardND (fun _ => ?_) (fun _ => ?_) | with_reducible refine guardD (fun _ => ?_) (fun _ => ?_) | with_reducible refine sIf_intro (fun _ => ?_) (fun _ => ?_) | with_reducible refine sGuard_intro (fun _ => ?_) (fun _ => ?_) | with_reducible refine sCall_fn (by assumption) ?_ | with_reducible refine sDraw_seq cfgOK (by kernel_rfl) ?_ | ((first | with_reducible show W _ _ (.code _ :: _) _ _ _ | with_reducible show wRun _ _ _ _ _ _ _ _ _); refine burst ?_)))
    all_goals refine hS.to ⟨by first | rfl | simp only [chgC, *], look, look, look, look, ?_⟩
    all_goals refine Eq.trans look ?_
    all_goals rw [Value.bool.injEq]
    all_goals clear c1 c2
    all_goals grind
  rintro tm A ⟨rfl, a1, a2, a3, a7, a22⟩
  refine burst ?_
  refine if_cut (fun tm A => A = mk [AB.cells (chgC c) 327 (0, 0)] ∧ tget tm 1 = rowI p ∧ tget tm 2 = .int .i64 k ∧ tget tm 3 = .pointer (some ⟨0, 0, none⟩) ∧ ∃ n, Hid (n = if c.takes = true ∧ c.at_ < k ∧ p = c.from_ then k - 1 else k) ∧ tget tm 7 = .int .i64 n) (by kernel_rfl) ?_ ?_
  · intro S hS
    refine ifD (fun h => ?_) (fun h => ?_)
    · replace h := Hid.mk h
      refine burst ?_
      exact hS.to ⟨rfl, look, look, look, k - 1, ⟨by rw [if_pos h.out]⟩, look⟩
    · replace h := Hid.mk h
      refine burst ?_
      exact hS.to ⟨rfl, look, look, look, k, ⟨by rw [if_neg h.out]⟩, look⟩
  clear a1 a2 a3 a7 a22
  rintro tm A ⟨rfl, a1, a2, a3, n, hn, a7⟩
  have hw4 : IntKind.i64.wrap (n + 1) = n + 1 := by
    have := hn.out
    split at this <;> subst this <;> assumption
  clear hw hw2 hw3
  refine burst ?_
  refine guard_cut (fun tm A => A = mk [AB.cells (chgC c) 327 (0, 0)] ∧ tget tm 7 = .int .i64 n ∧ tget tm 38 = .bool (decide (c.puts = true ∧ c.gap ≤ k ∧ p = c.to))) ?_ ?_
  · intro S hS
    (repeat' (first | with_reducible refine ends_bool ?_ | with_reducible refine ends_int ?_ | with_reducible refine ifND (fun _ => ?_) (fun _ => ?_) | with_reducible refine ifD (fun _ => ?_) (fun _ => ?_) | with_reducible refine guardND (fun _ => ?_) (fun _ => ?_) | with_reducible refine guardD (fun _ => ?_) (fun _ => ?_) | with_reducible refine sIf_intro (fun _ => ?_) (fun _ => ?_) | with_reducible refine sGuard_intro (fun _ => ?_) (fun _ => ?_) | with_reducible refine sCall_fn (by assumption) ?_ | with_reducible refine sDraw_seq cfgOK (by kernel_rfl) ?_ | ((first | with_reducible show W _ _ (.code _ :: _) _ _ _ | with_reducible show wRun _ _ _ _ _ _ _ _ _); refine burst ?_)))
    all_goals refine hS.to ⟨by first | rfl | simp only [chgC, *], look, ?_⟩
    all_goals refine Eq.trans look ?_
    all_goals rw [Value.bool.injEq]
    all_goals clear c1 c2
    all_goals grind
  clear a1 a2 a3 a7
  rintro tm A ⟨rfl, a7, a38⟩
  refine burst ?_
  refine ifD (fun h => ?_) (fun h => ?_)
  · replace h := Hid.mk h
    refine burst ?_
    refine ends_int ?_
    rw [numI, if_pos h.out, hn.out]
  · replace h := Hid.mk h
    refine burst ?_
    refine ends_int ?_
    rw [numI, if_neg h.out, hn.out]; omega
end Go.Ev
namespace Go.Ev
open Go
variable {P : Program} {A A' : AS} {φ φ' : Rn} {w w' : World}
def rowish : AB → Bool
  | .cells cs _ _ => cleanL cs
  | .grown cs _ _ => cleanL cs
  | _ => false
theorem rowish_ext {ψ : Rn} (h : Ext frN φ w ψ w) {x : Nat} {ab : AB} {o : Option Obj} (hr : rowish ab = true) (ho : ABRel φ w x ab o) : ABRel ψ w x ab o := by
  cases ab with
  | cells cs e fz =>
    obtain ⟨c, h1, h2⟩ := ho
    exact ⟨c, h1, RVL.ext h _ _ hr h2⟩
  | grown cs e s =>
    obtain ⟨c, h1, h2, h3⟩ := ho
    exact ⟨c, h1, RVL.ext h _ _ hr h2, h3⟩
  | _ => simp [rowish] at hr
theorem does_own {f : FuncId} {args : List Value} {v v' : Value} {b : Nat} {ab : AB} (h : CallsW P f args A0 v A') (hargs : cleanL args = true) (hb : A'.h.get b = some ab) (hrow : rowish ab = true) (hp : A.pend = []) (hroom : A.next + 2 < 2 ^ 24)
    (hv : ∀ (φ ψ : Rn) (w : World) (V : Value), Ext frN φ w ψ w → ψ.b A.next = φ.b b → ψ.x A.next = φ.x b → RV φ w v V → RV ψ w v' V) (hvk : vok (A.put ab).ok v' = true) {d : Bool} : Does P (.call f args d) A v' (A.put ab) := by
  refine ⟨hvk, h.1, fun φ w Vs hR hk hV c cs hd => ?_⟩
  obtain ⟨φ', w', V, fr, h1, h2, h3, h4, h5, ⟨fn, h6, h7⟩, h8, hR', hr, _⟩ := h.2 φ w Vs hR.empty (cleanL_ok hargs) hV d (c :: cs) fun e => ⟨c, cs, rfl, hd e⟩
  have hpd : A'.pend = [] := hr.pend
  have hlive : ab.live = true := by cases ab <;> first | rfl | (simp [rowish] at hrow)
  have hnb : w.heap.size ≤ φ'.b b := by
    rcases hr.img b ab hb hlive (by simp [A0]) with h | ⟨m, c, h, _⟩
    · exact h
    · simp [A0, Trie.get] at h
  have hsame : ∀ c, c < w.heap.size → w'.heap[c]? = w.heap[c]? := fun c hc => hr.keep c hc fun n ab h => by simp [A0, Trie.get] at h
  generalize hF : (fun c => φ.F c ∨ (φ'.F c ∧ c ≠ φ'.b b)) = F
  have hFm : ∀ c, F c ↔ φ.F c ∨ (φ'.F c ∧ c ≠ φ'.b b) := fun c => by rw [← hF]
  have hFnew : ∀ c, F c → φ.F c ∨ w.heap.size ≤ c := fun c hc => by
    rcases (hFm c).1 hc with h | ⟨h, _⟩
    · exact .inl h
    · rcases hr.new c h with h4 | h4 | ⟨m, ab, h4, _⟩
      · exact .inl h4
      · exact .inr h4
      · simp [A0, Trie.get] at h4
  have hfro : ∀ c, φ'.F c → F c := fun c hc => (hFm c).2 (.inr ⟨hc, fun e => (hR'.fro c hc).2 b ab hb hlive (by rw [hpd]; simp) e.symm⟩)
  have hlt : ∀ n ab, A.h.get n = some ab → n ≠ A.next := fun n ab h => by have := hR.lt n ab h; omega
  have hbn : A.next < big := by unfold big; omega
  let ψ : Rn := ⟨fun n => if n = A.next then φ'.b b else φ.b n, fun n => if n = A.next then φ'.x b else φ.x n, F⟩
  have ψo : ∀ n, n ≠ A.next → ψ.b n = φ.b n ∧ ψ.x n = φ.x n := fun n hn => ⟨if_neg hn, if_neg hn⟩
  have ψn : ψ.b A.next = φ'.b b ∧ ψ.x A.next = φ'.x b := ⟨if_pos rfl, if_pos rfl⟩
  have ext1 : Ext A.ok φ w ψ w' := ⟨fun n hn => ψo n (by
    rcases (A.ok_iff n).1 hn with h | h
    · have := h.1; omega
    · omega), fun c hc => (hFm c).2 (.inl hc), fun c hc => hsame c (hR.fro c hc).1⟩
  have ext2 : Ext frN φ' w' ψ w' := ⟨fun n hn => by
    have h1 := frN_big hn
    have h2 := ψo n (by omega)
    have h3 := hr.agree n (.inr h1)
    exact ⟨h2.1.trans h3.1.symm, h2.2.trans h3.2.symm⟩, hfro, fun _ _ => rfl⟩
  have hg := put_get A ab hR.room
  have RR : Rel ψ (A.put ab) w' := by
    refine ⟨fun n x h1 h2 => ?_, fun n x h1 => ?_, fun n m x y h1 h2 h3 h4 h5 h6 e => ?_, fun n x h1 h2 => ?_, fun c hc => ⟨?_, fun n x h1 h2 h3 e => ?_⟩, by show A.next + 1 + 1 < 2 ^ 24; omega⟩
    · rw [hg] at h1
      split at h1
      · rename_i e
        subst e
        simp only [Option.some.injEq] at h1
        subst h1
        rw [ψn.1, ψn.2]
        exact rowish_ext ext2 hrow (hR'.obj b ab hb (by rw [hpd]; simp))
      · rename_i e
        rw [(ψo n e).1, (ψo n e).2]
        cases hl : x.live with
        | false => exact ABRel.dead_of hl
        | true =>
          rw [hsame _ (hR.lt_heap h1 hl h2)]
          exact (hR.obj n x h1 h2).ext ext1 (hR.wf n x h1 h2)
    · rw [hg] at h1
      show n < A.next + 1
      split at h1
      · omega
      · have := hR.lt n x h1; omega
    · rw [hg] at h1 h4
      split at h1
      · rename_i e1
        split at h4
        · rename_i e2; rw [e1, e2]
        · rename_i e2
          exfalso
          rw [e1, ψn.1, (ψo m e2).1] at e
          have := hR.lt_heap h4 h5 h6
          omega
      · rename_i e1
        split at h4
        · rename_i e2
          exfalso
          rw [e2, ψn.1, (ψo n e1).1] at e
          have := hR.lt_heap h1 h2 h3
          omega
        · rename_i e2
          rw [(ψo n e1).1, (ψo m e2).1] at e
          exact hR.inj n m x y h1 h2 h3 h4 h5 h6 e
    · rw [hg] at h1
      split at h1
      · simp only [Option.some.injEq] at h1
        subst h1
        cases ab with
        | cells cs e fz => exact cleanL_ok hrow
        | grown cs e s => exact cleanL_ok hrow
        | _ => simp [rowish] at hrow
      · exact abok_mono (fun k hk => put_ok A ab k hk) x (hR.wf n x h1 h2)
    · rcases (hFm c).1 hc with h | ⟨h, _⟩
      · exact Nat.lt_of_lt_of_le (hR.fro c h).1 hr.size
      · exact (hR'.fro c h).1
    · rw [hg] at h1
      split at h1
      · rename_i e1
        rw [e1, ψn.1] at e
        rcases (hFm c).1 hc with h | ⟨_, h⟩
        · have := (hR.fro c h).1; omega
        · exact h e.symm
      · rename_i e1
        rw [(ψo n e1).1] at e
        rcases hFnew c hc with h | h
        · exact (hR.fro c h).2 n x h1 h2 h3 e
        · have := hR.lt_heap h1 h2 h3; omega
  have RU : Runs φ A w ψ (A.put ab) w' := by
    refine ⟨fun n hn => ψo n (by rcases hn with h | h <;> omega), Nat.le_succ _, rfl, hr.size, fun c hc _ => hsame c hc, fun n x h1 h2 h3 => ?_, fun n hn => by rw [hp] at hn; simp at hn, fun c hc => (hFm c).2 (.inl hc), fun c hc => ?_, hr.os, hr.tape, hr.out⟩
    · rw [hg] at h1
      split at h1
      · rename_i e1
        rw [e1, ψn.1]; exact .inl hnb
      · rename_i e1
        exact .inr ⟨n, x, h1, h2, h3, ((ψo n e1).1).symm⟩
    · rcases hFnew c hc with h | h
      · exact .inl h
      · exact .inr (.inl h)
  refine ⟨ψ, w', V, Steps.trans h1 (.one ?_), hv φ' ψ w' V ext2 ψn.1 ψn.2 h8, RR, RU⟩
  cases d with
  | false => exact step_leave_returned ⟨h2, h3, h4, fn, h6, h7⟩
  | true =>
    have := step_going_returned (P := P) (fr := fr) (c := c) (cs := cs) (w := w') (v := V) h4 ⟨h2, h3, fn, h6, h7⟩
    have hs : settle c.mode = c.mode := by rw [hd rfl]; rfl
    rw [hs] at this
    exact this
end Go.Ev
namespace Go.Ev
open Go Go.Proofs Tryz
open TP (Str Tree Nd)
set_option maxRecDepth 100000
set_option maxHeartbeats 4000000
structure VCtx (F : Value → Value) : Prop where
  rv : ∀ (φ ψ : Rn) (w : World) (x y V : Value), Ext frN φ w ψ w → (∀ U, RV φ w x U → RV ψ w y U) → RV φ w (F x) V → RV ψ w (F y) V
  ok : ∀ (ok : Nat → Bool) (y : Value), vok ok y = true → vok ok (F y) = true
theorem VCtx.id : VCtx fun s => s := ⟨fun _ _ _ _ _ V _ h => h V, fun _ _ h => h⟩
theorem VCtx.tup {k : Value} (hk : bare k = true) : VCtx fun s => .tuple #[s, k] := ⟨fun φ ψ w x y V hE h hV => by
    obtain ⟨C, rfl, hC⟩ := hV
    obtain ⟨C⟩ := C
    obtain ⟨U, M, e, h1, h2⟩ := hC
    simp only at e
    subst e
    obtain ⟨U2, M2, rfl, h3, h4⟩ := h2
    exact ⟨⟨U :: U2 :: M2⟩, rfl, U, U2 :: M2, rfl, h U h1, U2, M2, rfl, (RV.bare _ _ hk).2 ((RV.bare _ _ hk).1 h3), h4⟩,
  fun ok y h => by
    have : vok ok k = true := vok_mono (fun n h => by cases h) k hk
    show vokL ok [y, k] = true
    simp [vokL, h, this]⟩
def FnO (f : FuncId) (args : List Value) (F : Value → Value) (e s n : Nat) (cs : List Value) : Prop :=
  ∃ (sl : Value) (l : List AB), CallsW prog f args (mk []) (F sl) (mk l) ∧ Own e s l sl n cs ∧ l.length < 16777216
theorem FnO.does {f : FuncId} {args : List Value} {F : Value → Value} {e s n : Nat} {cs : List Value} (h : FnO f args F e s n cs) (hF : VCtx F) (hargs : cleanL args = true) (hcs : cleanL cs = true) (l : List AB) (hl : l.length + 2 < 16777216) :
    ∃ sl l', Does prog (.call f args false) (mk l) (F sl) (mk l') ∧ Acc e s l l' sl n cs ∧ l'.length ≤ l.length + 1 := by
  obtain ⟨sl, m, hc, ho, hm⟩ := h
  rw [← mk_nil] at hc
  have hpd := mk_pend l
  have hroom : (mk l).next + 2 < 2 ^ 24 := by rw [mk_next]; omega
  cases ho with
  | nil =>
    have hcl : clean (F (.slice none 0 0)) = true := hF.ok _ _ rfl
    have hfn : Fn prog f args (F (.slice none 0 0)) := .of hc hargs (.clean hcl)
    exact ⟨_, l, hfn false (mk l), .nil, by omega⟩
  | @zero b hb =>
    have hd := does_own (A := mk l) (v := F (.slice (some ⟨b, 0, none⟩) 0 0)) (v' := F (.slice (some ⟨l.length, 0, none⟩) 0 0)) (b := b) (ab := .cells [] e (0, 0)) (d := false) hc hargs (by rw [mk_get _ m b rfl (by simpa using hm)]; exact hb) rfl hpd hroom (fun φ ψ w V hE h1 h2 hV => hF.rv φ ψ w _ _ V hE (fun U hU => by
      simp only [RV] at hU ⊢
      subst hU
      rw [mk_next] at h1 h2
      simp [renA, renCap, h1, h2]) hV) (hF.ok _ _ (by
      simp only [vok]
      rw [AS.ok_iff]
      exact .inl ⟨by show l.length < (mk l).next + 1; rw [mk_next]; omega, by show l.length ∉ (mk l).pend; rw [hpd]; simp⟩))
    rw [mk_put] at hd
    exact ⟨_, _, hd, ⟨.zero (by simp), fun b hb => List.getElem?_append_left hb, fun b h => by simp only [ownB, Option.some.injEq] at h; subst h; simp, by simp⟩, by simp⟩
  | @row b n cs hb h1 h2 h3 =>
    have hd := does_own (A := mk l) (v := F (.slice (some ⟨b, 0, none⟩) n (big + n))) (v' := F (.slice (some ⟨l.length, 0, none⟩) n (big + n))) (b := b) (ab := .grown cs e s) (d := false) hc hargs (by rw [mk_get _ m b rfl (by simpa using hm)]; exact hb) hcs hpd hroom (fun φ ψ w V hE h1 h2 hV => hF.rv φ ψ w _ _ V hE (fun U hU => by
      simp only [RV] at hU ⊢
      subst hU
      rw [mk_next] at h1 h2
      simp [renA, renCap, h1, h2]) hV) (hF.ok _ _ (by
      simp only [vok]
      rw [AS.ok_iff]
      exact .inl ⟨by show l.length < (mk l).next + 1; rw [mk_next]; omega, by show l.length ∉ (mk l).pend; rw [hpd]; simp⟩))
    rw [mk_put] at hd
    exact ⟨_, _, hd, ⟨.row (by simp) h1 h2 h3, fun b hb => List.getElem?_append_left hb, fun b h => by simp only [ownB, Option.some.injEq] at h; subst h; simp, by simp⟩, by simp⟩
theorem fnO_is {ns : Nat} {f : FuncId} {fn : Func} {body : Code} {args : List Value} {F : Value → Value} {e s n : Nat} {cs : List Value} {rs : Array ResultVar} (hfn : prog.funcs[f]? = some fn) (hns : fn.ntmps = ns) (hrs : fn.results = rs) (hbody : fn.body = some body)
    (h : W prog ns [.code body] (setArgs args 0 .nil) (mk []) fun tm A' => ∃ vs sl l, aresults prog tm A' rs.toList = some vs ∧ tupleOf vs = F sl ∧ A' = mk l ∧ Own e s l sl n cs ∧ l.length < 16777216)
    (h1 : args.length ≤ ns := by exact Nat.le_of_ble_eq_true rfl) (h2 : ns < 65535 := by decide) (hok : codeOk body = true := by kernel_rfl) : FnO f args F e s n cs := by
  subst hns hrs
  obtain ⟨v0, A', ⟨sl, l, rfl, rfl, ho, hl⟩, hc⟩ := fn_calls (R := fun v0 A' => ∃ sl l, v0 = F sl ∧ A' = mk l ∧ Own e s l sl n cs ∧ l.length < 16777216) cfgOK mixed hfn hbody h1 h2 hok (by
    obtain ⟨m, hm⟩ := h
    refine ⟨m, ?_⟩
    have e : (fun (tm : Trie Value) (A' : AS) => ∃ vs sl l, aresults prog tm A' fn.results.toList = some vs ∧ tupleOf vs = F sl ∧ A' = mk l ∧ Own e s l sl n cs ∧ l.length < 16777216) = fun tm A' => ∃ vs, aresults prog tm A' fn.results.toList = some vs ∧ ∃ sl l, tupleOf vs = F sl ∧ A' = mk l ∧ Own e s l sl n cs ∧ l.length < 16777216 := by
      funext tm A'
      apply propext
      constructor
      · rintro ⟨vs, sl, l, q1, q2⟩; exact ⟨vs, q1, sl, l, q2⟩
      · rintro ⟨vs, q1, sl, l, q2⟩; exact ⟨vs, sl, l, q1, q2⟩
    rw [e] at hm; exact hm)
  exact ⟨sl, l, hc, ho, hl⟩
end Go.Ev
namespace Go.Ev
open Go Go.Proofs Tryz
open TP (Str Tree Nd)
set_option maxRecDepth 100000
set_option maxHeartbeats 4000000
theorem Acc.app64 {B l : List AB} {v x : Value} {n m : Nat} {cs new : List Value} (h : Acc 3 1 B l v n cs) (hn : News prog l 3 1 false x new m) (hl : l.length + 2 < 16777216) (hb : n + m ≤ 16777216) :
    ∃ v' l', aappend prog (Ev.mk l) #[64, 64] [v, x] = some (v', Ev.mk l') ∧ Acc 3 1 B l' v' (n + m) (cs ++ new) ∧ l'.length ≤ l.length + 1 := by
  obtain ⟨v', l', q1, q2, q3, q4, q5, q6⟩ := Ev.app64 h.own hn hl hb
  exact ⟨v', l', q1, h.of q2 q3 q5 q6, q4⟩
theorem Acc.add64 {B l : List AB} {v : Value} {n : Nat} {cs : List Value} (h : Acc 3 1 B l v n cs) (k : Int) (hl : l.length + 3 < 16777216) (hb : n + 1 ≤ 16777216) :
    ∃ v' l', aappend prog (Ev.mk (l ++ [AB.cells [.int .i64 k] 3 (0, 0)])) #[64, 64] [v, .slice (some ⟨l.length, 0, none⟩) 1 1] = some (v', Ev.mk l') ∧ Acc 3 1 B l' v' (n + 1) (cs ++ [.int .i64 k]) ∧ l'.length ≤ l.length + 2 := by
  have n1 : News prog (l ++ [AB.cells [.int .i64 k] 3 (0, 0)]) 3 1 false (.slice (some ⟨l.length, 0, none⟩) 1 1) [.int .i64 k] 1 := news_arr (fz := (0, 0)) (e := 3) (cs := [.int .i64 k]) (by simp; omega) (by simp) rfl rfl
  obtain ⟨v', l', e, o, g⟩ := (h.more (AB.cells [.int .i64 k] 3 (0, 0))).app64 n1 (by simp; omega) hb
  exact ⟨v', l', e, o, by simp at g; omega⟩
def numAt (c : GChg) (p : List Int) (j : Nat) : Int := numI c (p.take j) (p.getD j 0)
def numL (c : GChg) (p : List Int) : List Int := (List.range p.length).map (numAt c p)
theorem ints_snoc {l : List Int} {x : Int} : ints (l ++ [x]) = ints l ++ [.int .i64 x] := by simp [ints]
def nearP (p : List Int) : Prop := p.length ≤ 4096 ∧ ∀ x ∈ p, 0 ≤ x ∧ x ≤ 1048577
theorem mayP.near {p : List Int} (h : mayP p) : nearP p := ⟨by have := h.1; omega, fun x hx => by have := h.2 x hx; omega⟩
def nodeB (o : GOp) (c : GChg) : List AB := [AB.cells (opC o) 67 (0, 0), AB.cells (chgC c) 327 (0, 0)]
theorem node_own (o : GOp) (hl : lenG o) (hm : movesG o) (p : List Int) (hp : nearP p) (hn : ¬ ((chgOf o).takes = true ∧ o.path <+: p)) :
    FnO 275 [vOp o, rowI p] (fun s => .tuple #[s, .bool true]) 3 1 p.length (ints (numL (chgOf o) p)) := by
  refine fnO_is func275 ntmps275 results275 rfl ?_
  have c1 := moves_fn o hl
  rw [decide_eq_true hm] at c1
  have hmp : mayP o.path := hm.1.1
  have c2 := of_fn o (by have := hmp.1; omega) (by
    have := hm.2
    by_cases h1 : o.kind = 1
    · exact .inl h1
    · right
      rw [if_neg h1] at this
      split at this
      · exact this
      · split at this
        · exact this.1
        · exact this.elim)
  have c3 := within_fn o.path p hl.1
  generalize hc : chgOf o = c at *
  have hpl := hp.1
  have eC : chgC c = [.bool c.takes, .bool c.puts, rowI c.from_, rowI c.to, .int .i64 c.at_, .int .i64 c.gap] := rfl
  simp only [vOp, opC] at c1
  simp only [vOp, opC, vChg] at c2
  clear hm hmp hl hc
  replace hn := Hid.mk hn
  refine burst ?_
  refine sCall_fn (by assumption) ?_
  refine burst ?_
  refine sCall_fn (by assumption) ?_
  refine burst ?_
  refine guard_cut (fun tm A => A = mk (nodeB o c) ∧ tget tm 1 = rowI p ∧ tget tm 2 = .pointer (some ⟨0, 0, none⟩) ∧ tget tm 6 = .pointer (some ⟨1, 0, none⟩) ∧ tget tm 7 = .slice none 0 0 ∧ tget tm 8 = .int .i64 0 ∧ tget tm 24 = .bool (decide (c.takes = true ∧ o.path <+: p))) ?_ ?_
  · intro S hS
    (repeat' (first | with_reducible refine ends_bool ?_ | with_reducible refine ends_int ?_ | with_reducible refine ifND (fun _ => ?_) (fun _ => ?_) | with_reducible refine ifD (fun _ => ?_) (fun _ => ?_) | with_reducible refine guardND (fun _ => ?_) (fun _ => ?_) | with_reducible refine guardD (fun _ => ?_) (fun _ => ?_) | with_reducible refine sIf_intro (fun _ => ?_) (fun _ => ?_) | with_reducible refine sGuard_intro (fun _ => ?_) (fun _ => ?_) | with_reducible refine sCall_fn (by assumption) ?_ | with_reducible refine sDraw_seq cfgOK (by kernel_rfl) ?_ | ((first | with_reducible show W _ _ (.code _ :: _) _ _ _ | with_reducible show wRun _ _ _ _ _ _ _ _ _); refine burst ?_)))
    all_goals refine hS.to ⟨by first | rfl | simp only [nodeB, opC, chgC, *], look, look, look, look, look, ?_⟩
    all_goals refine Eq.trans look ?_
    all_goals rw [Value.bool.injEq]
    all_goals simp [*]
  rintro tm A ⟨rfl, t1, t2, t6, t7, t8, t24⟩
  have hbl : (nodeB o c).length = 2 := rfl
  refine burst ?_
  refine ifD (fun h => absurd h hn.out) (fun h => ?_)
  clear h t24 c1 c2 c3
  refine burst ?_
  refine W_for p.length (fun i tm A => ∃ l a n, A = mk l ∧ tget tm 1 = rowI p ∧ tget tm 6 = .pointer (some ⟨1, 0, none⟩) ∧ tget tm 7 = .slice a i n ∧ tget tm 8 = .int .i64 0 ∧ tget tm 9 = .int .i64 i ∧ Hid (Acc 3 1 (nodeB o c) l (.slice a i n) i (ints ((List.range i).map (numAt c p)))) ∧ l.length ≤ 2 + 2 * i) ?_ 0 _ _ (by omega)
    ⟨nodeB o c, none, 0, rfl, look, look, look, look, look, ⟨.nil⟩, by simp [hbl]⟩
  rintro i tm A hi ⟨l, a, n, rfl, h1, h6, h7, h8, h9, ho, hl⟩ next
  replace next := Hid.mk next
  have f1 : l[1]? = some (AB.cells (chgC c) 327 (0, 0)) := ho.out.base 1 (by rw [hbl]; omega)
  have hl1 : l.length < 16777216 := by omega
  have hl2 : l.length + 2 < 16777216 := by omega
  refine burst ?_
  refine ifD (fun q => ?_) (fun q => ?_)
  · obtain ⟨k, e1⟩ : ∃ k, p[i]? = some k := ⟨_, get_some q⟩
    have hk := hp.2 k (List.mem_of_getElem? e1)
    have hw := wrap_succ (Nat.le_of_lt q) (by omega)
    have c4 := number_fn c (p.take i) k (by simp; omega) (by omega) (by omega)
    have hnum : numAt c p i = numI c (p.take i) k := by
      unfold numAt
      rw [List.getD_eq_getElem?_getD, e1]; rfl
    rw [← hnum] at c4
    obtain ⟨v', l', e, o', g'⟩ := ho.out.add64 (numAt c p i) (by omega) (by omega)
    obtain ⟨a', n', hv⟩ := o'.own.slice
    subst hv
    have hsl : frPart p.length (ints p) 1 0 i = some (rowI (p.take i)) := by
      rw [frPart_ints, if_pos ⟨by omega, by omega⟩]; simp
    clear hnum hk
    simp only [vChg] at c4
    refine burst ?_
    refine ifD (fun h => absurd h (by omega)) (fun _ => ?_)
    refine burst ?_
    refine sDraw_seq cfgOK (by kernel_rfl) ?_
    refine burst ?_
    refine sCall_fn (by assumption) ?_
    refine burst ?_
    refine next.out _ _ q ⟨l', a', n', rfl, look, look, look, look, look, ⟨?_⟩, by omega⟩
    rw [List.range_succ, List.map_append, List.map_cons, List.map_nil, ints_snoc]; exact o'
  · have hii : i = p.length := by omega
    subst hii
    refine burst ?_
    exact ⟨_, _, _, rfl, rfl, rfl, ho.out.own, hl1⟩
end Go.Ev
namespace Go.Ev
open Go Go.Proofs Tryz
open TP (Str Tree Nd)
set_option maxRecDepth 100000
set_option maxHeartbeats 4000000
def nodeG (o : GOp) (p : List Int) : Option (List Int) :=
  if movesG o then (if (chgOf o).takes = true ∧ o.path <+: p then (if (chgOf o).puts = true then some (numL (chgOf o) o.to ++ [landI (chgOf o)] ++ p.drop o.path.length) else none) else some (numL (chgOf o) p)) else some p
theorem numL_length (c : GChg) (p : List Int) : (numL c p).length = p.length := by simp [numL]
theorem FnO.fn {f : FuncId} {args : List Value} {F : Value → Value} {e s n : Nat} {cs : List Value} {v : Value} (h : FnO f args F e s n cs) (hargs : cleanL args = true) (hF : ∀ {l : List AB} {sl : Value}, Own e s l sl n cs → l.length < 16777216 → Frz (mk l) (F sl) v) : Fn prog f args v := by
  obtain ⟨sl, l, hc, ho, hl⟩ := h
  rw [← mk_nil] at hc
  exact .of hc hargs (hF ho hl)
theorem node_fn (o : GOp) (hl : lenG o) (p : List Int) (hp : nearP p) : Fn prog 275 [vOp o, rowI p] (.tuple #[rowI ((nodeG o p).getD []), .bool (nodeG o p).isSome]) := by
  by_cases hm : movesG o
  case neg =>
    have e : nodeG o p = some p := if_neg hm
    rw [e]
    refine fn_is func275 ntmps275 results275 rfl cfgOK mixed (cl2 (vOp_clean o) (rowI_clean p)) ?_
    have c1 := moves_fn o hl
    rw [decide_eq_false hm] at c1
    have c2 := clone_fn p (by have := hp.1; omega)
    simp only [vOp, opC] at c1
    clear e hm hl
    refine burst ?_
    refine sCall_fn (by assumption) ?_
    refine burst ?_
    refine sCall_fn (by assumption) ?_
    refine burst ?_
    exact ends (.tuple (.cons (.clean (rowI_clean p)) (.clean rfl))) rfl
  by_cases ht : (chgOf o).takes = true ∧ o.path <+: p
  case neg =>
    have e : nodeG o p = some (numL (chgOf o) p) := by unfold nodeG; rw [if_pos hm, if_neg ht]
    rw [e]
    refine (node_own o hl hm p hp ht).fn (cl2 (vOp_clean o) (rowI_clean p)) fun ho hl => ?_
    refine .tuple (.cons ?_ (.clean rfl))
    have := ho.frz hl (ints_clean _)
    simp only [Option.getD_some, rowI, numL_length]
    exact this
  refine fn_is func275 ntmps275 results275 rfl cfgOK mixed (cl2 (vOp_clean o) (rowI_clean p)) ?_
  have hmp : mayP o.path := hm.1.1
  have hne : o.path ≠ [] := by
    have := hm.2
    by_cases h1 : o.kind = 1
    · have h2 := ht.1; simp [chgOf, h1] at h2
    · rw [if_neg h1] at this
      split at this
      · exact this
      · split at this
        · exact this.1
        · exact this.elim
  have c1 := moves_fn o hl
  rw [decide_eq_true hm] at c1
  have c2 := of_fn o (by have := hmp.1; omega) (.inr hne)
  have c3 := within_fn o.path p hl.1
  rw [decide_eq_true ht.2] at c3
  have htk := ht.1
  have hpl := hp.1
  have hpos : 0 < o.path.length := List.length_pos_iff.2 hne
  have hle : o.path.length ≤ p.length := ht.2.length_le
  by_cases hu : (chgOf o).puts = true
  case neg =>
    have e : nodeG o p = none := by unfold nodeG; rw [if_pos hm, if_pos ht, if_neg hu]
    rw [e]
    have hu : (chgOf o).puts = false := by simpa using hu
    generalize hc : chgOf o = c at *
    have eC : chgC c = [.bool c.takes, .bool c.puts, rowI c.from_, rowI c.to, .int .i64 c.at_, .int .i64 c.gap] := rfl
    simp only [vOp, opC] at c1
    simp only [vOp, opC, vChg] at c2
    clear e hm hl ht hmp hp hc
    refine burst ?_
    refine sCall_fn (by assumption) ?_
    refine burst ?_
    refine sCall_fn (by assumption) ?_
    refine burst ?_
    refine sCall_fn (by assumption) ?_
    refine burst ?_
    refine goto_to rfl ?_
    refine burst ?_
    exact ends (.tuple (.cons .nil (.clean rfl))) rfl
  have e : nodeG o p = some (numL (chgOf o) o.to ++ [landI (chgOf o)] ++ p.drop o.path.length) := by unfold nodeG; rw [if_pos hm, if_pos ht, if_pos hu]
  rw [e]
  have h3 : o.kind = 3 ∧ ¬ o.path <+: o.to ∧ gapG o ∧ mayP o.to := by
    have h1 : ¬ o.kind = 1 := fun h => by simp [chgOf, h] at htk
    have h2 : ¬ o.kind = 2 := fun h => by simp [chgOf, h] at hu
    have h4 := hm.2
    rw [if_neg h1, if_neg h2] at h4
    have hk := hm.1.2
    unfold formK at hk
    rw [if_neg h1, if_neg h2] at hk
    split at h4
    · rename_i h3
      rw [if_pos h3] at hk
      exact ⟨h3, h4.2, hk⟩
    · exact h4.elim
  have own := node_own o hl hm o.to h3.2.2.2.near (fun h => h3.2.1 h.2)
  have c4 := land_fn (chgOf o) (by simp only [chgOf]; split <;> simp; have := hmp.1; omega) (by have := h3.2.2.1.1; simp only [chgOf]; omega) (by have := h3.2.2.1.2; simp only [chgOf]; omega)
  have htl := h3.2.2.2.1
  obtain ⟨sl, l, hd, acc, hlen⟩ := own.does (.tup rfl) (cl2 (vOp_clean o) (rowI_clean _)) (ints_clean _) (nodeB o (chgOf o)) (by simp [nodeB])
  clear own
  generalize hc : chgOf o = c at *
  have eC : chgC c = [.bool c.takes, .bool c.puts, rowI c.from_, rowI c.to, .int .i64 c.at_, .int .i64 c.gap] := rfl
  generalize landI c = ld at *
  have hnl := numL_length c o.to
  generalize numL c o.to = nl at *
  clear e hm hl ht hmp h3 hp hc
  have hbl : (nodeB o c).length = 2 := rfl
  rw [hbl] at hlen
  obtain ⟨a, n, hv⟩ := acc.own.slice
  subst hv
  have f0 : l[0]? = some (AB.cells (opC o) 67 (0, 0)) := acc.base 0 (by rw [hbl]; omega)
  have f1 : l[1]? = some (AB.cells (chgC c) 327 (0, 0)) := acc.base 1 (by rw [hbl]; omega)
  have hl1 : l.length < 16777216 := by omega
  have hl2 : l.length + 2 < 16777216 := by omega
  obtain ⟨v2, l2, e2, acc2, hlen2⟩ := acc.add64 ld (by omega) (by omega)
  obtain ⟨a2, n2, hv⟩ := acc2.own.slice
  subst hv
  have f2 : l2[0]? = some (AB.cells (opC o) 67 (0, 0)) := acc2.base 0 (by rw [hbl]; omega)
  have hl3 : l2.length < 16777216 := by omega
  simp only [nodeB, opC, chgC] at hd f0 f1 f2
  simp only [vOp, opC] at c1 hd
  simp only [vOp, opC, vChg] at c2
  simp only [vChg, chgC] at c4
  simp only [htk, hu] at c4 hd f1
  replace acc := Hid.mk acc
  replace acc2 := Hid.mk acc2
  refine burst ?_
  refine sCall_fn (by assumption) ?_
  refine burst ?_
  refine sCall_fn (by assumption) ?_
  refine burst ?_
  refine sCall_fn (by assumption) ?_
  refine burst ?_
  refine sCall_does hd ?_
  refine burst ?_
  refine sCall_fn (by assumption) ?_
  refine burst ?_
  clear c1 c2 c3 c4 hd e2 f0 f1 f2
  refine W_for (P := prog) (p.length - o.path.length) (fun i tm A => ∃ l a n, A = mk l ∧ tget tm 1 = rowI p ∧ tget tm 7 = .slice a (o.to.length + 1 + i) n ∧ tget tm 8 = .int .i64 o.path.length ∧ tget tm 9 = .int .i64 (o.path.length + i : Nat) ∧ Hid (Acc 3 1 (nodeB o c) l (.slice a (o.to.length + 1 + i) n) (o.to.length + 1 + i) (ints (nl ++ [ld] ++ (p.drop o.path.length).take i))) ∧ l.length ≤ 6 + 2 * i) ?_ 0 _ _ (by omega)
    ⟨l2, a2, n2, rfl, look, look, look, look, ⟨by rw [List.take_zero, List.append_nil, ints_snoc]; exact acc2.out⟩, by omega⟩
  rintro i tm A hi ⟨l, a, n, rfl, h1, h7, h8, h9, ho, hl⟩ next
  replace next := Hid.mk next
  clear acc acc2 hl1 hl2 hl3 hlen hlen2 htk hu
  have hl1 : l.length < 16777216 := by omega
  have hl2 : l.length + 2 < 16777216 := by omega
  refine burst ?_
  refine ifD (fun q => ?_) (fun q => ?_)
  · have q : o.path.length + i < p.length := by omega
    obtain ⟨k, e1⟩ : ∃ k, p[o.path.length + i]? = some k := ⟨_, get_some q⟩
    have hw : IntKind.i64.wrap (((o.path.length + i : Nat) : Int) + 1) = ((o.path.length + (i + 1) : Nat) : Int) := by rw [wrap_in (by omega) (by omega)]; omega
    obtain ⟨v', l', e, o', g'⟩ := ho.out.add64 k (by omega) (by omega)
    obtain ⟨a', n', hv⟩ := o'.own.slice
    subst hv
    refine burst ?_
    refine ifD (fun _ => ?_) (fun h => absurd h (by omega))
    refine burst ?_
    refine next.out _ _ (by omega) ⟨l', a', n', rfl, look, look, look, look, ⟨?_⟩, by omega⟩
    have : (p.drop o.path.length).take (i + 1) = (p.drop o.path.length).take i ++ [k] := by
      rw [List.take_add_one, List.getElem?_drop, e1]; rfl
    rw [this, ← List.append_assoc, ints_snoc]; exact o'
  · have hii : i = p.length - o.path.length := by omega
    subst hii
    have htk : (p.drop o.path.length).take (p.length - o.path.length) = p.drop o.path.length := List.take_of_length_le (by simp)
    rw [htk] at ho
    refine burst ?_
    refine ends (.tuple (.cons ?_ (.clean rfl))) rfl
    have := ho.out.own.frz hl1 (ints_clean _)
    have hn : (nl ++ [ld] ++ p.drop o.path.length).length = o.to.length + 1 + (p.length - o.path.length) := by simp [hnl]; omega
    simp only [Option.getD_some, rowI, hn]
    exact this
end Go.Ev
namespace Go.Ev
open Go Go.Proofs Tryz
open TP (Str Tree Nd)
set_option maxRecDepth 100000
set_option maxHeartbeats 4000000
def gapI (c : GChg) (p : List Int) (k : Int) (first : Bool) : Int := (if c.takes = true ∧ c.at_ < k ∧ p = c.from_ then k - 1 else k) + (if c.puts = true ∧ p = c.to ∧ (c.gap < k ∨ k = c.gap ∧ first = false) then 1 else 0)
def gapA (o : GOp) (p : List Int) (k : Int) (first : Bool) : List Int × Int × Bool := match nodeG o p with
  | none => ([], 0, false)
  | some q => (q, if movesG o then gapI (chgOf o) p k first else k, true)
theorem moves_ne {o : GOp} (hm : movesG o) : o.kind = 1 ∨ o.path ≠ [] := by
  have := hm.2
  by_cases h1 : o.kind = 1
  · exact .inl h1
  · right
    rw [if_neg h1] at this
    split at this
    · exact this
    · split at this
      · exact this.1
      · exact this.elim
theorem gap_fn (o : GOp) (hl : lenG o) (p : List Int) (hp : mayP p) (k : Int) (h0 : -1048576 ≤ k) (h1 : k ≤ 1048576) (first : Bool) :
    Fn prog 312 [vOp o, rowI p, .int .i64 k, .bool first] (.tuple #[rowI (gapA o p k first).1, .int .i64 (gapA o p k first).2.1, .bool (gapA o p k first).2.2]) := by
  refine fn_is func312 ntmps312 results312 rfl cfgOK mixed (cleanL_cons (vOp_clean o) (cl3 (rowI_clean p) rfl rfl)) ?_
  have c1 := node_fn o hl p hp.near
  have c2 := moves_fn o hl
  have hg := Hid.mk (@gapA.eq_def o p k first)
  have hpl : p.length < 4294967296 := by have := hp.1; omega
  cases hq : nodeG o p with
  | none =>
    rw [hq] at c1 hg
    simp only [hg.out]
    simp only [vOp, opC, Option.getD_none, Option.isSome_none] at c1
    clear c2 hq
    refine burst ?_
    refine sCall_fn (by assumption) ?_
    refine burst ?_
    exact ends (.tuple (.cons (.clean rfl) (.clean rfl))) rfl
  | some q =>
    rw [hq] at c1 hg
    simp only [hg.out]
    simp only [vOp, opC, Option.getD_some, Option.isSome_some] at c1 c2
    by_cases hm : movesG o
    case neg =>
      rw [decide_eq_false hm] at c2
      rw [if_neg hm]
      clear hm hq hg
      refine burst ?_
      refine sCall_fn (by assumption) ?_
      refine burst ?_
      refine sCall_fn (by assumption) ?_
      refine burst ?_
      exact ends (.tuple (.cons (.clean (rowI_clean q)) (.clean rfl))) rfl
    rw [decide_eq_true hm] at c2
    rw [if_pos hm]
    have c3 := of_fn o (by have := hm.1.1.1; omega) (moves_ne hm)
    have c4 := same_fn p (chgOf o).from_ hpl
    have c5 := same_fn p (chgOf o).to hpl
    generalize chgOf o = c at *
    have eC : chgC c = [.bool c.takes, .bool c.puts, rowI c.from_, rowI c.to, .int .i64 c.at_, .int .i64 c.gap] := rfl
    have hw : IntKind.i64.wrap (k - 1) = k - 1 := wrap_in (by omega) (by omega)
    have hw2 : IntKind.i64.wrap (k + 1) = k + 1 := wrap_in (by omega) (by omega)
    have hw3 : IntKind.i64.wrap (k - 1 + 1) = k - 1 + 1 := wrap_in (by omega) (by omega)
    simp only [vOp, opC, vChg] at c3
    clear hm hq hg h0 h1 hl hp
    refine burst ?_
    refine sCall_fn (by assumption) ?_
    refine burst ?_
    refine sCall_fn (by assumption) ?_
    refine burst ?_
    refine sCall_fn (by assumption) ?_
    refine burst ?_
    clear c1 c2 c3
    refine guard_cut (fun tm A => A = mk (nodeB o c) ∧ tget tm 1 = rowI p ∧ tget tm 2 = .int .i64 k ∧ tget tm 3 = .bool first ∧ tget tm 11 = rowI q ∧ tget tm 13 = .pointer (some ⟨1, 0, none⟩) ∧ tget tm 14 = .int .i64 k ∧ tget tm 49 = .bool (decide (c.takes = true ∧ c.at_ < k ∧ p = c.from_))) ?_ ?_
    · intro S hS
      (repeat' (first | with_reducible refine ends_bool ?_ | with_reducible refine ends_int ?_ | with_reducible refine ifND (fun _ => ?_) (fun _ => ?_) | with_reducible refine ifD (fun _ => ?_) (fun _ => ?_) | with_reducible refine guardND (fun _ => ?_) (fun _ => ?_) | with_reducible refine guardD (fun _ => ?_) (fun _ => ?_) | with_reducible refine sIf_intro (fun _ => ?_) (fun _ => ?_) | with_reducible refine sGuard_intro (fun _ => ?_) (fun _ => ?_) | with_reducible refine sCall_fn (by assumption) ?_ | with_reducible refine sDraw_seq cfgOK (by kernel_rfl) ?_ | ((first | with_reducible show W _ _ (.code _ :: _) _ _ _ | with_reducible show wRun _ _ _ _ _ _ _ _ _); refine burst ?_)))
      all_goals refine hS.to ⟨by first | rfl | simp only [nodeB, opC, chgC, *], look, look, look, look, look, look, ?_⟩
      all_goals refine Eq.trans look ?_
      all_goals rw [Value.bool.injEq]
      all_goals clear c4 c5
      all_goals grind
    rintro tm A ⟨rfl, a1, a2, a3, a11, a13, a14, a49⟩
    refine burst ?_
    refine if_cut (fun tm A => A = mk (nodeB o c) ∧ tget tm 1 = rowI p ∧ tget tm 2 = .int .i64 k ∧ tget tm 3 = .bool first ∧ tget tm 11 = rowI q ∧ tget tm 13 = .pointer (some ⟨1, 0, none⟩) ∧ ∃ n, Hid (n = if c.takes = true ∧ c.at_ < k ∧ p = c.from_ then k - 1 else k) ∧ tget tm 14 = .int .i64 n) (by kernel_rfl) ?_ ?_
    · intro S hS
      refine ifD (fun h => ?_) (fun h => ?_)
      · replace h := Hid.mk h
        refine burst ?_
        exact hS.to ⟨rfl, look, look, look, look, look, k - 1, ⟨by rw [if_pos h.out]⟩, look⟩
      · replace h := Hid.mk h
        refine burst ?_
        exact hS.to ⟨rfl, look, look, look, look, look, k, ⟨by rw [if_neg h.out]⟩, look⟩
    clear a1 a2 a3 a11 a13 a14 a49
    rintro tm A ⟨rfl, a1, a2, a3, a11, a13, n, hn, a14⟩
    have hw4 : IntKind.i64.wrap (n + 1) = n + 1 := by
      have := hn.out
      split at this <;> subst this <;> assumption
    clear hw hw2 hw3
    have eB : nodeB o c = [AB.cells (opC o) 67 (0, 0), AB.cells (chgC c) 327 (0, 0)] := rfl
    refine burst ?_
    refine guard_cut (fun tm A => A = mk (nodeB o c) ∧ tget tm 11 = rowI q ∧ tget tm 14 = .int .i64 n ∧ tget tm 75 = .bool (decide (c.puts = true ∧ p = c.to ∧ (c.gap < k ∨ k = c.gap ∧ first = false)))) ?_ ?_
    · intro S hS
      clear hn
      (repeat' (first | with_reducible refine ends_bool ?_ | with_reducible refine ends_int ?_ | with_reducible refine ifND (fun _ => ?_) (fun _ => ?_) | with_reducible refine ifD (fun _ => ?_) (fun _ => ?_) | with_reducible refine guardND (fun _ => ?_) (fun _ => ?_) | with_reducible refine guardD (fun _ => ?_) (fun _ => ?_) | with_reducible refine sIf_intro (fun _ => ?_) (fun _ => ?_) | with_reducible refine sGuard_intro (fun _ => ?_) (fun _ => ?_) | with_reducible refine sCall_fn (by assumption) ?_ | with_reducible refine sDraw_seq cfgOK (by kernel_rfl) ?_ | ((first | with_reducible show W _ _ (.code _ :: _) _ _ _ | with_reducible show wRun _ _ _ _ _ _ _ _ _); refine burst ?_)))
      all_goals refine hS.to ⟨by first | rfl | simp only [nodeB, opC, chgC, *], look, look, ?_⟩
      all_goals refine Eq.trans look ?_
      all_goals rw [Value.bool.injEq]
      all_goals clear c4 c5
      all_goals grind
    clear a1 a2 a3 a11 a13 a14
    rintro tm A ⟨rfl, a11, a14, a75⟩
    refine burst ?_
    refine ifD (fun h => ?_) (fun h => ?_)
    · replace h := Hid.mk h
      refine burst ?_
      refine ends (.tuple (.cons (.clean (rowI_clean q)) (.clean rfl))) ?_
      rw [gapI, if_pos h.out, hn.out]
    · replace h := Hid.mk h
      refine burst ?_
      refine ends (.tuple (.cons (.clean (rowI_clean q)) (.clean rfl))) ?_
      rw [gapI, if_neg h.out, hn.out, Int.add_zero]
end Go.Ev
