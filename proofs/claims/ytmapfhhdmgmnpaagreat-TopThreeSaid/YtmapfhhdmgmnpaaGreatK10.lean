import Derived.Test.YtmapfhhdmgmnpaaGreatK09
namespace Go.Ev
open Go Go.Proofs Tryz
open TP (Str Tree Nd)
set_option maxRecDepth 100000
set_option maxHeartbeats 4000000
theorem b67_4 {p q : Value} {k : Int} {n m : Nat} {l l' : List Value} (hp : p = frow n l) (hq : q = frow m l') : abuild prog 67 [(0, .int .u8 3), (1, p), (3, q), (2, .int .i64 k)] = some (.agg #[.int .u8 3, p, .int .i64 k, q, .int .u64 0, .bool false, .string ⟨#[]⟩, .string ⟨#[]⟩, .string ⟨#[]⟩, .bool false, .slice none 0 0]) := by
  subst hp hq
  kernel_rfl
def undoG (o : GOp) : GOp := { zeroO with kind := 3, path := (nodeG o o.path).getD [], to := (nodeG o (chgOf o).from_).getD [], at_ := (chgOf o).at_ + if (chgOf o).from_ = (chgOf o).to ∧ landI (chgOf o) < (chgOf o).at_ then 1 else 0 }
theorem mayP.dropLast {p : List Int} (h : mayP p) : mayP p.dropLast := ⟨by have := h.1; simp; omega, fun x hx => h.2 x ((List.dropLast_sublist p).subset hx)⟩
def zeroOC : List Value := [.int .u8 0, .slice none 0 0, .int .i64 0, .slice none 0 0, .int .u64 0, .bool false, .string ⟨#[]⟩, .string ⟨#[]⟩, .string ⟨#[]⟩, .bool false, .slice none 0 0]
def undoB (o : GOp) (c : GChg) : List AB := [AB.cells (opC o) 67 (0, 0), AB.cells zeroOC 67 (0, 0), AB.cells (chgC c) 327 (0, 0)]
theorem undo_fn (o : GOp) (hl : lenG o) (hm : movesG o) (h3 : o.kind = 3) : Fn prog 279 [vOp o] (vOp (undoG o)) := by
  refine fn_is func279 ntmps279 results279 rfl cfgOK mixed (cl1 (vOp_clean o)) ?_
  have c1 := moves_fn o hl
  rw [decide_eq_true hm] at c1
  have hmp : mayP o.path := hm.1.1
  have hne : o.path ≠ [] := by rcases moves_ne hm with h | h; omega; exact h
  have c2 := of_fn o (by have := hmp.1; omega) (.inr hne)
  have hfrom : (chgOf o).from_ = o.path.dropLast := by simp [chgOf, h3]
  have hat : (chgOf o).at_ = lastI o.path := by simp [chgOf, h3]
  have hgap : gapG o := by
    have hk := hm.1.2
    unfold formK at hk
    rw [if_neg (by omega), if_neg (by omega), if_pos h3] at hk
    exact hk.1
  have hatb : 0 ≤ (chgOf o).at_ ∧ (chgOf o).at_ < 1048576 := by
    rw [hat]
    have : lastI o.path ∈ o.path := by
      unfold lastI
      rw [List.getLastD_eq_getLast?, List.getLast?_eq_some_getLast hne]
      exact List.getLast_mem hne
    exact hmp.2 _ this
  have c3 := node_fn o hl o.path hmp.near
  have c4 := node_fn o hl (chgOf o).from_ (by rw [hfrom]; exact hmp.dropLast.near)
  have c5 := same_fn (chgOf o).from_ (chgOf o).to (by rw [hfrom]; have := hmp.1; simp; omega)
  have c6 := land_fn (chgOf o) (by rw [hfrom]; have := hmp.1; simp; omega) (by have := hgap.1; simp only [chgOf]; omega) (by have := hgap.2; simp only [chgOf]; omega)
  have hu := Hid.mk (show undoG o = { zeroO with kind := 3, path := (nodeG o o.path).getD [], to := (nodeG o (chgOf o).from_).getD [], at_ := (chgOf o).at_ + if (chgOf o).from_ = (chgOf o).to ∧ landI (chgOf o) < (chgOf o).at_ then 1 else 0 } from rfl)
  generalize chgOf o = c at *
  generalize (nodeG o o.path).getD [] = now at *
  generalize (nodeG o c.from_).getD [] = to' at *
  generalize (nodeG o o.path).isSome = s1 at *
  generalize (nodeG o c.from_).isSome = s2 at *
  generalize landI c = ld at *
  have hw : IntKind.i64.wrap (c.at_ + 1) = c.at_ + 1 := wrap_in (by omega) (by omega)
  have hb1 := b67_4 (k := c.at_) (show rowI now = frow _ _ from rfl) (show rowI to' = frow _ _ from rfl)
  have hb2 := b67_4 (k := c.at_ + 1) (show rowI now = frow _ _ from rfl) (show rowI to' = frow _ _ from rfl)
  have eC : chgC c = [.bool c.takes, .bool c.puts, rowI c.from_, rowI c.to, .int .i64 c.at_, .int .i64 c.gap] := rfl
  simp only [vOp, opC] at c1 c3 c4
  simp only [vOp, opC, vChg] at c2
  simp only [vChg] at c6
  clear hl hm hmp hne hfrom hat hgap hatb
  replace h3 := decide_eq_true h3
  refine burst ?_
  refine sCall_fn (by assumption) ?_
  refine burst ?_
  refine sCall_fn (by assumption) ?_
  refine burst ?_
  refine sCall_fn (by assumption) ?_
  refine burst ?_
  refine sCall_fn (by assumption) ?_
  refine burst ?_
  refine sCall_fn (by assumption) ?_
  refine burst ?_
  clear c1 c2 c3 c4 c5
  refine guard_cut (fun tm A => A = mk (undoB o c) ∧ tget tm 2 = .pointer (some ⟨1, 0, none⟩) ∧ tget tm 4 = rowI now ∧ tget tm 6 = rowI to' ∧ tget tm 8 = .int .i64 c.at_ ∧ tget tm 46 = .bool (decide (c.from_ = c.to ∧ ld < c.at_))) ?_ ?_
  · intro S hS
    simp only [vChg, chgC] at c6
    clear hb1 hb2
    refine guardD (fun h => ?_) (fun h => ?_)
    · have hd := decide_eq_true h
      replace h := Hid.mk h
      refine burst ?_
      refine sCall_fn (by assumption) ?_
      refine burst ?_
      refine hS.to ⟨by first | rfl | simp only [undoB, opC, chgC, zeroOC, *], look, look, look, look, Eq.trans look ?_⟩
      rw [Value.bool.injEq]
      have := h.out
      simp [this]
    · have hd := decide_eq_false h
      replace h := Hid.mk h
      refine burst ?_
      refine hS.to ⟨by first | rfl | simp only [undoB, opC, chgC, zeroOC, *], look, look, look, look, Eq.trans look ?_⟩
      rw [Value.bool.injEq]
      have := h.out
      simp [this]
  clear c6
  rintro tm A ⟨rfl, a2, a4, a6, a8, a46⟩
  have eB : undoB o c = [AB.cells (opC o) 67 (0, 0), AB.cells zeroOC 67 (0, 0), AB.cells (chgC c) 327 (0, 0)] := rfl
  have eZ : zeroOC = [.int .u8 0, .slice none 0 0, .int .i64 0, .slice none 0 0, .int .u64 0, .bool false, .string ⟨#[]⟩, .string ⟨#[]⟩, .string ⟨#[]⟩, .bool false, .slice none 0 0] := rfl
  have kp : ∀ {A : AS} (p : List Int), Frz A (rowI p) (rowI p) := fun p => .clean (rowI_clean p)
  replace kp := Hid.mk @kp
  refine burst ?_
  refine ifD (fun h => ?_) (fun h => ?_)
  · have hu2 : undoG o = { zeroO with kind := 3, path := now, to := to', at_ := c.at_ + 1 } := by rw [hu.out, if_pos h]
    rw [hu2]
    clear hu hu2
    replace h := Hid.mk h
    refine burst ?_
    exact ⟨_, rfl, op_frz (o := { zeroO with kind := 3, path := now, to := to', at_ := c.at_ + 1 }) (kp.out _) (kp.out _) .nil⟩
  · have hu2 : undoG o = { zeroO with kind := 3, path := now, to := to', at_ := c.at_ } := by rw [hu.out, if_neg h, Int.add_zero]
    rw [hu2]
    clear hu hu2
    replace h := Hid.mk h
    refine burst ?_
    exact ⟨_, rfl, op_frz (o := { zeroO with kind := 3, path := now, to := to', at_ := c.at_ }) (kp.out _) (kp.out _) .nil⟩
def dropG (p : List Int) : GOp := { zeroO with kind := 2, path := p }
theorem sqdrop_fn (p : List Int) : Fn prog 276 [rowI p] (vOp (dropG p)) := by
  refine fn_is func276 ntmps276 results276 rfl cfgOK mixed (cl1 (rowI_clean p)) ?_
  have kp : ∀ {A : AS} (p : List Int), Frz A (rowI p) (rowI p) := fun p => .clean (rowI_clean p)
  replace kp := Hid.mk @kp
  refine burst ?_
  exact ⟨_, rfl, op_frz (o := dropG p) (kp.out _) .nil .nil⟩
def soundG (o : GOp) : Prop := formG o ∧ (o.kind = 2 → o.path ≠ []) ∧ (o.kind = 3 → o.path ≠ [] ∧ ¬ o.path <+: o.to)
instance (o : GOp) : Decidable (soundG o) := by unfold soundG; infer_instance
theorem sound_fn (o : GOp) (hl : lenG o) : Fn prog 220 [vOp o] (.bool (decide (soundG o))) := by
  refine fn_is func220 ntmps220 results220 rfl cfgOK mixed (cl1 (vOp_clean o)) ?_
  have c1 := formed_fn o hl
  have c2 := within_fn o.path o.to hl.1
  simp only [vOp, opC] at c1
  clear hl
  (repeat' (first | with_reducible refine ends_bool ?_ | with_reducible refine ends_int ?_ | with_reducible refine ifND (fun _ => ?_) (fun _ => ?_) | with_reducible refine ifD (fun _ => ?_) (fun _ => ?_) | with_reducible refine guardND (fun _ => ?_) (fun _ => ?_) | with_reducible refine guardD (fun _ => ?_) (fun _ => ?_) | with_reducible refine sIf_intro (fun _ => ?_) (fun _ => ?_) | with_reducible refine sGuard_intro (fun _ => ?_) (fun _ => ?_) | with_reducible refine sCall_fn (by assumption) ?_ | with_reducible refine sDraw_seq cfgOK (by kernel_rfl) ?_ | ((first | with_reducible show W _ _ (.code _ :: _) _ _ _ | with_reducible show wRun _ _ _ _ _ _ _ _ _); refine burst ?_)))
  all_goals clear c1 c2
  all_goals simp_all [soundG]
  all_goals first | (simp [List.length_pos_iff]; done) | (intros; exact List.length_pos_iff.1 (by assumption))
def wonG (b a : GOp) : Prop := a.kind = b.kind ∧ a.path = b.path ∧ (b.kind = 3 ∨ b.kind = 5 ∨ b.kind = 4 ∧ a.key = b.key)
instance (b a : GOp) : Decidable (wonG b a) := by unfold wonG; infer_instance
theorem won_fn (b a : GOp) (hl : a.path.length < 4294967296) : Fn prog 277 [vOp b, vOp a] (.bool (decide (wonG b a))) := by
  refine fn_is func277 ntmps277 results277 rfl cfgOK mixed (cl2 (vOp_clean b) (vOp_clean a)) ?_
  have c1 := same_fn a.path b.path hl
  clear hl
  have eO : ∀ o, opC o = [.int .u8 o.kind, rowI o.path, .int .i64 o.at_, rowI o.to, .int .u64 o.id, .bool o.leaf, .string (bs o.label), .string (bs o.key), .string (bs o.value), .bool o.gone, rowP o.pieces] := fun _ => rfl
  refine burst ?_
  refine guard_cut (fun tm A => A = mk [AB.cells (opC b) 67 (0, 0), AB.cells (opC a) 67 (0, 0)] ∧ tget tm 2 = .pointer (some ⟨0, 0, none⟩) ∧ tget tm 3 = .pointer (some ⟨1, 0, none⟩) ∧ tget tm 17 = .bool (!decide (a.kind = b.kind ∧ a.path = b.path))) ?_ ?_
  · intro S hS
    (repeat' (first | with_reducible refine ends_bool ?_ | with_reducible refine ends_int ?_ | with_reducible refine ifND (fun _ => ?_) (fun _ => ?_) | with_reducible refine ifD (fun _ => ?_) (fun _ => ?_) | with_reducible refine guardND (fun _ => ?_) (fun _ => ?_) | with_reducible refine guardD (fun _ => ?_) (fun _ => ?_) | with_reducible refine sIf_intro (fun _ => ?_) (fun _ => ?_) | with_reducible refine sGuard_intro (fun _ => ?_) (fun _ => ?_) | with_reducible refine sCall_fn (by assumption) ?_ | with_reducible refine sDraw_seq cfgOK (by kernel_rfl) ?_ | ((first | with_reducible show W _ _ (.code _ :: _) _ _ _ | with_reducible show wRun _ _ _ _ _ _ _ _ _); refine burst ?_)))
    all_goals refine hS.to ⟨by first | rfl | simp only [opC, *], look, look, Eq.trans look ?_⟩
    all_goals rw [Value.bool.injEq]
    all_goals clear c1
    all_goals simp_all
  rintro tm A ⟨rfl, a2, a3, a17⟩
  clear c1
  refine burst ?_
  refine ifND (fun h => ?_) (fun h => ?_)
  · (repeat' (first | with_reducible refine ends_bool ?_ | with_reducible refine ends_int ?_ | with_reducible refine ifND (fun _ => ?_) (fun _ => ?_) | with_reducible refine ifD (fun _ => ?_) (fun _ => ?_) | with_reducible refine guardND (fun _ => ?_) (fun _ => ?_) | with_reducible refine guardD (fun _ => ?_) (fun _ => ?_) | with_reducible refine sIf_intro (fun _ => ?_) (fun _ => ?_) | with_reducible refine sGuard_intro (fun _ => ?_) (fun _ => ?_) | with_reducible refine sCall_fn (by assumption) ?_ | with_reducible refine sDraw_seq cfgOK (by kernel_rfl) ?_ | ((first | with_reducible show W _ _ (.code _ :: _) _ _ _ | with_reducible show wRun _ _ _ _ _ _ _ _ _); refine burst ?_)))
    exact (decide_eq_false fun q => h ⟨q.1, q.2.1⟩).symm
  · have h := Hid.mk h
    clear a17
    (repeat' (first | with_reducible refine ends_bool ?_ | with_reducible refine ends_int ?_ | with_reducible refine ifND (fun _ => ?_) (fun _ => ?_) | with_reducible refine ifD (fun _ => ?_) (fun _ => ?_) | with_reducible refine guardND (fun _ => ?_) (fun _ => ?_) | with_reducible refine guardD (fun _ => ?_) (fun _ => ?_) | with_reducible refine sIf_intro (fun _ => ?_) (fun _ => ?_) | with_reducible refine sGuard_intro (fun _ => ?_) (fun _ => ?_) | with_reducible refine sCall_fn (by assumption) ?_ | with_reducible refine sDraw_seq cfgOK (by kernel_rfl) ?_ | ((first | with_reducible show W _ _ (.code _ :: _) _ _ _ | with_reducible show wRun _ _ _ _ _ _ _ _ _); refine burst ?_)))
    all_goals have := h.out
    all_goals simp_all [wonG]
end Go.Ev
namespace Go.Ev
open Go Go.Proofs Tryz
open TP (Str Tree Nd)
set_option maxRecDepth 100000
set_option maxHeartbeats 4000000
def shiftG (b a : GOp) (f : Bool) : GOp :=
  if b.kind = 1 then { b with path := (nodeG a b.path).getD [], at_ := (gapA a b.path b.at_ f).2.1 }
  else if b.kind = 3 then { b with path := (nodeG a b.path).getD [], to := (gapA a b.to b.at_ f).1, at_ := (gapA a b.to b.at_ f).2.1 }
  else { b with path := (nodeG a b.path).getD [] }
theorem op_end {A : AS} {o : GOp} : Frz A (tupleOf [.agg #[.int .u8 o.kind, rowI o.path, .int .i64 o.at_, rowI o.to, .int .u64 o.id, .bool o.leaf, .string (bs o.label), .string (bs o.key), .string (bs o.value), .bool o.gone, rowP o.pieces]]) (vOp o) := .clean (vOp_clean o)
theorem shifted_fn (b a : GOp) (hl : lenG a) (hb : formG b) (f : Bool) : Fn prog 280 [vOp b, vOp a, .bool f] (vOp (shiftG b a f)) := by
  refine fn_is func280 ntmps280 results280 rfl cfgOK mixed (cl3 (vOp_clean b) (vOp_clean a) rfl) ?_
  have c1 := node_fn a hl b.path hb.1.near
  simp only [vOp, opC] at c1
  by_cases k1 : b.kind = 1
  · have hk := hb.2
    unfold formK at hk
    rw [if_pos k1] at hk
    have c2 := gap_fn a hl b.path hb.1 b.at_ (by have := hk.1.1; omega) (by have := hk.1.2; omega) f
    have e : shiftG b a f = { b with path := (nodeG a b.path).getD [], at_ := (gapA a b.path b.at_ f).2.1 } := if_pos k1
    rw [e]
    generalize (nodeG a b.path).getD [] = p at *
    generalize (nodeG a b.path).isSome = s1 at *
    clear e
    generalize gapA a b.path b.at_ f = g at *
    obtain ⟨g1, g2, g3⟩ := g
    simp only [vOp, opC] at c2
    clear hk hb hl
    replace k1 := decide_eq_true k1
    refine burst ?_
    refine sCall_fn (by assumption) ?_
    refine burst ?_
    refine sCall_fn (by assumption) ?_
    refine burst ?_
    exact ⟨_, rfl, op_end (o := { b with path := p, at_ := g2 })⟩
  by_cases k3 : b.kind = 3
  · have hk := hb.2
    unfold formK at hk
    rw [if_neg k1, if_neg (by omega), if_pos k3] at hk
    have c2 := gap_fn a hl b.to hk.2 b.at_ (by have := hk.1.1; omega) (by have := hk.1.2; omega) f
    have e : shiftG b a f = { b with path := (nodeG a b.path).getD [], to := (gapA a b.to b.at_ f).1, at_ := (gapA a b.to b.at_ f).2.1 } := by unfold shiftG; rw [if_neg k1, if_pos k3]
    rw [e]
    generalize (nodeG a b.path).getD [] = p at *
    generalize (nodeG a b.path).isSome = s1 at *
    clear e
    generalize gapA a b.to b.at_ f = g at *
    obtain ⟨g1, g2, g3⟩ := g
    simp only [vOp, opC] at c2
    clear hk hb hl
    replace k3 := decide_eq_true k3
    refine burst ?_
    refine sCall_fn (by assumption) ?_
    refine burst ?_
    refine sCall_fn (by assumption) ?_
    refine burst ?_
    exact ⟨_, rfl, op_end (o := { b with path := p, to := g1, at_ := g2 })⟩
  have e : shiftG b a f = { b with path := (nodeG a b.path).getD [] } := by unfold shiftG; rw [if_neg k1, if_neg k3]
  rw [e]
  generalize (nodeG a b.path).getD [] = p at *
  generalize (nodeG a b.path).isSome = s1 at *
  clear e hb hl
  refine burst ?_
  refine sCall_fn (by assumption) ?_
  refine burst ?_
  exact ⟨_, rfl, op_end (o := { b with path := p })⟩
end Go.Ev
namespace Go.Ev
open Go
variable {P : Program} {φ : Rn} {w : World} {A : AS}
def isNewO (o : Oper) : Bool := match o.op with
  | .buildSlice _ _ _ => true
  | _ => false
def isLd (o : Oper) : Bool := match o.op with
  | .load _ _ => true
  | _ => false
def WfA (A : AS) : Prop := ∀ n ab, A.h.get n = some ab → n < A.next
theorem WfA.put {ab : AB} (h : WfA A) (hr : A.next + 1 < 2 ^ 24) : WfA (A.put ab) := fun n x hx => by
  rw [put_get A ab hr] at hx
  show n < A.next + 1
  split at hx
  · omega
  · have := h n x hx; omega
theorem cellsFrom_put {ab : AB} (h : WfA A) (hr : A.next + 1 < 2 ^ 24) {p : Value} {k : Nat} {l : List Value} (hl : cellsFrom A p k = some l) : cellsFrom (A.put ab) p k = some l := by
  unfold cellsFrom at hl ⊢
  split at hl
  · rename_i a ha
    have hne : a.block ≠ A.next := fun e => by
      unfold cellsAt at hl
      cases hg : A.h.get a.block with
      | none => rw [hg] at hl; cases hl
      | some x => have := h _ _ hg; omega
    unfold cellsAt at hl ⊢
    rw [put_get A ab hr, if_neg hne]
    exact hl
  · exact hl
theorem aload_put {ab : AB} (h : WfA A) (hr : A.next + 1 < 2 ^ 24) {t : TypeId} {p v : Value} (hl : aload P A t p = some v) : aload P (A.put ab) t p = some v := by
  unfold aload at hl ⊢
  split at hl
  · split at hl
    · rename_i k _
      rename_i hs _
      cases hc : cellsFrom A p _ with
      | none => rw [hc] at hl; cases hl
      | some l => rw [hc] at hl; rw [cellsFrom_put h hr hc]; exact hl
    · cases hl
  · cases hc : cellsFrom A p 1 with
    | none => rw [hc] at hl; cases hl
    | some l => rw [hc] at hl; rw [cellsFrom_put h hr hc]; exact hl
  · cases hl
theorem load_put {ab : AB} {tm : Trie Value} {o : Oper} {v : Value} (ho : isLd o = true) (h : WfA A) (hr : A.next + 1 < 2 ^ 24) (hl : aop P tm o A = some (v, A)) : aop P tm o (A.put ab) = some (v, A.put ab) := by
  obtain ⟨dst, op, ty, pos, after, g⟩ := o
  cases op with
  | load t x =>
    have hl : still1 A (aload P A t (ev tm x)) = some (v, A) := hl
    show still1 (A.put ab) (aload P (A.put ab) t (ev tm x)) = _
    cases hq : aload P A t (ev tm x) with
    | none => rw [hq] at hl; cases hl
    | some u =>
      rw [hq] at hl
      have e : u = v := by cases hl; rfl
      rw [aload_put h hr hq, e]; rfl
  | _ => simp [isLd] at ho
theorem build_put {rc : Rec} {tm : Trie Value} {o : Oper} {v : Value} {A1 : AS} (ho : isNewO o = true) (he : evOper P cfg0 rc false tm o A = some (v, A1, none)) : ∃ ab, A1 = A.put ab ∧ A.next + 1 < 2 ^ 24 := by
  obtain ⟨dst, op, ty, pos, after, g⟩ := o
  cases op with
  | buildSlice t n ps =>
    obtain ⟨_, h1, _⟩ := evOper_some he
    have h1 : (match abuildSlice P A t n (ps.toList.map fun p => (p.1, ev tm p.2)) with | some (v, A) => some (v, A, (none : Option Deferred)) | none => none) = some (v, A1, none) := by
      rw [← h1]; rfl
    cases hq : abuildSlice P A t n (ps.toList.map fun p => (p.1, ev tm p.2)) with
    | none => rw [hq] at h1; cases h1
    | some r =>
      obtain ⟨u, A2⟩ := r
      rw [hq] at h1
      have e2 : A2 = A1 := by cases h1; rfl
      subst e2
      unfold abuildSlice at hq
      split at hq
      · split at hq
        · split at hq
          · cases hq
          · split at hq
            · split at hq
              · rename_i m A3 hn
                obtain ⟨rfl, rfl, _, _⟩ := anew_some hn
                cases hq
                refine ⟨_, rfl, ?_⟩
                unfold anew room at hn
                split at hn
                · rename_i hr
                  simp only [Bool.and_eq_true, Nat.blt_eq] at hr
                  omega
                · cases hn
              · cases hq
            · cases hq
        · cases hq
      · cases hq
  | _ => simp [isNewO] at ho
def dbuild (ops : List Oper) : Nat → List Oper → List Nat → Seen → List Nat → List Nat → List Nat → Bool → Bool
  | _, [], _, _, _, _, _, _ => true
  | i, o :: rest, ms, sn, ts, us, rs, g =>
    let m := maskOf i ms o.after.toList 0
    let ls := looks ops o
    ((opsL o.op).all opk && tempsOk sn m ls o.dst && o.after.toList.all (fun e => !bind e || Nat.blt e.on i)) &&
    (match kindOf o with
    | .news => false
    | .still => dbuild ops (i + 1) rest (m :: ms) (seenOf sn i ls o.dst) ts us rs g
    | .reads => us.all (fun t => m.testBit t) && dbuild ops (i + 1) rest (m :: ms) (seenOf sn i ls o.dst) ts us (i :: rs) (g && isLd o)
    | .turns => (ts.all (fun t => m.testBit t) && (isFn o || (g && isNewO o) || rs.all (fun t => m.testBit t))) && dbuild ops (i + 1) rest (m :: ms) (seenOf sn i ls o.dst) (i :: ts) (if isFn o then us else i :: us) rs (g && (isFn o || isNewO o)))
theorem dbuild_draw {ns : Nat} {ops : List Oper} {rcs : Nat → Rec} {ids : List (Option Nat)} (hids : ∀ x ∈ ids, x = none) {base : List Nat} : ∀ (rest : List Oper) (i : Nat) (S : DS) (A : AS) (hs : List AS) (ts us rs : List Nat) (g : Bool) (tm' : Trie Value) (A' : AS),
    dbuild ops i rest S.ms S.sn ts us rs g = true → S.hs = A :: hs → A.pend = base → (∀ t ∈ S.ts, t ∈ ts) → (∀ x ∈ S.rs, x.1 ∈ rs) → (∀ x ∈ S.rs, isVal x.2.1 = true ∧ aop P x.2.2.1 x.2.1 A = some (x.2.2.2, A)) → (∀ B ∈ hs.take (S.ts.takeWhile fun t => !us.contains t).length, B = A) → (g = true → WfA A ∧ ∀ x ∈ S.rs, isLd x.2.1 = true) →
    evSeqK P ns ops rcs i rest S.tm A tm' A' → ∃ S', drawAll P cfg0 rcs false ns ops base ids i rest S = some S' ∧ S'.tm = tm' ∧ ∃ hs', S'.hs = A' :: hs'
  | [], i, S, A, hs, ts, us, rs, g, tm', A', _, hh, _, _, _, _, _, _, h => by
    exact ⟨S, rfl, h.1.symm, hs, by rw [hh, h.2]⟩
  | o :: rest, i, S, A, hs, ts, us, rs, g, tm', A', hst, hh, hp, hts, hrs, hval, hsam, hgw, h => by
    simp only [dbuild, Bool.and_eq_true] at hst
    have hcheck : dCheck S i (maskOf i S.ms o.after.toList 0) (looks ops o) o = true := by
      unfold dCheck
      simp only [Bool.and_eq_true]
      exact hst.1
    have hA0 : ({ A with pend := pends (maskOf i S.ms o.after.toList 0) ids 0 ++ base } : AS) = A := by
      rw [pends_none ids 0 hids, List.nil_append, ← hp]
    simp only [drawAll, drawOne]
    rw [if_pos hcheck]
    unfold dDo
    rw [hh]
    simp only
    by_cases hw : wants S.tm ops o = true
    · rw [if_pos hw]
      simp only [dKind, hA0]
      replace h := h.1 hw
      obtain ⟨v, A1, he, hp1, hkeep, h⟩ := h
      ·
        cases hk : kindOf o with
        | news => rw [hk] at hst; exact absurd hst.2 (by simp)
        | still =>
          rw [hk] at hst
          have e := evOper_pend (.inl hk) he
          subst e
          simp only [dStill, he, dSeen]
          exact dbuild_draw hids rest (i + 1) { tm := putD ns S.tm o.dst v, ms := maskOf i S.ms o.after.toList 0 :: S.ms, sn := seenOf S.sn i (looks ops o) o.dst, hs := S.hs, ts := S.ts, rs := S.rs } A1 hs ts us rs g tm' A' hst.2 hh hp hts hrs hval hsam hgw h
        | reads =>
          rw [hk] at hst
          simp only [Bool.and_eq_true] at hst
          have e := evOper_pend (.inr hk) he
          subst e
          have hle : (S.ts.takeWhile fun t => !(maskOf i S.ms o.after.toList 0).testBit t).length ≤ (S.ts.takeWhile fun t => !us.contains t).length := takeWhile_le fun t ht => by
            cases hc : us.contains t with
            | false => rfl
            | true =>
              have := List.all_eq_true.1 hst.2.1 t (by simpa using hc)
              rw [this] at ht; cases ht
          have hpA : ({ A1 with pend := pends (maskOf i S.ms o.after.toList 0) ids 0 ++ base } : AS) = A1 := hA0
          have hall : (hs.take (S.ts.takeWhile fun t => !(maskOf i S.ms o.after.toList 0).testBit t).length).all (still P (pends (maskOf i S.ms o.after.toList 0) ids 0 ++ base) S.tm o v) = true := by
            rw [List.all_eq_true]
            intro B hB
            have hB := hsam B ((List.take_sublist_take_left hle).subset hB)
            subst hB
            unfold still
            rw [hpA, kind_aop (.inr hk) he]
            exact veq_refl v
          simp only [dReads, he, hall, if_true, dSeen]
          exact dbuild_draw hids rest (i + 1) { tm := putD ns S.tm o.dst v, ms := maskOf i S.ms o.after.toList 0 :: S.ms, sn := seenOf S.sn i (looks ops o) o.dst, hs := S.hs, ts := S.ts, rs := (i, o, S.tm, v) :: S.rs } A1 hs ts us (i :: rs) (g && isLd o) tm' A' hst.2.2 hh hp hts
            (fun x hx => by
              rcases List.mem_cons.1 hx with rfl | hx
              · exact List.mem_cons_self ..
              · exact List.mem_cons_of_mem _ (hrs x hx)) (fun x hx => by
              rcases List.mem_cons.1 hx with rfl | hx
              · exact ⟨kind_val (.inr hk), kind_aop (.inr hk) he⟩
              · exact hval x hx) hsam (fun hg => by
              rw [Bool.and_eq_true] at hg
              refine ⟨(hgw hg.1).1, fun x hx => ?_⟩
              rcases List.mem_cons.1 hx with rfl | hx
              · exact hg.2
              · exact (hgw hg.1).2 x hx) h
        | turns =>
          rw [hk] at hst
          simp only [Bool.and_eq_true] at hst
          have hp1 : A1.pend = base := hp1.trans hp
          have hto : turnOk S.ts (maskOf i S.ms o.after.toList 0) = true := by
            cases hS : S.ts with
            | nil => rfl
            | cons t r => exact List.all_eq_true.1 hst.2.1.1 t (hts t (by rw [hS]; simp))
          have hA1 : ({ A1 with pend := base } : AS) = A1 := by rw [← hp1]
          have hput : g = true → isNewO o = true → ∃ ab, A1 = A.put ab ∧ A.next + 1 < 2 ^ 24 := fun hg hn => build_put hn he
          have hval1 : (g && isNewO o) = true → ∀ x ∈ S.rs, isVal x.2.1 = true ∧ aop P x.2.2.1 x.2.1 A1 = some (x.2.2.2, A1) := fun hgn x hx => by
            rw [Bool.and_eq_true] at hgn
            obtain ⟨ab, rfl, hroom⟩ := hput hgn.1 hgn.2
            exact ⟨(hval x hx).1, load_put ((hgw hgn.1).2 x hx) (hgw hgn.1).1 hroom (hval x hx).2⟩
          have hag : again P (pends 0 ids 0 ++ base) (maskOf i S.ms o.after.toList 0) { A1 with pend := base } S.rs = true := by
            rcases Bool.or_eq_true _ _ ▸ hst.2.1.2 with hf | hall
            · rcases Bool.or_eq_true _ _ ▸ hf with hf | hf
              · have := hkeep hf
                subst this
                exact again_same (hval)
              · exact again_same (hval1 hf)
            · exact again_all fun x hx => List.all_eq_true.1 hall x.1 (hrs x hx)
          simp only [hto, if_true, dTurns, he]
          rw [if_pos hag]
          simp only [hA1, dSeen]
          exact dbuild_draw hids rest (i + 1) { tm := putD ns S.tm o.dst v, ms := maskOf i S.ms o.after.toList 0 :: S.ms, sn := seenOf S.sn i (looks ops o) o.dst, hs := A1 :: S.hs, ts := i :: S.ts, rs := S.rs.filter fun x => !(maskOf i S.ms o.after.toList 0).testBit x.1 } A1 (S.hs) (i :: ts) (if isFn o then us else i :: us) rs (g && (isFn o || isNewO o)) tm' A' hst.2.2 rfl hp1
            (fun x hx => by
              rcases List.mem_cons.1 hx with rfl | hx
              · exact List.mem_cons_self ..
              · exact List.mem_cons_of_mem _ (hts x hx)) (fun x hx => hrs x (List.mem_filter.1 hx).1) (fun x hx => by
              rcases Bool.or_eq_true _ _ ▸ hst.2.1.2 with hf | hall
              · rcases Bool.or_eq_true _ _ ▸ hf with hf | hf
                · have := hkeep hf
                  subst this
                  exact hval x (List.mem_filter.1 hx).1
                · exact hval1 hf x (List.mem_filter.1 hx).1
              · have h1 := (List.mem_filter.1 hx).2
                rw [List.all_eq_true.1 hall x.1 (hrs x (List.mem_filter.1 hx).1)] at h1
                simp at h1) (fun B hB => by
              cases hf : isFn o with
              | true =>
                have := hkeep hf
                subst this
                rw [hf, if_pos rfl, hh] at hB
                simp only [List.takeWhile_cons] at hB
                split at hB
                · simp only [List.length_cons, List.take_succ_cons] at hB
                  rcases List.mem_cons.1 hB with e | hB
                  · exact e
                  · exact hsam B hB
                · simp at hB
              | false =>
                rw [hf, if_neg (by simp)] at hB
                simp [List.takeWhile_cons] at hB) (fun hg => by
              rw [Bool.and_eq_true] at hg
              have hw := hgw hg.1
              refine ⟨?_, fun x hx => hw.2 x (List.mem_filter.1 hx).1⟩
              rcases Bool.or_eq_true _ _ ▸ hg.2 with hf | hf
              · rw [hkeep hf]; exact hw.1
              · obtain ⟨ab, rfl, hroom⟩ := hput hg.1 hf
                exact hw.1.put hroom) h
    · rw [if_neg hw]
      replace h := h.2 (by simpa using hw)
      cases hk : kindOf o with
      | news => rw [hk] at hst; exact absurd hst.2 (by simp)
      | still =>
        rw [hk] at hst
        simp only [dSkip, hk, dSeen]
        exact dbuild_draw hids rest (i + 1) { tm := putD ns S.tm o.dst undef, ms := maskOf i S.ms o.after.toList 0 :: S.ms, sn := seenOf S.sn i (looks ops o) o.dst, hs := S.hs, ts := S.ts, rs := S.rs } A hs ts us rs g tm' A' hst.2 hh hp hts hrs hval hsam hgw h
      | reads =>
        rw [hk] at hst
        simp only [Bool.and_eq_true] at hst
        simp only [dSkip, hk, dSeen]
        exact dbuild_draw hids rest (i + 1) { tm := putD ns S.tm o.dst undef, ms := maskOf i S.ms o.after.toList 0 :: S.ms, sn := seenOf S.sn i (looks ops o) o.dst, hs := S.hs, ts := S.ts, rs := S.rs } A hs ts us (i :: rs) (g && isLd o) tm' A' hst.2.2 hh hp hts (fun x hx => List.mem_cons_of_mem _ (hrs x hx)) hval hsam (fun hg => hgw (Bool.and_eq_true _ _ ▸ hg).1) h
      | turns =>
        rw [hk] at hst
        simp only [Bool.and_eq_true] at hst
        simp only [dSkip, hk, dSeen]
        exact dbuild_draw hids rest (i + 1) { tm := putD ns S.tm o.dst undef, ms := maskOf i S.ms o.after.toList 0 :: S.ms, sn := seenOf S.sn i (looks ops o) o.dst, hs := S.hs, ts := S.ts, rs := S.rs } A hs (i :: ts) (if isFn o then us else i :: us) rs (g && (isFn o || isNewO o)) tm' A' hst.2.2 hh hp (fun x hx => List.mem_cons_of_mem _ (hts x hx)) hrs hval (fun B hB => by
          cases hf : isFn o with
          | true => rw [hf, if_pos rfl] at hB; exact hsam B hB
          | false =>
            rw [hf, if_neg (by simp)] at hB
            refine hsam B ((List.take_sublist_take_left (takeWhile_le fun t ht => ?_)).subset hB)
            simp only [List.contains_cons, Bool.not_or, Bool.and_eq_true] at ht
            exact ht.2) (fun hg => hgw (Bool.and_eq_true _ _ ▸ hg).1) h
theorem dbuild_ops {ops : List Oper} : ∀ (rest : List Oper) (i : Nat) (ms : List Nat) (sn : Seen) (ts us rs : List Nat) (g : Bool), dbuild ops i rest ms sn ts us rs g = true → opsOk rest = true ∧ ∀ o ∈ rest, kindOf o ≠ .news
  | [], i, ms, sn, ts, us, rs, g, _ => ⟨rfl, by simp⟩
  | o :: rest, i, ms, sn, ts, us, rs, g, h => by
    simp only [dbuild, Bool.and_eq_true] at h
    have fin : ∀ {ms sn ts us rs g}, dbuild ops (i + 1) rest ms sn ts us rs g = true → kindOf o ≠ .news → opsOk (o :: rest) = true ∧ ∀ u ∈ o :: rest, kindOf u ≠ .news := fun h2 hk => by
      obtain ⟨q1, q2⟩ := dbuild_ops rest _ _ _ _ _ _ _ h2
      refine ⟨?_, fun u hu => ?_⟩
      · unfold opsOk at q1 ⊢
        rw [List.all_cons, q1, h.1.1.1]; rfl
      · rcases List.mem_cons.1 hu with rfl | hu
        · exact hk
        · exact q2 u hu
    cases hk : kindOf o with
    | news => rw [hk] at h; exact absurd h.2 (by simp)
    | still => rw [hk] at h; exact fin h.2 (by rw [hk]; simp)
    | reads => rw [hk] at h; simp only [Bool.and_eq_true] at h; exact fin h.2.2 (by rw [hk]; simp)
    | turns => rw [hk] at h; simp only [Bool.and_eq_true] at h; exact fin h.2.2 (by rw [hk]; simp)
theorem wDraw_build (hc : CfgOK P cfg0) {ns : Nat} {ops : List Oper} {tm : Trie Value} {K : Trie Value → AS → Prop} (hst : dbuild ops 0 ops [] ⟨.nil, .nil⟩ [] [] [] true = true) (h : wOpsF P true ns ops ops tm A K) : wDraw P ns ops tm A K := by
  obtain ⟨q1, q2⟩ := dbuild_ops _ _ _ _ _ _ _ _ hst
  obtain ⟨rcs, tm', A', h1, h2, h3, h4⟩ := wOpsF_ev hc (ops := ops.toArray) (tail := []) q1 ops 0 tm A K (by simp) h
  refine ⟨rcs, tm', A', h1, h2, fun φ w a hR hF => ?_⟩
  have h5 := h4 φ w a hR hF
  unfold evDraw
  rw [reserve_none ops A [] q2]
  simp only [List.reverse_nil, List.nil_append]
  obtain ⟨S', q3, q4, hs', q5⟩ := dbuild_draw (P := P) (ids := List.replicate ops.length none) (base := A.pend) (by intro x hx; exact (List.mem_replicate.1 hx).2) ops 0 { tm, ms := [], sn := ⟨.nil, .nil⟩, hs := [A], ts := [], rs := [] } A [] [] [] [] true tm' A' hst rfl rfl (by simp) (by simp) (by simp) (by simp) (fun _ => ⟨hR.lt, by simp⟩) h5
  rw [q3]
  simp only [q5, q4]
theorem sDraw_build {ns : Nat} {ops : List Oper} {k : List Item} {tm : Trie Value} {Q : Trie Value → AS → Prop} (hc : CfgOK P cfg0) (hst : dbuild ops 0 ops [] ⟨.nil, .nil⟩ [] [] [] true = true) (h : wRun P true ns ops ops k tm A Q) : sDraw P ns ops k tm A Q := by
  unfold sDraw
  refine wDraw_build hc hst ?_
  unfold wRun at h
  exact h
end Go.Ev
namespace Go.Ev
open Go Go.Proofs Tryz
open TP (Str Tree Nd Mk)
set_option maxRecDepth 100000
set_option maxHeartbeats 4000000
theorem does_ex {ns : Nat} {f : FuncId} {fn : Func} {body : Code} {args : List Value} {l : List AB} {rs : Array ResultVar} {R : Value → List AB → Prop} (hfn : prog.funcs[f]? = some fn) (hns : fn.ntmps = ns) (hrs : fn.results = rs) (hbody : fn.body = some body)
    (h : W prog ns [.code body] (setArgs args 0 .nil) (mk l) fun tm A' => ∃ vs l', aresults prog tm A' rs.toList = some vs ∧ A' = mk l' ∧ R (tupleOf vs) l') (hv : ∀ v l', R v l' → vok (mk l').ok v = true)
    (h1 : args.length ≤ ns := by exact Nat.le_of_ble_eq_true rfl) (h2 : ns < 65535 := by decide) (hok : codeOk body = true := by kernel_rfl) : ∃ v l', R v l' ∧ ∀ d, Does prog (.call f args d) (mk l) v (mk l') := by
  subst hns hrs
  obtain ⟨v0, A', ⟨l', rfl, hR⟩, hc⟩ := fn_calls (R := fun v0 A' => ∃ l', A' = mk l' ∧ R v0 l') cfgOK mixed hfn hbody h1 h2 hok (by
    obtain ⟨m, hm⟩ := h
    refine ⟨m, ?_⟩
    have e : (fun (tm : Trie Value) (A' : AS) => ∃ vs l', aresults prog tm A' fn.results.toList = some vs ∧ A' = mk l' ∧ R (tupleOf vs) l') = fun tm A' => ∃ vs, aresults prog tm A' fn.results.toList = some vs ∧ ∃ l', A' = mk l' ∧ R (tupleOf vs) l' := by
      funext tm A'
      apply propext
      constructor
      · rintro ⟨vs, l', q1, q2⟩; exact ⟨vs, q1, l', q2⟩
      · rintro ⟨vs, q1, l', q2⟩; exact ⟨vs, l', q1, q2⟩
    rw [e] at hm; exact hm)
  exact ⟨v0, l', hR, fun d => hc.does (hv _ _ hR)⟩
def encT (p : TP.Piece) : List Value := [.int .i64 p.keep, .int .i64 p.drop, .string (bs p.put)]
theorem encT_length (p : TP.Piece) : (encT p).length = 3 := rfl
theorem encT_cellv (p : TP.Piece) : (encT p).all cellv = true := rfl
theorem encT_clean (p : TP.Piece) : cleanL (encT p) = true := rfl
def MkAt (l : List AB) (b : Nat) (m : Mk) (F : List Nat) : Prop :=
  ∃ v, l[b]? = some (.cells [v, .int .i64 (m.keep : Int)] 239 (0, 0)) ∧ Own 104 3 l v m.l.length (m.l.flatMap encT) ∧ ownB v ≠ some b ∧ F = b :: (ownB v).toList
structure Moved (c : Nat) (l l' : List AB) (F F' : List Nat) : Prop where
  ge : l.length ≤ l'.length
  le : l'.length ≤ l.length + c
  keep : ∀ j, j < l.length → j ∉ F → l'[j]? = l[j]?
  foot : ∀ j ∈ F', j ∈ F ∨ l.length ≤ j
  lt : ∀ j ∈ F', j < l'.length
theorem Own.lt {e s : Nat} {l : List AB} {v : Value} {n : Nat} {cs : List Value} (h : Own e s l v n cs) {b : Nat} (hb : ownB v = some b) : b < l.length := by
  cases h with
  | nil => simp [ownB] at hb
  | zero h => simp only [ownB, Option.some.injEq] at hb; subst hb; exact (List.getElem?_eq_some_iff.1 h).1
  | row h => simp only [ownB, Option.some.injEq] at hb; subst hb; exact (List.getElem?_eq_some_iff.1 h).1
theorem MkAt.lt {l : List AB} {b : Nat} {m : Mk} {F : List Nat} (h : MkAt l b m F) : ∀ j ∈ F, j < l.length := by
  obtain ⟨v, h1, h2, h3, rfl⟩ := h
  intro j hj
  rcases List.mem_cons.1 hj with rfl | hj
  · exact (List.getElem?_eq_some_iff.1 h1).1
  · exact h2.lt (by simpa using hj)
theorem MkAt.stay {l l' : List AB} {b : Nat} {m : Mk} {F : List Nat} (h : MkAt l b m F) (hs : ∀ j ∈ F, l'[j]? = l[j]?) : MkAt l' b m F := by
  obtain ⟨v, h1, h2, h3, rfl⟩ := h
  exact ⟨v, by rw [hs b (by simp)]; exact h1, h2.grow fun c hc => hs c (by simp [hc]), h3, rfl⟩
theorem add65 {l : List AB} {v : Value} {n : Nat} {cs : List Value} (h : Own 104 3 l v n cs) (p : TP.Piece) (hl : l.length + 3 < 16777216) (hb : n + 1 ≤ 16777216) :
    ∃ c l', aappend prog (Ev.mk (l ++ [AB.cells (encT p) 104 (0, 0)])) #[65, 65] [v, .slice (some ⟨l.length, 0, none⟩) 1 1] = some (.slice (some ⟨c, 0, none⟩) (n + 1) (big + (n + 1)), Ev.mk l') ∧ l'[c]? = some (.grown (cs ++ encT p) 104 3) ∧
      l.length + 1 ≤ l'.length ∧ l'.length ≤ l.length + 2 ∧ (∀ b, b < l.length → ownB v ≠ some b → l'[b]? = l[b]?) ∧ c < l'.length ∧ (l.length < c ∨ ownB v = some c) := by
  have n1 : News prog (l ++ [AB.cells (encT p) 104 (0, 0)]) 104 3 false (.slice (some ⟨l.length, 0, none⟩) 1 1) (encT p) 1 := news_arr (fz := (0, 0)) (e := 104) (cs := encT p) (by simp; omega) (by simp) rfl rfl
  obtain ⟨v', l', e, o, g1, g2, g3, g4⟩ := app65 (l := l ++ [AB.cells (encT p) 104 (0, 0)]) (h.grow fun b hb => List.getElem?_append_left (h.lt hb)) n1 (by simp; omega) hb
  obtain ⟨c, rfl, hc, _, _⟩ := own_pos o (by omega)
  simp only [List.length_append, List.length_cons, List.length_nil] at g1 g2 g3 g4
  have h4 := g4 c rfl
  refine ⟨c, l', e, hc, by omega, by omega, fun b hb hne => ?_, h4.1, ?_⟩
  · rw [g3 b (by omega) hne, List.getElem?_append_left hb]
  · rcases h4.2 with h | h
    · exact .inl (by omega)
    · exact .inr h
theorem b104_1 {k : Int} : abuild prog 104 [(0, .int .i64 k)] = some (.agg #[.int .i64 k, .int .i64 0, .string ⟨#[]⟩]) := by kernel_rfl
theorem ptr_ok {l : List AB} {b o : Nat} (h : b < l.length) : vok (Ev.mk l).ok (.pointer (some ⟨b, o, none⟩)) = true := by
  simp only [vok]
  rw [AS.ok_iff]
  exact .inl ⟨by rw [mk_next]; exact h, by rw [mk_pend]; simp⟩
theorem last_does (l : List AB) (b : Nat) (m : Mk) (F : List Nat) (h : MkAt l b m F) (hl : l.length + 3 < 16777216) (hn : m.l.length + 1 ≤ 16777216) :
    ∃ l' c F', (∀ d, Does prog (.call 304 [.pointer (some ⟨b, 0, none⟩)] d) (mk l) (.pointer (some ⟨c, (m.opened.l.length - 1) * 3, none⟩)) (mk l')) ∧ l'[b]? = some (.cells [.slice (some ⟨c, 0, none⟩) m.opened.l.length (big + m.opened.l.length), .int .i64 0] 239 (0, 0)) ∧ l'[c]? = some (.grown (m.opened.l.flatMap encT) 104 3) ∧ c ≠ b ∧
      m.opened.keep = 0 ∧ F' = [b, c] ∧ 0 < m.opened.l.length ∧ Moved 2 l l' F F' := by
  obtain ⟨v, h1, ho, hne, rfl⟩ := h
  obtain ⟨a, n, rfl⟩ := ho.slice
  have hbl : b < l.length := (List.getElem?_eq_some_iff.1 h1).1
  have hl1 : l.length < 16777216 := by omega
  have hl2 : l.length + 2 < 16777216 := by omega
  by_cases hop : 0 < m.keep ∨ m.l = []
  · have hop2 : m.opened = ⟨m.l ++ [⟨m.keep, 0, []⟩], 0⟩ := if_pos hop
    rw [hop2]
    obtain ⟨c, l', e, hc, g1, g2, g3, g4, g5⟩ := add65 ho ⟨m.keep, 0, []⟩ hl hn
    have hcb : c ≠ b := by rintro rfl; rcases g5 with h | h; omega; exact hne h
    have fb : l'[b]? = some (.cells [.slice a m.l.length n, .int .i64 (m.keep : Int)] 239 (0, 0)) := by rw [g3 b hbl hne]; exact h1
    have key : ∀ d, Does prog (.call 304 [.pointer (some ⟨b, 0, none⟩)] d) (mk l) (.pointer (some ⟨c, m.l.length * 3, none⟩)) (mk ((l'.set b (AB.cells [.slice (some ⟨c, 0, none⟩) (m.l.length + 1) (big + (m.l.length + 1)), .int .i64 (m.keep : Int)] 239 (0, 0))).set b (AB.cells [.slice (some ⟨c, 0, none⟩) (m.l.length + 1) (big + (m.l.length + 1)), .int .i64 0] 239 (0, 0)))) := by
      intro d
      have hl3 : l'.length < 16777216 := by omega
      have hcl : c < l'.length := g4
      refine does_is func304 ntmps304 results304 rfl ?_ (ptr_ok (by simpa using hcl))
      have hk : decide ((0 : Int) < (m.keep : Int)) = true ∨ decide ((0 : Int) < (m.keep : Int)) = false ∧ decide ((m.l.length : Int) = 0) = true := by
        rcases hop with h | h
        · left; simpa using h
        · by_cases h2 : 0 < m.keep
          · left; simpa using h2
          · right; simp [h]; omega
      have hw : IntKind.i64.wrap (((m.l.length + 1 : Nat) : Int) - 1) = (m.l.length : Int) := by rw [wrap_in (by omega) (by omega)]; omega
      have hlt : m.l.length < m.l.length + 1 := by omega
      clear hop hop2 ho hc g3 g5
      have e : aappend prog (mk (l ++ [AB.cells [.int .i64 (m.keep : Int), .int .i64 0, .string ⟨#[]⟩] 104 (0, 0)])) #[65, 65] [.slice a m.l.length n, .slice (some ⟨l.length, 0, none⟩) 1 1] = some (.slice (some ⟨c, 0, none⟩) (m.l.length + 1) (big + (m.l.length + 1)), mk l') := e
      have hbd := @b104_1
      rcases hk with hk | ⟨hk, hk2⟩
      · refine burst ?_
        refine sDraw_build cfgOK (by kernel_rfl) ?_
        refine burst ?_
        refine sDraw_free cfgOK (by kernel_rfl) ?_
        refine burst ?_
        exact ⟨_, rfl, rfl⟩
      · refine burst ?_
        refine sDraw_build cfgOK (by kernel_rfl) ?_
        refine burst ?_
        refine sDraw_free cfgOK (by kernel_rfl) ?_
        refine burst ?_
        exact ⟨_, rfl, rfl⟩
    have e1 : (⟨m.l ++ [⟨m.keep, 0, []⟩], 0⟩ : Mk).l.length = m.l.length + 1 := by simp
    rw [e1, Nat.add_sub_cancel]
    refine ⟨_, c, [b, c], key, ?_, ?_, hcb, rfl, rfl, by omega, ⟨by simp; omega, by simp; omega, fun j hj hF => ?_, fun j hj => ?_, fun j hj => ?_⟩⟩
    · rw [gset, if_pos rfl, gset, if_pos rfl, fb]; rfl
    · rw [gset, if_neg (Ne.symm hcb), gset, if_neg (Ne.symm hcb), hc, List.flatMap_append]; rfl
    · have hjb : j ≠ b := fun e => hF (by simp [e])
      rw [gset, if_neg (Ne.symm hjb), gset, if_neg (Ne.symm hjb)]
      exact g3 j hj fun e => hF (by simp [e])
    · simp only [List.mem_cons, List.not_mem_nil, or_false] at hj
      rcases hj with rfl | rfl
      · exact .inl (by simp)
      · rcases g5 with h | h
        · exact .inr (by omega)
        · exact .inl (by simp [h])
    · simp only [List.mem_cons, List.not_mem_nil, or_false] at hj
      simp only [List.length_set]
      rcases hj with rfl | rfl
      · omega
      · exact g4
  · have hop2 : m.opened = m := if_neg hop
    rw [hop2]
    have hk0 : m.keep = 0 := by
      have : ¬ 0 < m.keep := fun h => hop (.inl h)
      omega
    have hpos : 0 < m.l.length := List.length_pos_iff.2 fun h => hop (.inr h)
    obtain ⟨c, e, hc, _, _⟩ := own_pos ho hpos
    cases e
    have hcb : c ≠ b := fun h => hne (by rw [h]; rfl)
    rw [hk0] at h1
    refine ⟨l, c, [b, c], fun d => ?_, h1, hc, hcb, hk0, rfl, hpos, ⟨Nat.le_refl _, by omega, fun j hj hF => rfl, fun j hj => .inl (by simpa [ownB] using hj), fun j hj => ?_⟩⟩
    · refine does_is func304 ntmps304 results304 rfl ?_ (ptr_ok (ho.lt rfl))
      have hw : IntKind.i64.wrap ((m.l.length : Int) - 1) = ((m.l.length - 1 : Nat) : Int) := by rw [wrap_in (by omega) (by omega)]; omega
      have hlt : m.l.length - 1 < m.l.length := Nat.sub_lt hpos (by decide)
      have hz : decide ((m.l.length : Int) = 0) = false := decide_eq_false (by omega)
      have h1 : l[b]? = some (AB.cells [.slice (some ⟨c, 0, none⟩) m.l.length (big + m.l.length), .int .i64 0] 239 (0, 0)) := h1
      clear hop hop2 ho hc hpos hk0
      refine burst ?_
      refine guardND (fun _ => ?_) (fun h => absurd h (by omega))
      refine burst ?_
      refine sDraw_free cfgOK (by kernel_rfl) ?_
      refine burst ?_
      exact ⟨_, rfl, rfl⟩
    · simp only [List.mem_cons, List.not_mem_nil, or_false] at hj
      rcases hj with rfl | rfl
      · exact hbl
      · exact ho.lt rfl
end Go.Ev
namespace Go.Ev
open Go Go.Proofs Tryz
open TP (Str Tree Nd Mk)
set_option maxRecDepth 100000
set_option maxHeartbeats 4000000
theorem last_cells {pre : List TP.Piece} {p : TP.Piece} {k : Nat} (hk : pre.length = k) :
    ((pre ++ [p]).flatMap encT)[k * 3]? = some (.int .i64 p.keep) ∧ ((pre ++ [p]).flatMap encT)[k * 3 + 1]? = some (.int .i64 p.drop) ∧ ((pre ++ [p]).flatMap encT)[k * 3 + 2]? = some (.string (bs p.put)) ∧ ((pre ++ [p]).flatMap encT).length = k * 3 + 3 := by
  subst hk
  have hl := row_length encT_length pre
  rw [List.flatMap_append]
  refine ⟨?_, ?_, ?_, ?_⟩
  · rw [List.getElem?_append_right (by omega), hl, Nat.sub_self]; rfl
  · rw [List.getElem?_append_right (by omega), hl, Nat.add_sub_cancel_left]; rfl
  · rw [List.getElem?_append_right (by omega), hl, Nat.add_sub_cancel_left]; rfl
  · rw [List.length_append, hl]; rfl
theorem last_splice {pre : List TP.Piece} {p q : TP.Piece} {k o : Nat} (hk : pre.length = k) (ho : o ≤ 2) {v : Value} (hv : encT q = (encT p).set o v) :
    List.take (k * 3 + o) ((pre ++ [p]).flatMap encT) ++ [v] ++ List.drop (k * 3 + o + 1) ((pre ++ [p]).flatMap encT) = (pre ++ [q]).flatMap encT := by
  subst hk
  have hl := row_length encT_length pre
  rw [List.flatMap_append, List.flatMap_append, List.take_append, List.drop_append, hl, List.take_of_length_le (by omega), List.drop_of_length_le (by omega), Nat.add_sub_cancel_left, Nat.add_assoc, Nat.add_sub_cancel_left]
  have e1 : List.flatMap encT [p] = encT p := by simp
  have e2 : List.flatMap encT [q] = encT q := by simp
  rw [e1, e2, hv, List.set_eq_take_append_cons_drop, if_pos (show o < (encT p).length by rw [encT_length]; omega)]
  simp
theorem opened_snoc {m : Mk} (h : 0 < m.opened.l.length) : ∃ pre p, m.opened.l = pre ++ [p] ∧ pre.length = m.opened.l.length - 1 := by
  rcases snoc_cases m.opened.l with e | ⟨pre, p, e⟩
  · rw [e] at h; simp at h
  · exact ⟨pre, p, e, by rw [e]; simp⟩
theorem Moved.lasts {c : Nat} {l l' : List AB} {F : List Nat} {b d : Nat} {x : AB} (h : Moved c l l' F [b, d]) : Moved c l (l'.set d x) F [b, d] := by
  refine ⟨by simpa using h.ge, by simpa using h.le, fun j hj hF => ?_, h.foot, fun j hj => by simpa using h.lt j hj⟩
  have hjd : j ≠ d := fun e => by
    rcases h.foot d (by simp) with h | h
    · exact hF (e ▸ h)
    · omega
  rw [gset, if_neg (Ne.symm hjd)]
  exact h.keep j hj hF
theorem mk_at {l : List AB} {b c n k : Nat} {cs : List Value} {L : List TP.Piece} (hcb : c ≠ b) (f1 : l[b]? = some (.cells [.slice (some ⟨c, 0, none⟩) n (big + n), .int .i64 0] 239 (0, 0))) (f2 : l[c]? = some (.grown cs 104 3)) (hn : n = k + 1) (hL : L.length = k + 1) :
    MkAt (l.set c (AB.grown (L.flatMap encT) 104 3)) b ⟨L, 0⟩ [b, c] := by
  subst hn
  refine ⟨.slice (some ⟨c, 0, none⟩) (k + 1) (big + (k + 1)), by rw [gset, if_neg hcb]; exact f1, ?_, by simpa [ownB] using hcb, rfl⟩
  have := Own.row (elem := 104) (s := 3) (l := l.set c (AB.grown (L.flatMap encT) 104 3)) (b := c) (n := k + 1) (cs := L.flatMap encT) (by rw [gset, if_pos rfl, f2]; rfl) (by rw [row_length encT_length, hL]) (row_cellv encT_cellv _) (by omega)
  simpa [hL] using this
theorem tup0_ok {l : List AB} : vok (Ev.mk l).ok (.tuple #[]) = true := rfl
def szP (l : List TP.Piece) : Nat := (l.map fun p => p.keep + p.drop + p.put.length).sum
def szM (m : Mk) : Nat := szP m.l + m.keep
theorem szP_append {a b : List TP.Piece} : szP (a ++ b) = szP a + szP b := by simp [szP]
theorem szP_mem {l : List TP.Piece} {p : TP.Piece} (h : p ∈ l) : p.keep + p.drop + p.put.length ≤ szP l := by
  induction l with
  | nil => simp at h
  | cons x l ih =>
    rcases List.mem_cons.1 h with rfl | h
    · simp [szP]
    · have := ih h
      simp only [szP, List.map_cons, List.sum_cons] at this ⊢
      omega
theorem szM_opened (m : Mk) : szM m.opened = szM m := by
  unfold Mk.opened
  split
  · simp [szM, szP_append, szP]
  · rfl
theorem opened_len (m : Mk) : m.opened.l.length ≤ m.l.length + 1 := by
  unfold Mk.opened
  split <;> simp
theorem mput_does (l : List AB) (b : Nat) (m : Mk) (F : List Nat) (s : Str) (h : MkAt l b m F) (hl : l.length + 3 < 16777216) (hn : m.l.length + 1 ≤ 16777216) (hs : szM m + s.length < 4611686018427387904) :
    ∃ l' F', (∀ d, Does prog (.call 273 [.pointer (some ⟨b, 0, none⟩), .string (bs s)] d) (mk l) (.tuple #[]) (mk l')) ∧ MkAt l' b (m.put s) F' ∧ Moved 2 l l' F F' := by
  by_cases h0 : s = []
  · subst h0
    have e : m.put [] = m := if_pos rfl
    rw [e]
    refine ⟨l, F, fun d => ?_, h, ⟨Nat.le_refl _, by omega, fun _ _ _ => rfl, fun j hj => .inl hj, h.lt⟩⟩
    refine does_is func273 ntmps273 results273 rfl ?_ tup0_ok
    clear h hs
    refine burst ?_
    exact ⟨_, rfl, rfl⟩
  have e : m.put s = m.opened.onLast fun p => { p with put := p.put ++ s } := if_neg h0
  obtain ⟨l', c, F', hd, f1, f2, hcb, hk, rfl, hpos, hm⟩ := last_does l b m F h hl hn
  obtain ⟨pre, p, hop, hpl⟩ := opened_snoc hpos
  have hst : p.put.length + s.length < 9223372036854775808 := by
    have h1 := szP_mem (l := m.opened.l) (p := p) (by rw [hop]; simp)
    have h2 := szM_opened m
    unfold szM at h2 hs
    omega
  have hc := last_cells (p := p) hpl
  have hsp := last_splice (p := p) (q := { p with put := p.put ++ s }) (o := 2) (v := .string (bs (p.put ++ s))) hpl (by decide) rfl
  have hnl : m.opened.l.length = pre.length + 1 := by rw [hop]; simp
  rw [← hop] at hc hsp
  have hlt : c < l'.length := hm.lt c (by simp)
  have hl' : l'.length < 16777216 := by have := hm.le; omega
  refine ⟨l'.set c (AB.grown ((pre ++ [{ p with put := p.put ++ s }]).flatMap encT) 104 3), [b, c], fun d => ?_, ?_, hm.lasts⟩
  · refine does_is func273 ntmps273 results273 rfl ?_ tup0_ok
    have hd := hd false
    have ha : aBin prog .add 9 (.string (bs p.put)) (.string (bs s)) = some (.string (bs (p.put ++ s))) := aBin_sadd hst
    rw [← hsp]
    obtain ⟨_, _, q3, q4⟩ := hc
    have hle : (m.opened.l.length - 1) * 3 + 2 + 1 ≤ (m.opened.l.flatMap encT).length := by omega
    generalize (m.opened.l.length - 1) * 3 = o at *
    generalize m.opened.l.flatMap encT = cs at *
    clear hsp h hs hm hop hpl hk e hnl hpos q4 f1
    refine burst ?_
    refine sCall_does hd ?_
    refine burst ?_
    exact ⟨_, rfl, rfl⟩
  · have hM : m.put s = ⟨pre ++ [{ p with put := p.put ++ s }], 0⟩ := by
      rw [e, show m.opened = ⟨pre ++ [p], 0⟩ by rw [← hop, ← hk], Mk.onLast_mk]
    rw [hM]
    exact mk_at hcb f1 f2 hnl (by simp)
theorem mdrop_does (l : List AB) (b : Nat) (m : Mk) (F : List Nat) (s : Nat) (h : MkAt l b m F) (hl : l.length + 3 < 16777216) (hn : m.l.length + 1 ≤ 16777216) (hs : szM m + s < 4611686018427387904) :
    ∃ l' F', (∀ d, Does prog (.call 274 [.pointer (some ⟨b, 0, none⟩), .int .i64 (s : Int)] d) (mk l) (.tuple #[]) (mk l')) ∧ MkAt l' b (m.drop s) F' ∧ Moved 2 l l' F F' := by
  by_cases h0 : s = 0
  · subst h0
    have e : m.drop 0 = m := if_pos rfl
    rw [e]
    refine ⟨l, F, fun d => ?_, h, ⟨Nat.le_refl _, by omega, fun _ _ _ => rfl, fun j hj => .inl hj, h.lt⟩⟩
    refine does_is func274 ntmps274 results274 rfl ?_ tup0_ok
    clear h hs
    refine burst ?_
    refine ifD (fun h => absurd h (by decide)) (fun _ => ?_)
    refine burst ?_
    exact ⟨_, rfl, rfl⟩
  have e : m.drop s = m.opened.onLast fun p => { p with drop := p.drop + s } := if_neg h0
  obtain ⟨l', c, F', hd, f1, f2, hcb, hk, rfl, hpos, hm⟩ := last_does l b m F h hl hn
  obtain ⟨pre, p, hop, hpl⟩ := opened_snoc hpos
  have hst : p.drop + s < 4611686018427387904 := by
    have h1 := szP_mem (l := m.opened.l) (p := p) (by rw [hop]; simp)
    have h2 := szM_opened m
    unfold szM at h2 hs
    omega
  have hc := last_cells (p := p) hpl
  have hsp := last_splice (p := p) (q := { p with drop := p.drop + s }) (o := 1) (v := .int .i64 (p.drop + s : Nat)) hpl (by decide) rfl
  have hnl : m.opened.l.length = pre.length + 1 := by rw [hop]; simp
  rw [← hop] at hc hsp
  have hlt : c < l'.length := hm.lt c (by simp)
  have hl' : l'.length < 16777216 := by have := hm.le; omega
  refine ⟨l'.set c (AB.grown ((pre ++ [{ p with drop := p.drop + s }]).flatMap encT) 104 3), [b, c], fun d => ?_, ?_, hm.lasts⟩
  · refine does_is func274 ntmps274 results274 rfl ?_ tup0_ok
    have hd := hd false
    have hw : IntKind.i64.wrap ((p.drop : Int) + (s : Int)) = ((p.drop + s : Nat) : Int) := by rw [wrap_in (by omega) (by omega)]; omega
    rw [← hsp]
    obtain ⟨_, q3, _, q4⟩ := hc
    have hle : (m.opened.l.length - 1) * 3 + 1 + 1 ≤ (m.opened.l.flatMap encT).length := by omega
    generalize (m.opened.l.length - 1) * 3 = o at *
    generalize m.opened.l.flatMap encT = cs at *
    clear hsp h hs hm hop hpl hk e hnl hpos q4 f1 hst
    refine burst ?_
    refine ifD (fun _ => ?_) (fun h => absurd h (by omega))
    refine burst ?_
    refine sCall_does hd ?_
    refine burst ?_
    exact ⟨_, rfl, rfl⟩
  · have hM : m.drop s = ⟨pre ++ [{ p with drop := p.drop + s }], 0⟩ := by
      rw [e, show m.opened = ⟨pre ++ [p], 0⟩ by rw [← hop, ← hk], Mk.onLast_mk]
    rw [hM]
    exact mk_at hcb f1 f2 hnl (by simp)
theorem szM_onLast {m : Mk} {f : TP.Piece → TP.Piece} {n : Nat} (h : 0 < m.l.length) (hf : ∀ p, (f p).keep + (f p).drop + (f p).put.length = p.keep + p.drop + p.put.length + n) : szM (m.onLast f) = szM m + n ∧ (m.onLast f).l.length = m.l.length := by
  obtain ⟨l, k⟩ := m
  rcases snoc_cases l with rfl | ⟨pre, p, rfl⟩
  · simp at h
  · have := hf p
    simp only [Mk.onLast, szM, szP_append, List.dropLast_concat, List.getLast?_append, List.getLast?_singleton, Option.some_or, Option.map_some, Option.toList]
    simp [szP]
    omega
theorem opened_pos {m : Mk} : 0 < m.opened.l.length := by
  unfold Mk.opened
  split
  · simp
  · rename_i h
    exact List.length_pos_iff.2 fun e => h (.inr e)
theorem szM_put (m : Mk) (s : Str) : szM (m.put s) = szM m + s.length ∧ (m.put s).l.length ≤ m.l.length + 1 := by
  unfold Mk.put
  split
  · rename_i h; subst h; simp
  · have h1 := szM_onLast (m := m.opened) (f := fun p => { p with put := p.put ++ s }) (n := s.length) opened_pos (fun p => by simp; omega)
    rw [h1.1, h1.2, szM_opened]
    exact ⟨rfl, opened_len m⟩
theorem szM_drop (m : Mk) (n : Nat) : szM (m.drop n) = szM m + n ∧ (m.drop n).l.length ≤ m.l.length + 1 := by
  unfold Mk.drop
  split
  · rename_i h; subst h; simp
  · have h1 := szM_onLast (m := m.opened) (f := fun p => { p with drop := p.drop + n }) (n := n) opened_pos (fun p => by simp only; omega)
    rw [h1.1, h1.2, szM_opened]
    exact ⟨rfl, opened_len m⟩
theorem szM_kept (m : Mk) (n : Nat) : szM (m.kept n) = szM m + n ∧ (m.kept n).l = m.l := by simp [szM, Mk.kept]; omega
theorem piece_len (m : Mk) (q : TP.Piece) : (m.piece q).l.length ≤ m.l.length + 1 := by
  unfold Mk.piece
  by_cases h : q.put = []
  · have e : (m.kept q.keep).put q.put = m.kept q.keep := if_pos h
    rw [e]
    exact (szM_drop _ _).2
  · have e : (m.kept q.keep).put q.put = (m.kept q.keep).opened.onLast fun p => { p with put := p.put ++ q.put } := if_neg h
    have h1 := szM_onLast (m := (m.kept q.keep).opened) (f := fun p => { p with put := p.put ++ q.put }) (n := q.put.length) opened_pos (fun p => by simp; omega)
    rw [e]
    have hk : ((m.kept q.keep).opened.onLast fun p => { p with put := p.put ++ q.put }).keep = 0 := by
      show (m.kept q.keep).opened.keep = 0
      unfold Mk.opened
      split
      · rfl
      · rename_i h; exact Nat.le_zero.1 (Nat.not_lt.1 fun h2 => h (.inl h2))
    have hlen := h1.2
    generalize ((m.kept q.keep).opened.onLast fun p => { p with put := p.put ++ q.put }) = M at *
    have h2 := opened_len (m.kept q.keep)
    have hM : M.opened = M := if_neg (by
      rintro (h | h)
      · omega
      · rw [h] at hlen; have := opened_pos (m := m.kept q.keep); simp at hlen; omega)
    have h3 : (M.drop q.drop).l.length = M.l.length := by
      unfold Mk.drop
      split
      · rfl
      · rw [hM]
        exact (szM_onLast (m := M) (f := fun p => { p with drop := p.drop + q.drop }) (n := q.drop) (by rw [← hM]; exact opened_pos) (fun p => by simp only; omega)).2
    rw [h3, hlen]
    exact h2
end Go.Ev
namespace Go.Ev
open Go Go.Proofs Tryz
open TP (Str Tree Nd Mk)
set_option maxRecDepth 100000
set_option maxHeartbeats 4000000
theorem Moved.trans {c d : Nat} {l l1 l2 : List AB} {F F1 F2 : List Nat} (h : Moved c l l1 F F1) (k : Moved d l1 l2 F1 F2) : Moved (c + d) l l2 F F2 := by
  refine ⟨Nat.le_trans h.ge k.ge, by have := h.le; have := k.le; omega, fun j hj hF => ?_, fun j hj => ?_, k.lt⟩
  · rw [k.keep j (Nat.lt_of_lt_of_le hj h.ge) fun h2 => by
      rcases h.foot j h2 with h3 | h3
      · exact hF h3
      · omega]
    exact h.keep j hj hF
  · rcases k.foot j hj with h2 | h2
    · exact h.foot j h2
    · exact .inr (Nat.le_trans h.ge h2)
theorem mpiece_does (l : List AB) (b : Nat) (m : Mk) (F : List Nat) (q : TP.Piece) (h : MkAt l b m F) (hl : l.length + 8 < 16777216) (hn : m.l.length + 2 ≤ 16777216) (hs : szM m + (q.keep + q.drop + q.put.length) < 4611686018427387904) :
    ∃ l' F', (∀ d, Does prog (.call 216 [.pointer (some ⟨b, 0, none⟩), .agg (encT q).toArray] d) (mk l) (.tuple #[]) (mk l')) ∧ MkAt l' b (m.piece q) F' ∧ Moved 5 l l' F F' := by
  have hF := h.lt
  obtain ⟨v, h1, ho, hne, rfl⟩ := h
  have hbl : b < l.length := hF b (by simp)
  have hm1 : MkAt ((l ++ [AB.cells (encT q) 104 (0, 0)]).set b (AB.cells [v, .int .i64 (m.keep + q.keep : Nat)] 239 (0, 0))) b (m.kept q.keep) (b :: (ownB v).toList) := by
    refine ⟨v, ?_, ?_, hne, rfl⟩
    · rw [gset, if_pos rfl, List.getElem?_append_left hbl, h1]; rfl
    · refine ho.grow fun c hc => ?_
      rw [gset, if_neg (fun e => hne (by rw [hc, e])), List.getElem?_append_left (ho.lt hc)]
  have mv1 : Moved 1 l ((l ++ [AB.cells (encT q) 104 (0, 0)]).set b (AB.cells [v, .int .i64 (m.keep + q.keep : Nat)] 239 (0, 0))) (b :: (ownB v).toList) (b :: (ownB v).toList) := by
    refine ⟨by simp, by simp, fun j hj hF => ?_, fun j hj => .inl hj, hm1.lt⟩
    rw [gset, if_neg (fun e => hF (by simp [e])), List.getElem?_append_left hj]
  have hsz := szM_kept m q.keep
  obtain ⟨l2, F2, hd2, hm2, mv2⟩ := mput_does _ b _ _ q.put hm1 (by simp; omega) (by rw [hsz.2]; omega) (by rw [hsz.1]; omega)
  have hsz2 := szM_put (m.kept q.keep) q.put
  have hl2 := mv2.le
  simp only [List.length_set, List.length_append, List.length_cons, List.length_nil] at hl2
  obtain ⟨l3, F3, hd3, hm3, mv3⟩ := mdrop_does l2 b _ F2 q.drop hm2 (by omega) (by have := hsz2.2; rw [hsz.2] at this; omega) (by rw [hsz2.1, hsz.1]; omega)
  have hx : l2[l.length]? = some (AB.cells (encT q) 104 (0, 0)) := by
    rw [mv2.keep l.length (by simp) (fun hj => by
      rcases List.mem_cons.1 hj with h | h
      · omega
      · have := hF l.length (by simp at h ⊢; exact .inr h); omega)]
    rw [gset, if_neg (by omega)]; simp
  refine ⟨l3, F3, fun d => ?_, hm3, (mv1.trans mv2).trans mv3⟩
  refine does_is func216 ntmps216 results216 rfl ?_ tup0_ok
  have hd2 := hd2 false
  have hd3 := hd3 false
  have g1 : (l ++ [AB.cells (encT q) 104 (0, 0)])[b]? = some (AB.cells [v, .int .i64 (m.keep : Int)] 239 (0, 0)) := by rw [List.getElem?_append_left hbl]; exact h1
  have g2 : (l ++ [AB.cells (encT q) 104 (0, 0)])[l.length]? = some (AB.cells (encT q) 104 (0, 0)) := by simp
  have hw : IntKind.i64.wrap ((m.keep : Int) + (q.keep : Int)) = ((m.keep + q.keep : Nat) : Int) := by
    unfold szM at hs
    rw [wrap_in (by omega) (by omega)]; omega
  have n0 : ¬ b = l.length := by omega
  have k1 : l.length < 16777216 := by omega
  have k2 : l.length + 1 < 16777216 := by omega
  have k3 : l.length + 2 < 16777216 := by omega
  have k4 : l2.length < 16777216 := by omega
  obtain ⟨a, n, rfl⟩ := ho.slice
  have eE : encT q = [.int .i64 q.keep, .int .i64 q.drop, .string (bs q.put)] := rfl
  simp only [encT] at hd2 hd3 g1 g2 hx
  clear hm1 hm2 hm3 mv1 mv2 mv3 ho hne hF h1 hs hsz hsz2 hl2 hn hl
  refine burst ?_
  refine sDraw_seq cfgOK (by kernel_rfl) ?_
  refine burst ?_
  refine sCall_does hd2 ?_
  refine burst ?_
  refine sCall_does hd3 ?_
  refine burst ?_
  exact ⟨_, rfl, rfl⟩
end Go.Ev
namespace Go.Ev
open Go Go.Proofs Tryz
open TP (Str Tree Nd Mk)
set_option maxRecDepth 100000
set_option maxHeartbeats 4000000
theorem encT_toP {x : GPiece} (h1 : 0 ≤ x.keep) (h2 : 0 ≤ x.drop) : encT (toP x) = pieceC x := by
  unfold encT toP pieceC
  rw [Int.toNat_of_nonneg h1, Int.toNat_of_nonneg h2]
theorem szP_right {l : List GPiece} (h : rightG l) : szP (l.map toP) ≤ 8590983168 := by
  have h1 := ext_bound h.2.1
  have h2 := h.2.2
  have h3 := h.1
  have : szP (l.map toP) = TP.ext (l.map toP) + (l.map fun p => p.put.length).sum := by
    clear h h1 h2 h3
    induction l with
    | nil => rfl
    | cons x l ih =>
      simp only [szP, List.map_cons, List.sum_cons, TP.ext] at ih ⊢
      simp only [toP] at ih ⊢
      omega
  omega
theorem fold_sz (l : List TP.Piece) (m : Mk) : szM (l.foldl Mk.piece m) = szM m + szP l ∧ (l.foldl Mk.piece m).l.length ≤ m.l.length + l.length := by
  induction l generalizing m with
  | nil => simp [szP]
  | cons p l ih =>
    have h := ih (m.piece p)
    have h1 := piece_len m p
    have h2 : szM (m.piece p) = szM m + (p.keep + p.drop + p.put.length) := by
      unfold Mk.piece
      rw [(szM_drop _ _).1, (szM_put _ _).1, (szM_kept _ _).1]; omega
    simp only [List.foldl_cons]
    refine ⟨?_, by simp; omega⟩
    rw [h.1, h2]
    simp [szP]; omega
theorem norm_own (l : List GPiece) (h : rightG l) : FnO 215 [rowP l] (fun s => s) 104 3 (TP.norm (l.map toP)).length ((TP.norm (l.map toP)).flatMap encT) := by
  refine fnO_is func215 ntmps215 results215 rfl ?_
  have hlen := h.1
  refine burst ?_
  refine W_for l.length (fun i tm A => ∃ (L : List AB) (F : List Nat), A = mk L ∧ tget tm 3 = .pointer (some ⟨0, 0, none⟩) ∧ tget tm 6 = rowP l ∧ tget tm 7 = .int .i64 l.length ∧ tget tm 8 = .int .i64 i ∧ Hid (MkAt L 0 (((l.take i).map toP).foldl Mk.piece ⟨[], 0⟩) F) ∧ L.length ≤ 1 + 6 * i) ?_ 0 _ _ (by omega)
    ⟨_, [0], rfl, look, look, look, look, ⟨⟨.slice none 0 0, rfl, .nil, by simp [ownB], rfl⟩⟩, by simp⟩
  rintro i tm A hi ⟨L, F, rfl, h3, h6, h7, h8, hM, hL⟩ next
  replace next := Hid.mk next
  have k1 : L.length < 16777216 := by omega
  have k2 : L.length + 2 < 16777216 := by omega
  have k3 : L.length + 1 < 16777216 := by omega
  refine burst ?_
  refine ifD (fun q => ?_) (fun q => ?_)
  · obtain ⟨x, e1⟩ : ∃ x, l[i]? = some x := ⟨_, get_some q⟩
    have hx := h.2.1 x (List.mem_of_getElem? e1)
    have hw := wrap_succ (Nat.le_of_lt q) (by omega)
    have htk : (l.take (i + 1)).map toP = (l.take i).map toP ++ [toP x] := by rw [List.take_add_one, e1]; simp
    have hfold : ((l.take (i + 1)).map toP).foldl Mk.piece ⟨[], 0⟩ = (((l.take i).map toP).foldl Mk.piece ⟨[], 0⟩).piece (toP x) := by rw [htk, List.foldl_append]; rfl
    have hsz := fold_sz ((l.take i).map toP) ⟨[], 0⟩
    have hszr := szP_right h
    have hsz3 : szP ((l.take (i + 1)).map toP) ≤ szP (l.map toP) := by
      have : l.map toP = (l.take (i + 1)).map toP ++ (l.drop (i + 1)).map toP := by rw [← List.map_append, List.take_append_drop]
      rw [this, szP_append]; omega
    rw [htk, szP_append] at hsz3
    have hsx : szP [toP x] = (toP x).keep + (toP x).drop + (toP x).put.length := by simp [szP]
    have hs0 : szM ⟨[], 0⟩ = 0 := rfl
    have hM1 : MkAt ((L ++ [AB.cells [.int .i64 0, .int .i64 0, .string ⟨#[]⟩] 104 (0, 0)]).set L.length (AB.cells (pieceC x) 104 (0, 0))) 0 (((l.take i).map toP).foldl Mk.piece ⟨[], 0⟩) F := hM.out.stay fun j hj => by
      have := hM.out.lt j hj
      rw [gset, if_neg (by omega), List.getElem?_append_left this]
    obtain ⟨l2, F2, hd, hm2, mv⟩ := mpiece_does _ 0 _ F (toP x) hM1 (by simp; omega) (by
      have := hsz.2
      simp only [List.length_nil, List.length_map, List.length_take] at this
      omega) (by rw [hsz.1]; omega)
    have hd := hd false
    rw [encT_toP hx.1 hx.2.2.1] at hd
    have hl2 := mv.le
    simp only [List.length_set, List.length_append, List.length_cons, List.length_nil] at hl2
    have g2 : (L ++ [AB.cells [.int .i64 0, .int .i64 0, .string ⟨#[]⟩] 104 (0, 0)])[L.length]? = some (AB.cells [.int .i64 0, .int .i64 0, .string ⟨#[]⟩] 104 (0, 0)) := by simp
    simp only [pieceC] at hd
    clear hsz hszr hsz3 hM1 hM hx htk hlen
    replace hm2 := Hid.mk hm2
    replace hfold := Hid.mk hfold
    refine burst ?_
    refine sCall_does hd ?_
    refine burst ?_
    refine next.out _ _ q ⟨l2, F2, rfl, look, look, look, look, ⟨by rw [hfold.out]; exact hm2.out⟩, by omega⟩
  · rw [List.take_of_length_le (by omega)] at hM
    obtain ⟨v, f1, ho, hne, _⟩ := hM.out
    have hN : (((l.map toP).foldl Mk.piece ⟨[], 0⟩).l) = TP.norm (l.map toP) := rfl
    rw [hN] at ho
    replace ho := Hid.mk ho
    clear hM next
    obtain ⟨a, n, rfl⟩ := ho.out.slice
    refine burst ?_
    exact ⟨_, _, _, rfl, rfl, rfl, ho.out, k1⟩
end Go.Ev
namespace Go.Ev
open Go Go.Proofs Tryz
open TP (Str Tree Nd Mk)
set_option maxRecDepth 100000
set_option maxHeartbeats 4000000
def RowV (l : List AB) (v : Value) (r : List TP.Piece) : Prop :=
  (v = frow 0 [] ∧ r = []) ∨ (v = .slice none 0 0 ∧ r = []) ∨ (∃ c x, v = .slice (some ⟨c, 0, none⟩) 0 0 ∧ r = [] ∧ l[c]? = some x) ∨ ∃ c pre K, v = .slice (some ⟨c, pre.length * 3, none⟩) r.length (big + K) ∧ r.length ≤ K ∧ l[c]? = some (.grown ((pre ++ r).flatMap encT) 104 3)
def RowAt (l : List AB) (b : Nat) (r : List TP.Piece) (F : List Nat) : Prop :=
  ∃ v, l[b]? = some (.cells [v] 330 (0, 0)) ∧ RowV l v r ∧ ownB v ≠ some b ∧ F = b :: (ownB v).toList
theorem RowV.lt {l : List AB} {v : Value} {r : List TP.Piece} (h : RowV l v r) {c : Nat} (hc : ownB v = some c) : c < l.length := by
  rcases h with ⟨rfl, _⟩ | ⟨rfl, _⟩ | ⟨d, x, rfl, _, h⟩ | ⟨d, pre, K, rfl, _, h⟩
  · simp [frow, ownB] at hc
  · simp [ownB] at hc
  · simp only [ownB, Option.some.injEq] at hc
    subst hc
    exact (List.getElem?_eq_some_iff.1 h).1
  · simp only [ownB, Option.some.injEq] at hc
    subst hc
    exact (List.getElem?_eq_some_iff.1 h).1
theorem RowV.stay {l l' : List AB} {v : Value} {r : List TP.Piece} (h : RowV l v r) (hs : ∀ c, ownB v = some c → l'[c]? = l[c]?) : RowV l' v r := by
  rcases h with h | h | ⟨d, x, rfl, h1, h2⟩ | ⟨d, pre, K, rfl, h1, h2⟩
  · exact .inl h
  · exact .inr (.inl h)
  · exact .inr (.inr (.inl ⟨d, x, rfl, h1, by rw [hs d rfl]; exact h2⟩))
  · exact .inr (.inr (.inr ⟨d, pre, K, rfl, h1, by rw [hs d rfl]; exact h2⟩))
theorem RowAt.lt {l : List AB} {b : Nat} {r : List TP.Piece} {F : List Nat} (h : RowAt l b r F) : ∀ j ∈ F, j < l.length := by
  obtain ⟨v, h1, h2, h3, rfl⟩ := h
  intro j hj
  rcases List.mem_cons.1 hj with rfl | hj
  · exact (List.getElem?_eq_some_iff.1 h1).1
  · exact h2.lt (by simpa using hj)
theorem RowAt.stay {l l' : List AB} {b : Nat} {r : List TP.Piece} {F : List Nat} (h : RowAt l b r F) (hs : ∀ j ∈ F, l'[j]? = l[j]?) : RowAt l' b r F := by
  obtain ⟨v, h1, h2, h3, rfl⟩ := h
  exact ⟨v, by rw [hs b (by simp)]; exact h1, h2.stay fun c hc => hs c (by simp [hc]), h3, rfl⟩
theorem head_cells {pre r : List TP.Piece} {p : TP.Piece} : part ((pre ++ p :: r).flatMap encT) (pre.length * 3) 3 = some (encT p) := by
  rw [row_part encT_length (by decide), List.getElem?_append_right (Nat.le_refl _), Nat.sub_self]; rfl
theorem RowV.tail {c : Nat} {pre r : List TP.Piece} {p : TP.Piece} {K : Nat} (hK : (p :: r).length ≤ K) :
    ∃ v, aslice ⟨c, pre.length * 3, none⟩ 3 (r.length + 1) (big + K) (some (.int .i64 1)) none none = some v ∧ (ownB v = some c ∨ ownB v = none) ∧ cellv v = true ∧ v.cells.toList = [v] ∧ ∀ l : List AB, l[c]? = some (.grown ((pre ++ p :: r).flatMap encT) 104 3) → RowV l v r := by
  simp only [List.length_cons] at hK
  by_cases h1 : 1 < K
  · refine ⟨.slice (some ⟨c, (pre ++ [p]).length * 3, none⟩) r.length (big + (K - 1)), ?_, .inl rfl, rfl, rfl, fun l h => .inr (.inr (.inr ⟨c, pre ++ [p], K - 1, rfl, by omega, by simpa using h⟩))⟩
    unfold aslice
    rw [if_neg (by simp)]
    have e1 : optNat (some (.int .i64 1)) 0 = some 1 := rfl
    have e2 : optMax none = some none := rfl
    have e3 : optNat none (r.length + 1) = some (r.length + 1) := rfl
    have hb : ¬ big + K < big := by omega
    simp only [e1, e2, e3, if_neg hb, Nat.add_sub_cancel_left]
    rw [if_pos ⟨by simp, by simpa using hK⟩, if_pos (Or.inr h1), addr_add]
    simp only [List.length_cons, List.length_append, List.length_nil]
    rw [show pre.length * 3 + 1 * 3 = (pre.length + (0 + 1)) * 3 by omega, show r.length + 1 - 1 = r.length by omega, show big + K - 1 = big + (K - 1) by omega]
  · have hr : r = [] := List.eq_nil_of_length_eq_zero (by omega)
    subst hr
    refine ⟨frow 0 [], ?_, .inr rfl, rfl, rfl, fun l h => .inl ⟨rfl, rfl⟩⟩
    unfold aslice
    rw [if_neg (by simp)]
    have e1 : optNat (some (.int .i64 1)) 0 = some 1 := rfl
    have e2 : optMax none = some none := rfl
    have e3 : optNat none (([] : List TP.Piece).length + 1) = some 1 := rfl
    have hb : ¬ big + K < big := by omega
    simp only [e1, e2, e3, if_neg hb, Nat.add_sub_cancel_left]
    rw [if_pos ⟨Nat.le_refl _, by simpa using hK⟩, if_neg (by omega)]
theorem Moved.more {c : Nat} {l L : List AB} {F F' : List Nat} (h : Moved c l L F F') (Z X : AB) : Moved (c + 1) l ((L ++ [Z]).set L.length X) F F' := by
  have := h.ge
  have := h.le
  refine ⟨by simp; omega, by simp; omega, fun j hj hF => ?_, h.foot, fun j hj => by have := h.lt j hj; simp; omega⟩
  rw [gset, if_neg (by omega), List.getElem?_append_left (by omega)]
  exact h.keep j hj hF
theorem Moved.wider {c d : Nat} {l L : List AB} {F F' : List Nat} (h : Moved c l L F F') (hd : c ≤ d) : Moved d l L F F' := ⟨h.ge, by have := h.le; omega, h.keep, h.foot, h.lt⟩
def runV (r : List TP.Piece) : Nat × Bool × Bool := match (TP.rowRun r).2 with
  | some (n, x) => (n, x, true)
  | none => (0, false, false)
theorem rowRun_drop {r : List TP.Piece} {p : TP.Piece} (h1 : ¬ 0 < p.keep) (h2 : ¬ 0 < p.drop) : TP.rowRun (p :: r) = TP.rowRun r := by
  rw [TP.rowRun, if_neg h1, if_neg h2]
theorem rowRun_len (r : List TP.Piece) : (TP.rowRun r).1.length ≤ r.length := by
  induction r with
  | nil => exact Nat.le_refl _
  | cons p r ih =>
    rw [TP.rowRun]
    split
    · exact Nat.le_refl _
    · split
      · exact Nat.le_refl _
      · simp; omega
theorem RowAt.run {l : List AB} {b : Nat} {r : List TP.Piece} {F : List Nat} (h : RowAt l b r F) (hl : l.length + r.length + 3 < 16777216) (hk : szP r < 4611686018427387904) :
    ∃ l' F', (∀ d, Does prog (.call 334 [.pointer (some ⟨b, 0, none⟩)] d) (mk l) (.tuple #[.int .i64 ((runV r).1 : Nat), .bool (runV r).2.1, .bool (runV r).2.2]) (mk l')) ∧ RowAt l' b (TP.rowRun r).1 F' ∧ Moved (r.length - (TP.rowRun r).1.length + 1) l l' F F' := by
  have main : ∃ v l', (∃ F', v = .tuple #[.int .i64 ((runV r).1 : Nat), .bool (runV r).2.1, .bool (runV r).2.2] ∧ RowAt l' b (TP.rowRun r).1 F' ∧ Moved (r.length - (TP.rowRun r).1.length + 1) l l' F F') ∧ ∀ d, Does prog (.call 334 [.pointer (some ⟨b, 0, none⟩)] d) (mk l) v (mk l') := by
    refine does_ex (R := fun v l' => ∃ F', v = .tuple #[.int .i64 ((runV r).1 : Nat), .bool (runV r).2.1, .bool (runV r).2.2] ∧ RowAt l' b (TP.rowRun r).1 F' ∧ Moved (r.length - (TP.rowRun r).1.length + 1) l l' F F') func334 ntmps334 results334 rfl ?_ (fun v l' h => by obtain ⟨F', rfl, _⟩ := h; rfl)
    refine burst ?_
    refine W_for r.length (fun i tm A => ∃ (L : List AB) (F' : List Nat), A = mk L ∧ tget tm 0 = .pointer (some ⟨b, 0, none⟩) ∧ Hid (RowAt L b (r.drop i) F') ∧ Hid (Moved i l L F F') ∧ Hid (TP.rowRun (r.drop i) = TP.rowRun r)) ?_ 0 _ _ (by omega) ⟨l, F, rfl, look, ⟨h⟩, ⟨⟨Nat.le_refl _, by omega, fun _ _ _ => rfl, fun j hj => .inl hj, h.lt⟩⟩, ⟨rfl⟩⟩
    rintro i tm A hi ⟨L, F', rfl, h0, hR, hm, hrun⟩ next
    replace next := Hid.mk next
    have hLl : L.length ≤ l.length + i := hm.out.le
    have k1 : L.length < 16777216 := by omega
    have k2 : L.length + 2 < 16777216 := by omega
    have k3 : L.length + 1 < 16777216 := by omega
    obtain ⟨v, f1, hv, hne, hF'⟩ := hR.out
    cases hrr : r.drop i with
    | nil =>
      rw [hrr] at hrun hv
      have e : TP.rowRun r = ([], none) := hrun.out.symm
      have eV : runV r = (0, false, false) := by unfold runV; rw [e]
      have hfin : ∃ F', RowAt L b (TP.rowRun r).1 F' ∧ Moved (r.length - (TP.rowRun r).1.length + 1) l L F F' := ⟨F', by rw [e]; rw [hrr] at hR; exact hR.out, hm.out.wider (by rw [e]; simp; omega)⟩
      rw [eV]
      replace hfin := Hid.mk hfin
      clear hR hm hrun e eV next hrr
      rcases hv with ⟨rfl, _⟩ | ⟨rfl, _⟩ | ⟨c, x, rfl, _, _⟩ | ⟨c, pre, K, rfl, _, _⟩
      · refine burst ?_
        refine ifD (fun h => absurd h (by omega)) (fun _ => ?_)
        refine burst ?_
        obtain ⟨F', h1, h2⟩ := hfin.out
        exact ⟨_, L, rfl, rfl, F', rfl, h1, h2⟩
      · refine burst ?_
        refine ifD (fun h => absurd h (by omega)) (fun _ => ?_)
        refine burst ?_
        obtain ⟨F', h1, h2⟩ := hfin.out
        exact ⟨_, L, rfl, rfl, F', rfl, h1, h2⟩
      · refine burst ?_
        refine ifD (fun h => absurd h (by simp at h)) (fun _ => ?_)
        refine burst ?_
        obtain ⟨F', h1, h2⟩ := hfin.out
        exact ⟨_, L, rfl, rfl, F', rfl, h1, h2⟩
      · refine burst ?_
        refine ifD (fun h => absurd h (by simp at h)) (fun _ => ?_)
        refine burst ?_
        obtain ⟨F', h1, h2⟩ := hfin.out
        exact ⟨_, L, rfl, rfl, F', rfl, h1, h2⟩
    | cons p r' =>
      rw [hrr] at hrun hv hR
      have hi1 : i < r.length := by
        have := congrArg List.length hrr
        simp at this; omega
      have hdr : r.drop (i + 1) = r' := by rw [← List.drop_drop, hrr]; rfl
      have hsz : p.keep + p.drop + p.put.length ≤ szP r := szP_mem (List.mem_of_mem_drop (i := i) (by rw [hrr]; simp))
      obtain ⟨c, pre, K, rfl, hK, f2⟩ : ∃ c pre K, v = .slice (some ⟨c, pre.length * 3, none⟩) (p :: r').length (big + K) ∧ (p :: r').length ≤ K ∧ L[c]? = some (.grown ((pre ++ p :: r').flatMap encT) 104 3) := by
        rcases hv with ⟨_, h⟩ | ⟨_, h⟩ | ⟨_, _, _, h, _⟩ | h
        · cases h
        · cases h
        · cases h
        · exact h
      have hcl : c < L.length := (List.getElem?_eq_some_iff.1 f2).1
      have hbl : b < L.length := (List.getElem?_eq_some_iff.1 f1).1
      have hbc : ¬ c = b := fun e => hne (by rw [e]; rfl)
      have hR1 : RowAt ((L ++ [AB.cells [.int .i64 0, .int .i64 0, .string ⟨#[]⟩] 104 (0, 0)]).set L.length (AB.cells (encT p) 104 (0, 0))) b (p :: r') F' := hR.out.stay fun j hj => by
        have := hR.out.lt j hj
        rw [gset, if_neg (by omega), List.getElem?_append_left this]
      have hm1 := hm.out.more (AB.cells [.int .i64 0, .int .i64 0, .string ⟨#[]⟩] 104 (0, 0)) (AB.cells (encT p) 104 (0, 0))
      have hpart : part ((pre ++ p :: r').flatMap encT) (pre.length * 3) 3 = some [.int .i64 p.keep, .int .i64 p.drop, .string (bs p.put)] := head_cells
      have g1 : (L ++ [AB.cells [.int .i64 0, .int .i64 0, .string ⟨#[]⟩] 104 (0, 0)])[c]? = some (.grown ((pre ++ p :: r').flatMap encT) 104 3) := by rw [List.getElem?_append_left hcl]; exact f2
      have g2 : (L ++ [AB.cells [.int .i64 0, .int .i64 0, .string ⟨#[]⟩] 104 (0, 0)])[L.length]? = some (AB.cells [.int .i64 0, .int .i64 0, .string ⟨#[]⟩] 104 (0, 0)) := by simp
      have g3 : (L ++ [AB.cells [.int .i64 0, .int .i64 0, .string ⟨#[]⟩] 104 (0, 0)])[b]? = some (AB.cells [.slice (some ⟨c, pre.length * 3, none⟩) (p :: r').length (big + K)] 330 (0, 0)) := by rw [List.getElem?_append_left hbl]; exact f1
      obtain ⟨v2, hsl, hown, hcv, hce, hv2⟩ := RowV.tail (c := c) (pre := pre) hK
      have hv3 : Hid (RowAt (((L ++ [AB.cells [.int .i64 0, .int .i64 0, .string ⟨#[]⟩] 104 (0, 0)]).set L.length (AB.cells (encT p) 104 (0, 0))).set b (AB.cells [v2] 330 (0, 0))) b r' (b :: (ownB v2).toList) ∧ Moved (i + 1) l (((L ++ [AB.cells [.int .i64 0, .int .i64 0, .string ⟨#[]⟩] 104 (0, 0)]).set L.length (AB.cells (encT p) 104 (0, 0))).set b (AB.cells [v2] 330 (0, 0))) F (b :: (ownB v2).toList)) := by
        have hcF : c ∈ F' := by rw [hF']; simp [ownB]
        have hbF : b ∈ F' := by rw [hF']; simp
        refine ⟨⟨v2, by rw [gset, if_pos rfl, gset, if_neg (by omega), g3]; rfl, hv2 _ (by rw [gset, if_neg (fun e => hbc e.symm), gset, if_neg (by omega), g1]), fun e => ?_, rfl⟩, ⟨by have := hm1.ge; simpa using this, by have := hm1.le; simpa using this, fun j hj hF => ?_, fun j hj => ?_, fun j hj => ?_⟩⟩
        · rcases hown with h | h
          · rw [h] at e; cases e; exact hbc rfl
          · rw [h] at e; cases e
        · have hjb : j ≠ b := fun e => by
            subst e
            rcases hm1.foot j hbF with h | h
            · exact hF h
            · omega
          rw [gset, if_neg (Ne.symm hjb)]
          exact hm1.keep j hj hF
        · rcases List.mem_cons.1 hj with rfl | hj
          · exact hm1.foot j hbF
          · rcases hown with h | h
            · rw [h] at hj; simp at hj; subst hj; exact hm1.foot j hcF
            · rw [h] at hj; simp at hj
        · rcases List.mem_cons.1 hj with rfl | hj
          · simp; omega
          · rcases hown with h | h
            · rw [h] at hj; simp at hj; subst hj; simp; omega
            · rw [h] at hj; simp at hj
      have hfin : ∀ o, TP.rowRun r = (p :: r', o) → Hid (RowAt ((L ++ [AB.cells [.int .i64 0, .int .i64 0, .string ⟨#[]⟩] 104 (0, 0)]).set L.length (AB.cells (encT p) 104 (0, 0))) b (TP.rowRun r).1 F' ∧ Moved (r.length - (TP.rowRun r).1.length + 1) l ((L ++ [AB.cells [.int .i64 0, .int .i64 0, .string ⟨#[]⟩] 104 (0, 0)]).set L.length (AB.cells (encT p) 104 (0, 0))) F F') := fun o e => ⟨by
        rw [e]
        have hln := congrArg List.length hrr
        simp only [List.length_drop, List.length_cons] at hln
        exact ⟨hR1, hm1.wider (by simp; omega)⟩⟩
      have hkp : (0 : Int) < (p.keep : Int) ↔ 0 < p.keep := by omega
      have hdp : (0 : Int) < (p.drop : Int) ↔ 0 < p.drop := by omega
      generalize (pre ++ p :: r').flatMap encT = cs at *
      generalize pre.length * 3 = o at *
      simp only [encT, List.length_cons] at *
      replace hrun := Hid.mk hrun.out
      replace hsz := Hid.mk hsz
      replace hfin := Hid.mk hfin
      have n1 : ¬ L.length = b := by omega
      have n2 : ¬ L.length = c := by omega
      clear hR hR1 hm hm1 hv hne hF' hK hown hrr hv2
      refine burst ?_
      refine ifD (fun _ => ?_) (fun h => absurd h (by omega))
      have hlt0 : 0 < r'.length + 1 := Nat.succ_pos _
      refine burst ?_
      refine ifD (fun q1 => ?_) (fun q1 => ?_)
      · have q1' := q1
        have e : TP.rowRun r = (p :: r', some (p.keep, false)) := by rw [← hrun.out, TP.rowRun, if_pos q1']
        have eV : runV r = (p.keep, false, true) := by unfold runV; rw [e]
        have hf := (hfin.out _ e).out
        rw [eV]
        replace hf := Hid.mk hf
        clear hrun hfin hv3 next e eV q1'
        refine burst ?_
        exact ⟨_, _, rfl, rfl, F', rfl, hf.out.1, hf.out.2⟩
      have q1' : ¬ 0 < p.keep := q1
      refine burst ?_
      refine ifD (fun q2 => ?_) (fun q2 => ?_)
      · have q2' := q2
        have e : TP.rowRun r = (p :: r', some (p.drop, true)) := by rw [← hrun.out, TP.rowRun, if_neg q1', if_pos q2']
        have eV : runV r = (p.drop, true, true) := by unfold runV; rw [e]
        have hf := (hfin.out _ e).out
        rw [eV]
        replace hf := Hid.mk hf
        clear hrun hfin hv3 next e eV q2'
        refine burst ?_
        exact ⟨_, _, rfl, rfl, F', rfl, hf.out.1, hf.out.2⟩
      have q2' : ¬ 0 < p.drop := q2
      have e : TP.rowRun r' = TP.rowRun r := by rw [← hrun.out, rowRun_drop q1' q2']
      replace e := Hid.mk e
      clear hrun hfin
      refine burst ?_
      exact next.out _ _ hi1 ⟨_, _, rfl, look, ⟨by rw [hdr]; exact hv3.out.1⟩, ⟨hv3.out.2⟩, ⟨by rw [hdr]; exact e.out⟩⟩
  obtain ⟨v, l', ⟨F', rfl, h1, h2⟩, hd⟩ := main
  exact ⟨l', F', hd, h1, h2⟩
end Go.Ev
namespace Go.Ev
open Go Go.Proofs Tryz
open TP (Str Tree Nd Mk)
set_option maxRecDepth 100000
set_option maxHeartbeats 4000000
theorem head_splice {pre r : List TP.Piece} {p q : TP.Piece} {k o : Nat} (hk : pre.length = k) (ho : o ≤ 2) {v : Value} (hv : encT q = (encT p).set o v) :
    List.take (k * 3 + o) ((pre ++ p :: r).flatMap encT) ++ [v] ++ List.drop (k * 3 + o + 1) ((pre ++ p :: r).flatMap encT) = (pre ++ q :: r).flatMap encT := by
  subst hk
  have hl := row_length encT_length pre
  have h3 : (encT p).length = 3 := rfl
  rw [List.flatMap_append, List.flatMap_append, List.take_append, List.drop_append, hl, List.take_of_length_le (by omega), List.drop_of_length_le (by omega), Nat.add_sub_cancel_left, Nat.add_assoc, Nat.add_sub_cancel_left]
  rw [List.flatMap_cons, List.flatMap_cons, List.take_append_of_le_length (by omega), List.drop_append_of_le_length (by omega), hv, List.set_eq_take_append_cons_drop, if_pos (by omega)]
  simp
theorem head_at {pre r : List TP.Piece} {p : TP.Piece} {k : Nat} (hk : pre.length = k) :
    ((pre ++ p :: r).flatMap encT)[k * 3]? = some (.int .i64 p.keep) ∧ ((pre ++ p :: r).flatMap encT)[k * 3 + 1]? = some (.int .i64 p.drop) ∧ ((pre ++ p :: r).flatMap encT)[k * 3 + 2]? = some (.string (bs p.put)) ∧ k * 3 + 3 ≤ ((pre ++ p :: r).flatMap encT).length := by
  subst hk
  have hl := row_length encT_length pre
  rw [List.flatMap_append]
  refine ⟨?_, ?_, ?_, ?_⟩
  · rw [List.getElem?_append_right (by omega), hl, Nat.sub_self]; rfl
  · rw [List.getElem?_append_right (by omega), hl, Nat.add_sub_cancel_left]; rfl
  · rw [List.getElem?_append_right (by omega), hl, Nat.add_sub_cancel_left]; rfl
  · rw [List.length_append, hl, List.flatMap_cons, List.length_append, encT_length]; omega
theorem RowAt.turn {l : List AB} {b c : Nat} {pre r : List TP.Piece} {p q : TP.Piece} {K : Nat} (f1 : l[b]? = some (.cells [.slice (some ⟨c, pre.length * 3, none⟩) (r.length + 1) (big + K)] 330 (0, 0))) (hK : r.length + 1 ≤ K) (f2 : l[c]? = some (.grown ((pre ++ p :: r).flatMap encT) 104 3)) (hcb : c ≠ b) :
    RowAt (l.set c (AB.grown ((pre ++ q :: r).flatMap encT) 104 3)) b (q :: r) [b, c] ∧ Moved 0 l (l.set c (AB.grown ((pre ++ q :: r).flatMap encT) 104 3)) [b, c] [b, c] := by
  have hcl : c < l.length := (List.getElem?_eq_some_iff.1 f2).1
  have hbl : b < l.length := (List.getElem?_eq_some_iff.1 f1).1
  refine ⟨⟨_, by rw [gset, if_neg hcb]; exact f1, .inr (.inr (.inr ⟨c, pre, K, rfl, by simpa using hK, by rw [gset, if_pos rfl, f2]; rfl⟩)), by simpa [ownB] using hcb, rfl⟩, ⟨by simp, by simp, fun j hj hF => ?_, fun j hj => .inl hj, fun j hj => ?_⟩⟩
  · rw [gset, if_neg (fun e => hF (by simp [e]))]
  · simp only [List.mem_cons, List.not_mem_nil, or_false] at hj
    rcases hj with rfl | rfl <;> simpa
theorem Moved.refl {l : List AB} {F : List Nat} (h : ∀ j ∈ F, j < l.length) : Moved 0 l l F F := ⟨Nat.le_refl _, by omega, fun _ _ _ => rfl, fun j hj => .inl hj, h⟩
theorem RowAt.take {l : List AB} {b : Nat} {r : List TP.Piece} {F : List Nat} (h : RowAt l b r F) (hl : l.length < 16777216) (n : Nat) (hn : ∀ p r', r = p :: r' → (0 < p.keep → n ≤ p.keep ∧ p.keep < 4611686018427387904) ∧ (¬ 0 < p.keep → n ≤ p.drop ∧ p.drop < 4611686018427387904)) :
    ∃ v l', l[b]? = some (.cells [v] 330 (0, 0)) ∧ (∀ d, Does prog (.call 335 [v, .int .i64 (n : Int)] d) (mk l) (.tuple #[]) (mk l')) ∧ RowAt l' b (TP.rowTake n r) F ∧ Moved 0 l l' F F := by
  have hlt := h.lt
  have h' := h
  obtain ⟨v, f1, hv, hne, hF⟩ := h
  cases r with
  | nil =>
    refine ⟨v, l, f1, fun d => ?_, h', .refl hlt⟩
    refine does_is func335 ntmps335 results335 rfl ?_ tup0_ok
    clear h' hn
    rcases hv with ⟨rfl, _⟩ | ⟨rfl, _⟩ | ⟨c, x, rfl, _, _⟩ | ⟨c, pre, K, rfl, _, _⟩
    · refine burst ?_
      refine ifD (fun _ => ?_) (fun h => absurd rfl h)
      refine burst ?_
      exact ⟨_, rfl, rfl⟩
    · refine burst ?_
      refine ifD (fun _ => ?_) (fun h => absurd rfl h)
      refine burst ?_
      exact ⟨_, rfl, rfl⟩
    · refine burst ?_
      refine ifD (fun _ => ?_) (fun h => absurd rfl h)
      refine burst ?_
      exact ⟨_, rfl, rfl⟩
    · refine burst ?_
      refine ifD (fun _ => ?_) (fun h => absurd rfl h)
      refine burst ?_
      exact ⟨_, rfl, rfl⟩
  | cons p r =>
    obtain ⟨c, pre, K, rfl, hK, f2⟩ : ∃ c pre K, v = .slice (some ⟨c, pre.length * 3, none⟩) (p :: r).length (big + K) ∧ (p :: r).length ≤ K ∧ l[c]? = some (.grown ((pre ++ p :: r).flatMap encT) 104 3) := by
      rcases hv with ⟨_, h⟩ | ⟨_, h⟩ | ⟨_, _, _, h, _⟩ | h
      · cases h
      · cases h
      · cases h
      · exact h
    have hcb : c ≠ b := fun e => hne (by rw [e]; rfl)
    have hFe : F = [b, c] := by rw [hF]; simp [ownB]
    rw [hFe]
    obtain ⟨hn1, hn2⟩ := hn p r rfl
    obtain ⟨q1, q2, q3, q4⟩ := head_at (r := r) (p := p) (pre := pre) rfl
    simp only [List.length_cons] at f1 hK
    have hlt0 : 0 < r.length + 1 := Nat.succ_pos _
    by_cases hk : 0 < p.keep
    · have e : TP.rowTake n (p :: r) = { p with keep := p.keep - n } :: r := by rw [TP.rowTake, if_pos hk]
      rw [e]
      have hsp := head_splice (pre := pre) (p := p) (r := r) (q := { p with keep := p.keep - n }) (o := 0) (v := .int .i64 (p.keep - n : Nat)) rfl (by decide) rfl
      obtain ⟨t1, t2⟩ := RowAt.turn (q := { p with keep := p.keep - n }) f1 hK f2 hcb
      refine ⟨_, _, f1, fun d => ?_, t1, t2⟩
      refine does_is func335 ntmps335 results335 rfl ?_ tup0_ok
      rw [← hsp]
      have hn1 := hn1 hk
      have hw : IntKind.i64.wrap ((p.keep : Int) - (n : Int)) = ((p.keep - n : Nat) : Int) := by rw [wrap_in (by omega) (by omega)]; omega
      have hle : pre.length * 3 + 0 + 1 ≤ ((pre ++ p :: r).flatMap encT).length := by omega
      have hk : decide ((0 : Int) < (p.keep : Int)) = true := by simpa using hk
      generalize (pre ++ p :: r).flatMap encT = cs at *
      generalize pre.length * 3 = o at *
      clear t1 t2 hsp e hn hn1 hn2 h' hlt hv hF hFe hne q2 q3 q4 hK
      refine burst ?_
      refine ifD (fun h => absurd h (by omega)) (fun _ => ?_)
      refine burst ?_
      exact ⟨_, rfl, rfl⟩
    · have e : TP.rowTake n (p :: r) = { p with drop := p.drop - n } :: r := by rw [TP.rowTake, if_neg hk]
      rw [e]
      have hsp := head_splice (pre := pre) (p := p) (r := r) (q := { p with drop := p.drop - n }) (o := 1) (v := .int .i64 (p.drop - n : Nat)) rfl (by decide) rfl
      obtain ⟨t1, t2⟩ := RowAt.turn (q := { p with drop := p.drop - n }) f1 hK f2 hcb
      refine ⟨_, _, f1, fun d => ?_, t1, t2⟩
      refine does_is func335 ntmps335 results335 rfl ?_ tup0_ok
      rw [← hsp]
      have hn2 := hn2 hk
      have hw : IntKind.i64.wrap ((p.drop : Int) - (n : Int)) = ((p.drop - n : Nat) : Int) := by rw [wrap_in (by omega) (by omega)]; omega
      have hle : pre.length * 3 + 1 + 1 ≤ ((pre ++ p :: r).flatMap encT).length := by omega
      have hk : decide ((0 : Int) < (p.keep : Int)) = false := by simpa using hk
      generalize (pre ++ p :: r).flatMap encT = cs at *
      generalize pre.length * 3 = o at *
      clear t1 t2 hsp e hn hn1 hn2 h' hlt hv hF hFe hne q3 q4 hK
      refine burst ?_
      refine ifD (fun h => absurd h (by omega)) (fun _ => ?_)
      refine burst ?_
      exact ⟨_, rfl, rfl⟩
end Go.Ev
namespace Go.Ev
open Go Go.Proofs Tryz
open TP (Str Tree Nd Mk)
set_option maxRecDepth 100000
set_option maxHeartbeats 4000000
theorem RowAt.put {l : List AB} {b : Nat} {r : List TP.Piece} {F : List Nat} (h : RowAt l b r F) (hl : l.length < 16777216) :
    ∃ v l' t, l[b]? = some (.cells [v] 330 (0, 0)) ∧ (∀ d, Does prog (.call 310 [v] d) (mk l) (.tuple #[.string (bs (TP.rowPut r).1), .bool t]) (mk l')) ∧ RowAt l' b (TP.rowPut r).2 F ∧ Moved 0 l l' F F := by
  have hlt := h.lt
  have h' := h
  obtain ⟨v, f1, hv, hne, hF⟩ := h
  cases r with
  | nil =>
    refine ⟨v, l, false, f1, fun d => ?_, h', .refl hlt⟩
    refine does_is func310 ntmps310 results310 rfl ?_ rfl
    clear h'
    have e0 : (TP.rowPut []).1 = [] := rfl
    rcases hv with ⟨rfl, _⟩ | ⟨rfl, _⟩ | ⟨c, x, rfl, _, _⟩ | ⟨c, pre, K, rfl, _, _⟩
    · refine burst ?_
      refine guardND (fun h => absurd rfl h) (fun _ => ?_)
      refine burst ?_
      exact ⟨_, rfl, rfl⟩
    · refine burst ?_
      refine guardND (fun h => absurd rfl h) (fun _ => ?_)
      refine burst ?_
      exact ⟨_, rfl, rfl⟩
    · refine burst ?_
      refine guardND (fun h => absurd rfl h) (fun _ => ?_)
      refine burst ?_
      exact ⟨_, rfl, rfl⟩
    · refine burst ?_
      refine guardND (fun h => absurd rfl h) (fun _ => ?_)
      refine burst ?_
      exact ⟨_, rfl, rfl⟩
  | cons p r =>
    obtain ⟨c, pre, K, rfl, hK, f2⟩ : ∃ c pre K, v = .slice (some ⟨c, pre.length * 3, none⟩) (p :: r).length (big + K) ∧ (p :: r).length ≤ K ∧ l[c]? = some (.grown ((pre ++ p :: r).flatMap encT) 104 3) := by
      rcases hv with ⟨_, h⟩ | ⟨_, h⟩ | ⟨_, _, _, h, _⟩ | h
      · cases h
      · cases h
      · cases h
      · exact h
    have hcb : c ≠ b := fun e => hne (by rw [e]; rfl)
    have hFe : F = [b, c] := by rw [hF]; simp [ownB]
    obtain ⟨q1, q2, q3, q4⟩ := head_at (r := r) (p := p) (pre := pre) rfl
    simp only [List.length_cons] at f1 hK
    have hlt0 : 0 < r.length + 1 := Nat.succ_pos _
    by_cases hk : p.keep = 0
    case neg =>
      have e : TP.rowPut (p :: r) = ([], p :: r) := by rw [TP.rowPut, if_neg hk]
      rw [e]
      refine ⟨_, l, false, f1, fun d => ?_, h', .refl hlt⟩
      refine does_is func310 ntmps310 results310 rfl ?_ rfl
      have hk : decide ((0 : Int) < (p.keep : Int)) = true := by simp; omega
      have eS : bs [] = ⟨#[]⟩ := rfl
      generalize (pre ++ p :: r).flatMap encT = cs at *
      generalize pre.length * 3 = o at *
      clear e h' hlt hv hF hFe hne q2 q3 q4 hK
      refine burst ?_
      refine guardND (fun _ => ?_) (fun h => absurd h (by omega))
      refine burst ?_
      exact ⟨_, rfl, rfl⟩
    have e : TP.rowPut (p :: r) = (p.put, { p with put := [] } :: r) := by rw [TP.rowPut, if_pos hk]
    rw [e]
    by_cases hp : p.put = []
    · have ep : ({ p with put := [] } : TP.Piece) = p := by rw [← hp]
      rw [ep, hp]
      refine ⟨_, l, false, f1, fun d => ?_, h', .refl hlt⟩
      refine does_is func310 ntmps310 results310 rfl ?_ rfl
      have eS : bs [] = ⟨#[]⟩ := rfl
      have hee : aBin prog .eql 9 (.string ⟨#[]⟩) (.string ⟨#[]⟩) = some (.bool true) := by kernel_rfl
      generalize (pre ++ p :: r).flatMap encT = cs at *
      generalize pre.length * 3 = o at *
      clear e h' hlt hv hF hFe hne q2 q4 hK ep
      refine burst ?_
      refine guardND (fun _ => ?_) (fun h => absurd h (by omega))
      refine burst ?_
      refine guardND (fun _ => ?_) (fun h => absurd h (by omega))
      refine burst ?_
      exact ⟨_, rfl, rfl⟩
    · have hsp := head_splice (pre := pre) (p := p) (r := r) (q := { p with put := [] }) (o := 2) (v := .string (bs [])) rfl (by decide) rfl
      obtain ⟨t1, t2⟩ := RowAt.turn (q := { p with put := [] }) f1 hK f2 hcb
      rw [hFe]
      refine ⟨_, _, true, f1, fun d => ?_, t1, t2⟩
      refine does_is func310 ntmps310 results310 rfl ?_ rfl
      rw [← hsp]
      have hle : pre.length * 3 + 2 + 1 ≤ ((pre ++ p :: r).flatMap encT).length := by omega
      have hp2 : decide (p.put = []) = false := by simpa using hp
      have eS : bs [] = ⟨#[]⟩ := rfl
      generalize (pre ++ p :: r).flatMap encT = cs at *
      generalize pre.length * 3 = o at *
      clear t1 t2 hsp e h' hlt hv hF hFe hne q2 q4 hK hp
      refine burst ?_
      refine guardND (fun _ => ?_) (fun h => absurd h (by omega))
      refine burst ?_
      refine guardND (fun _ => ?_) (fun h => absurd h (by omega))
      refine burst ?_
      exact ⟨_, rfl, rfl⟩
end Go.Ev
namespace Go.Ev
open Go Go.Proofs Tryz
open TP (Str Tree Nd Mk)
set_option maxRecDepth 100000
set_option maxHeartbeats 4000000
def Disj (F G : List Nat) : Prop := ∀ j ∈ F, j ∉ G
theorem Disj.symm {F G : List Nat} (h : Disj F G) : Disj G F := fun j hj hF => h j hF hj
theorem Moved.disj {c : Nat} {l l' : List AB} {F F' G : List Nat} (h : Moved c l l' F F') (hG : ∀ j ∈ G, j < l.length) (hd : Disj F G) : Disj F' G := fun j hj hjG => by
  rcases h.foot j hj with h1 | h1
  · exact hd j h1 hjG
  · have := hG j hjG; omega
theorem Moved.rest {c : Nat} {l l' : List AB} {F F' G : List Nat} (h : Moved c l l' F F') (hG : ∀ j ∈ G, j < l.length) (hd : Disj F G) : ∀ j ∈ G, l'[j]? = l[j]? := fun j hj => h.keep j (hG j hj) fun hF => hd j hF hj
theorem Moved.with {c : Nat} {l l' : List AB} {F F' : List Nat} (h : Moved c l l' F F') {G H H' : List Nat} (hG : ∀ j ∈ G, j < l.length) (h1 : ∀ j ∈ F, j ∈ H) (h2 : ∀ j ∈ G, j ∈ H) (h3 : ∀ j ∈ H', j ∈ F' ∨ j ∈ G) : Moved c l l' H H' :=
  ⟨h.ge, h.le, fun j hj hH => h.keep j hj fun hF => hH (h1 j hF), fun j hj => by
    rcases h3 j hj with h4 | h4
    · exact (h.foot j h4).imp (h1 j) id
    · exact .inl (h2 j h4), fun j hj => by
    rcases h3 j hj with h4 | h4
    · exact h.lt j h4
    · exact Nat.lt_of_lt_of_le (hG j h4) h.ge⟩
def bothV (p q : List TP.Piece) : Nat × Bool × Bool × Bool := match (TP.rowRun p).2, (TP.rowRun q).2 with
  | none, none => (0, false, false, false)
  | some (n, x), none => (n, x, false, true)
  | none, some (m, y) => (m, false, y, true)
  | some (n, x), some (m, y) => (min n m, x, y, true)
def bothR (p q : List TP.Piece) : List TP.Piece × List TP.Piece :=
  if (bothV p q).2.2.2 = true then (TP.rowTake (bothV p q).1 (TP.rowRun p).1, TP.rowTake (bothV p q).1 (TP.rowRun q).1) else ((TP.rowRun p).1, (TP.rowRun q).1)
theorem szP_sub {a b : List TP.Piece} (h : ∃ c, b = c ++ a) : szP a ≤ szP b := by
  obtain ⟨c, rfl⟩ := h
  rw [szP_append]; omega
theorem rowRun_suf (r : List TP.Piece) : ∃ c, r = c ++ (TP.rowRun r).1 := by
  induction r with
  | nil => exact ⟨[], rfl⟩
  | cons p r ih =>
    rw [TP.rowRun]
    split
    · exact ⟨[], rfl⟩
    · split
      · exact ⟨[], rfl⟩
      · obtain ⟨c, hc⟩ := ih
        refine ⟨p :: c, ?_⟩
        rw [List.cons_append, ← hc]
def TakeOK (n : Nat) (r : List TP.Piece) : Prop := ∀ p r', r = p :: r' → (0 < p.keep → n ≤ p.keep ∧ p.keep < 4611686018427387904) ∧ (¬ 0 < p.keep → n ≤ p.drop ∧ p.drop < 4611686018427387904)
theorem take_ok {r : List TP.Piece} (hz : szP r < 4611686018427387904) {n : Nat} (h : ∀ m x, (TP.rowRun r).2 = some (m, x) → n ≤ m) : TakeOK n (TP.rowRun r).1 := by
  intro p r' hp
  cases hs : (TP.rowRun r).2 with
  | none => rw [TP.rowRun_none hs] at hp; cases hp
  | some s =>
    obtain ⟨m, x⟩ := s
    obtain ⟨p2, r2, e, h2⟩ := TP.rowRun_some hs
    rw [e] at hp
    cases hp
    have hn := h m x hs
    have hsub := szP_sub (rowRun_suf r)
    have hm := szP_mem (l := (TP.rowRun r).1) (p := p) (by rw [e]; simp)
    rcases h2 with ⟨_, q1, rfl⟩ | ⟨_, q1, q2, rfl⟩
    · exact ⟨fun _ => ⟨hn, by omega⟩, fun h => absurd q1 h⟩
    · exact ⟨fun h => by omega, fun _ => ⟨hn, by omega⟩⟩
theorem both_does {l : List AB} {bp bq : Nat} {p q : List TP.Piece} {Fp Fq : List Nat} (hp : RowAt l bp p Fp) (hq : RowAt l bq q Fq) (hd : Disj Fp Fq) (hl : l.length + p.length + q.length + 8 < 16777216) (hzp : szP p < 4611686018427387904) (hzq : szP q < 4611686018427387904) :
    ∃ l' Fp' Fq', (∀ d, Does prog (.call 311 [.pointer (some ⟨bp, 0, none⟩), .pointer (some ⟨bq, 0, none⟩)] d) (mk l) (.tuple #[.int .i64 ((bothV p q).1 : Nat), .bool (bothV p q).2.1, .bool (bothV p q).2.2.1, .bool (bothV p q).2.2.2]) (mk l')) ∧
      RowAt l' bp (bothR p q).1 Fp' ∧ RowAt l' bq (bothR p q).2 Fq' ∧ Disj Fp' Fq' ∧ Moved (p.length - (TP.rowRun p).1.length + (q.length - (TP.rowRun q).1.length) + 2) l l' (Fp ++ Fq) (Fp' ++ Fq') := by
  obtain ⟨l1, Fp1, d1, hp1, m1⟩ := hp.run (by omega) hzp
  have hq1 : RowAt l1 bq q Fq := hq.stay (m1.rest hq.lt hd)
  have dis1 : Disj Fp1 Fq := m1.disj hq.lt hd
  have hl1 := m1.le
  have hlp := rowRun_len p
  have hlq := rowRun_len q
  obtain ⟨l2, Fq2, d2, hq2, m2⟩ := hq1.run (by omega) hzq
  have hp2 : RowAt l2 bp (TP.rowRun p).1 Fp1 := hp1.stay (m2.rest hp1.lt dis1.symm)
  have dis2 : Disj Fq2 Fp1 := m2.disj hp1.lt dis1.symm
  have hl2 := m2.le
  have M1 : Moved (p.length - (TP.rowRun p).1.length + 1) l l1 (Fp ++ Fq) (Fp1 ++ Fq) := m1.with hq.lt (fun j hj => by simp [hj]) (fun j hj => by simp [hj]) (fun j hj => by simpa using hj)
  have M2 : Moved (q.length - (TP.rowRun q).1.length + 1) l1 l2 (Fp1 ++ Fq) (Fp1 ++ Fq2) := m2.with hp1.lt (fun j hj => by simp [hj]) (fun j hj => by simp [hj]) (fun j hj => by
    rcases List.mem_append.1 hj with h | h
    · exact .inr h
    · exact .inl h)
  have M12 := (M1.trans M2).wider (d := p.length - (TP.rowRun p).1.length + (q.length - (TP.rowRun q).1.length) + 2) (by omega)
  by_cases hs : (bothV p q).2.2.2 = true
  case neg =>
    have e1 : (TP.rowRun p).2 = none ∧ (TP.rowRun q).2 = none := by
      unfold bothV at hs
      split at hs <;> simp_all
    have eR : bothR p q = ((TP.rowRun p).1, (TP.rowRun q).1) := if_neg hs
    have eV : bothV p q = (0, false, false, false) := by unfold bothV; rw [e1.1, e1.2]
    have ep : runV p = (0, false, false) := by unfold runV; rw [e1.1]
    have eq : runV q = (0, false, false) := by unfold runV; rw [e1.2]
    rw [eR, eV]
    refine ⟨l2, Fp1, Fq2, fun d => ?_, hp2, hq2, dis2.symm, M12⟩
    have d1 := d1 false
    have d2 := d2 false
    rw [ep] at d1
    rw [eq] at d2
    refine does_is func311 ntmps311 results311 rfl ?_ rfl
    clear hs e1 eR eV ep eq M1 M2 M12 hp hq hp1 hq1 hp2 hq2 m1 m2 hd dis1 dis2
    refine burst ?_
    refine sCall_does d1 ?_
    refine burst ?_
    refine sCall_does d2 ?_
    refine burst ?_
    exact ⟨_, rfl, rfl⟩
  have eR : bothR p q = (TP.rowTake (bothV p q).1 (TP.rowRun p).1, TP.rowTake (bothV p q).1 (TP.rowRun q).1) := if_pos hs
  rw [eR]
  have hnp : ∀ m x, (TP.rowRun p).2 = some (m, x) → (bothV p q).1 ≤ m := fun m x h => by
    unfold bothV
    rw [h]
    cases (TP.rowRun q).2 with
    | none => exact Nat.le_refl _
    | some s => exact Nat.min_le_left _ _
  have hnq : ∀ m x, (TP.rowRun q).2 = some (m, x) → (bothV p q).1 ≤ m := fun m x h => by
    unfold bothV
    rw [h]
    cases (TP.rowRun p).2 with
    | none => exact Nat.le_refl _
    | some s => exact Nat.min_le_right _ _
  obtain ⟨v3, l3, g3, d3, hp3, m3⟩ := hp2.take (by omega) (bothV p q).1 (take_ok hzp hnp)
  have hq3 : RowAt l3 bq (TP.rowRun q).1 Fq2 := hq2.stay (m3.rest hq2.lt dis2.symm)
  have hl3 := m3.le
  obtain ⟨v4, l4, g4, d4, hq4, m4⟩ := hq3.take (by omega) (bothV p q).1 (take_ok hzq hnq)
  have hp4 := hp3.stay (m4.rest hp3.lt dis2)
  have M3 : Moved 0 l2 l3 (Fp1 ++ Fq2) (Fp1 ++ Fq2) := m3.with hq2.lt (fun j hj => by simp [hj]) (fun j hj => by simp [hj]) (fun j hj => by simpa using hj)
  have M4 : Moved 0 l3 l4 (Fp1 ++ Fq2) (Fp1 ++ Fq2) := m4.with hp3.lt (fun j hj => by simp [hj]) (fun j hj => by simp [hj]) (fun j hj => by
    rcases List.mem_append.1 hj with h | h
    · exact .inr h
    · exact .inl h)
  refine ⟨l4, Fp1, Fq2, fun d => ?_, hp4, hq4, dis2.symm, (M12.trans M3).trans M4⟩
  have d1 := d1 false
  have d2 := d2 false
  have d3 := d3 false
  have d4 := d4 false
  have k2 : l2.length < 16777216 := by omega
  have k3 : l3.length < 16777216 := by omega
  clear eR hnp hnq M1 M2 M12 M3 M4 hp hq hp1 hq1 hp2 hq2 hp3 hq3 hp4 hq4 m1 m2 m3 m4 hd dis1 dis2 hzp hzq hl1 hl2 hl3 hl hlp hlq
  refine does_is func311 ntmps311 results311 rfl ?_ rfl
  cases hrp : (TP.rowRun p).2 with
  | none =>
    cases hrq : (TP.rowRun q).2 with
    | none => exfalso; unfold bothV at hs; rw [hrp, hrq] at hs; simp at hs
    | some s =>
      obtain ⟨m, y⟩ := s
      have ep : runV p = (0, false, false) := by unfold runV; rw [hrp]
      have eq : runV q = (m, y, true) := by unfold runV; rw [hrq]
      have eV : bothV p q = (m, false, y, true) := by unfold bothV; rw [hrp, hrq]
      rw [ep] at d1
      rw [eq] at d2
      rw [eV] at d3 d4 ⊢
      clear ep eq eV hs hrp hrq
      refine burst ?_
      refine sCall_does d1 ?_
      refine burst ?_
      refine sCall_does d2 ?_
      refine burst ?_
      refine sCall_does d3 ?_
      refine burst ?_
      refine sCall_does d4 ?_
      refine burst ?_
      exact ⟨_, rfl, rfl⟩
  | some s =>
    obtain ⟨n, x⟩ := s
    have ep : runV p = (n, x, true) := by unfold runV; rw [hrp]
    cases hrq : (TP.rowRun q).2 with
    | none =>
      have eq : runV q = (0, false, false) := by unfold runV; rw [hrq]
      have eV : bothV p q = (n, x, false, true) := by unfold bothV; rw [hrp, hrq]
      rw [ep] at d1
      rw [eq] at d2
      rw [eV] at d3 d4 ⊢
      clear ep eq eV hs hrp hrq
      refine burst ?_
      refine sCall_does d1 ?_
      refine burst ?_
      refine sCall_does d2 ?_
      refine burst ?_
      refine sCall_does d3 ?_
      refine burst ?_
      refine sCall_does d4 ?_
      refine burst ?_
      exact ⟨_, rfl, rfl⟩
    | some s =>
      obtain ⟨m, y⟩ := s
      have eq : runV q = (m, y, true) := by unfold runV; rw [hrq]
      have eV : bothV p q = (min n m, x, y, true) := by unfold bothV; rw [hrp, hrq]
      rw [ep] at d1
      rw [eq] at d2
      rw [eV] at d3 d4 ⊢
      clear ep eq eV hs hrp hrq
      have hmin : (min (n : Int) (m : Int)) = ((min n m : Nat) : Int) := by omega
      refine burst ?_
      refine sCall_does d1 ?_
      refine burst ?_
      refine sCall_does d2 ?_
      refine burst ?_
      rw [wo_min]
      refine sMin seen seen ?_
      refine burst ?_
      refine sCall_does d3 ?_
      refine burst ?_
      refine sCall_does d4 ?_
      refine burst ?_
      exact ⟨_, rfl, rfl⟩
end Go.Ev
namespace Go.Ev
open Go Go.Proofs Tryz
open TP (Str Tree Nd Mk)
set_option maxRecDepth 100000
set_option maxHeartbeats 4000000
theorem MkAt.more {l : List AB} {b : Nat} {m : Mk} {F : List Nat} (h : MkAt l b m F) (n : Nat) :
    ∃ v, l[b]? = some (.cells [v, .int .i64 (m.keep : Int)] 239 (0, 0)) ∧ MkAt (l.set b (AB.cells [v, .int .i64 ((m.keep + n : Nat) : Int)] 239 (0, 0))) b (m.kept n) F ∧ Moved 0 l (l.set b (AB.cells [v, .int .i64 ((m.keep + n : Nat) : Int)] 239 (0, 0))) F F := by
  have hlt := h.lt
  obtain ⟨v, h1, h2, h3, rfl⟩ := h
  refine ⟨v, h1, ⟨v, by rw [gset, if_pos rfl, h1]; rfl, h2.grow fun c hc => by rw [gset, if_neg (fun e => h3 (by rw [hc, e]))], h3, rfl⟩, ⟨by simp, by simp, fun j hj hF => ?_, fun j hj => .inl hj, fun j hj => by simpa using hlt j hj⟩⟩
  rw [gset, if_neg (fun e => hF (by simp [e]))]
def Four (l : List AB) (bp bq bx by' bf : Nat) (f : Bool) (p q : List TP.Piece) (x y : Mk) : Prop :=
  ∃ Fp Fq Fx Fy, RowAt l bp p Fp ∧ RowAt l bq q Fq ∧ MkAt l bx x Fx ∧ MkAt l by' y Fy ∧ l[bf]? = some (.cells [.bool f] 4 (0, 0)) ∧ (Disj Fp Fq ∧ Disj Fp Fx ∧ Disj Fp Fy ∧ Disj Fq Fx ∧ Disj Fq Fy ∧ Disj Fx Fy) ∧ (bf ∉ Fp ∧ bf ∉ Fq ∧ bf ∉ Fx ∧ bf ∉ Fy)
section four
variable {l l' : List AB} {bp bq bx by' bf : Nat} {f : Bool} {p q : List TP.Piece} {x y : Mk}
theorem bf_stay {c : Nat} {F F' : List Nat} (h : Moved c l l' F F') (hb : l[bf]? = some (.cells [.bool f] 4 (0, 0))) (hF : bf ∉ F) : l'[bf]? = some (.cells [.bool f] 4 (0, 0)) ∧ bf ∉ F' := by
  have hlt : bf < l.length := (List.getElem?_eq_some_iff.1 hb).1
  refine ⟨by rw [h.keep bf hlt hF]; exact hb, fun h2 => ?_⟩
  rcases h.foot bf h2 with h3 | h3
  · exact hF h3
  · omega
theorem Four.onX (h : Four l bp bq bx by' bf f p q x y) : ∃ F, MkAt l bx x F ∧ ∀ {c : Nat} {l' : List AB} {x' : Mk} {F' : List Nat}, MkAt l' bx x' F' → Moved c l l' F F' → Four l' bp bq bx by' bf f p q x' y := by
  obtain ⟨Fp, Fq, Fx, Fy, h1, h2, h3, h4, hb, ⟨d1, d2, d3, d4, d5, d6⟩, g1, g2, g3, g4⟩ := h
  refine ⟨Fx, h3, fun {c l' x' F'} hx hm => ?_⟩
  obtain ⟨hb', hf'⟩ := bf_stay hm hb g3
  exact ⟨Fp, Fq, F', Fy, h1.stay (hm.rest h1.lt d2.symm), h2.stay (hm.rest h2.lt d4.symm), hx, h4.stay (hm.rest h4.lt d6), hb', ⟨d1, (hm.disj h1.lt d2.symm).symm, d3, (hm.disj h2.lt d4.symm).symm, d5, hm.disj h4.lt d6⟩, g1, g2, hf', g4⟩
theorem Four.onY (h : Four l bp bq bx by' bf f p q x y) : ∃ F, MkAt l by' y F ∧ ∀ {c : Nat} {l' : List AB} {y' : Mk} {F' : List Nat}, MkAt l' by' y' F' → Moved c l l' F F' → Four l' bp bq bx by' bf f p q x y' := by
  obtain ⟨Fp, Fq, Fx, Fy, h1, h2, h3, h4, hb, ⟨d1, d2, d3, d4, d5, d6⟩, g1, g2, g3, g4⟩ := h
  refine ⟨Fy, h4, fun {c l' x' F'} hx hm => ?_⟩
  obtain ⟨hb', hf'⟩ := bf_stay hm hb g4
  exact ⟨Fp, Fq, Fx, F', h1.stay (hm.rest h1.lt d3.symm), h2.stay (hm.rest h2.lt d5.symm), h3.stay (hm.rest h3.lt d6.symm), hx, hb', ⟨d1, d2, (hm.disj h1.lt d3.symm).symm, d4, (hm.disj h2.lt d5.symm).symm, (hm.disj h3.lt d6.symm).symm⟩, g1, g2, g3, hf'⟩
theorem Four.onP (h : Four l bp bq bx by' bf f p q x y) : ∃ F, RowAt l bp p F ∧ ∀ {c : Nat} {l' : List AB} {p' : List TP.Piece} {F' : List Nat}, RowAt l' bp p' F' → Moved c l l' F F' → Four l' bp bq bx by' bf f p' q x y := by
  obtain ⟨Fp, Fq, Fx, Fy, h1, h2, h3, h4, hb, ⟨d1, d2, d3, d4, d5, d6⟩, g1, g2, g3, g4⟩ := h
  refine ⟨Fp, h1, fun {c l' x' F'} hx hm => ?_⟩
  obtain ⟨hb', hf'⟩ := bf_stay hm hb g1
  exact ⟨F', Fq, Fx, Fy, hx, h2.stay (hm.rest h2.lt d1), h3.stay (hm.rest h3.lt d2), h4.stay (hm.rest h4.lt d3), hb', ⟨hm.disj h2.lt d1, hm.disj h3.lt d2, hm.disj h4.lt d3, d4, d5, d6⟩, hf', g2, g3, g4⟩
theorem Four.onQ (h : Four l bp bq bx by' bf f p q x y) : ∃ F, RowAt l bq q F ∧ ∀ {c : Nat} {l' : List AB} {q' : List TP.Piece} {F' : List Nat}, RowAt l' bq q' F' → Moved c l l' F F' → Four l' bp bq bx by' bf f p q' x y := by
  obtain ⟨Fp, Fq, Fx, Fy, h1, h2, h3, h4, hb, ⟨d1, d2, d3, d4, d5, d6⟩, g1, g2, g3, g4⟩ := h
  refine ⟨Fq, h2, fun {c l' x' F'} hx hm => ?_⟩
  obtain ⟨hb', hf'⟩ := bf_stay hm hb g2
  exact ⟨Fp, F', Fx, Fy, h1.stay (hm.rest h1.lt d1.symm), hx, h3.stay (hm.rest h3.lt d4), h4.stay (hm.rest h4.lt d5), hb', ⟨(hm.disj h1.lt d1.symm).symm, d2, d3, hm.disj h3.lt d4, hm.disj h4.lt d5, d6⟩, g1, hf', g3, g4⟩
theorem Four.onPQ (h : Four l bp bq bx by' bf f p q x y) : ∃ F G, RowAt l bp p F ∧ RowAt l bq q G ∧ Disj F G ∧ ∀ {c : Nat} {l' : List AB} {p' q' : List TP.Piece} {F' G' : List Nat}, RowAt l' bp p' F' → RowAt l' bq q' G' → Disj F' G' → Moved c l l' (F ++ G) (F' ++ G') → Four l' bp bq bx by' bf f p' q' x y := by
  obtain ⟨Fp, Fq, Fx, Fy, h1, h2, h3, h4, hb, ⟨d1, d2, d3, d4, d5, d6⟩, g1, g2, g3, g4⟩ := h
  refine ⟨Fp, Fq, h1, h2, d1, fun {c l' p' q' F' G'} hx hy hd hm => ?_⟩
  have dX : Disj (Fp ++ Fq) Fx := fun j hj => (List.mem_append.1 hj).elim (d2 j) (d4 j)
  have dY : Disj (Fp ++ Fq) Fy := fun j hj => (List.mem_append.1 hj).elim (d3 j) (d5 j)
  obtain ⟨hb', hf'⟩ := bf_stay hm hb (by simp [g1, g2])
  have eX := hm.disj h3.lt dX
  have eY := hm.disj h4.lt dY
  exact ⟨F', G', Fx, Fy, hx, hy, h3.stay (hm.rest h3.lt dX), h4.stay (hm.rest h4.lt dY), hb', ⟨hd, fun j hj => eX j (by simp [hj]), fun j hj => eY j (by simp [hj]), fun j hj => eX j (by simp [hj]), fun j hj => eY j (by simp [hj]), d6⟩, fun h => hf' (by simp [h]), fun h => hf' (by simp [h]), g3, g4⟩
theorem Four.flag (h : Four l bp bq bx by' bf f p q x y) : l[bf]? = some (.cells [.bool f] 4 (0, 0)) := by
  obtain ⟨_, _, _, _, _, _, _, _, hb, _⟩ := h
  exact hb
end four
theorem puts_does {l : List AB} {bp bq bx by' bf : Nat} {f : Bool} {p q : List TP.Piece} {x y : Mk} (h : Four l bp bq bx by' bf f p q x y) (hl : l.length + 12 < 16777216) (hx : x.l.length + 2 ≤ 16777216) (hy : y.l.length + 2 ≤ 16777216)
    (hsx : szM x + szP p + szP q < 2305843009213693952) (hsy : szM y + szP p + szP q < 2305843009213693952) :
    ∃ l', (∀ d, Does prog (.call 309 [.pointer (some ⟨bp, 0, none⟩), .pointer (some ⟨bq, 0, none⟩), .pointer (some ⟨bf, 0, none⟩), .pointer (some ⟨bx, 0, none⟩), .pointer (some ⟨by', 0, none⟩)] d) (mk l) (.tuple #[]) (mk l')) ∧
      Four l' bp bq bx by' bf f (TP.puts f ⟨p, q, x, y⟩).p (TP.puts f ⟨p, q, x, y⟩).q (TP.puts f ⟨p, q, x, y⟩).x (TP.puts f ⟨p, q, x, y⟩).y ∧ l.length ≤ l'.length ∧ l'.length ≤ l.length + 4 := by
  have hap : (TP.rowPut p).1.length ≤ szP p := by
    cases p with
    | nil => simp [TP.rowPut]
    | cons a r =>
      have := szP_mem (l := a :: r) (p := a) (by simp)
      rw [TP.rowPut]
      split <;> simp <;> omega
  have haq : (TP.rowPut q).1.length ≤ szP q := by
    cases q with
    | nil => simp [TP.rowPut]
    | cons a r =>
      have := szP_mem (l := a :: r) (p := a) (by simp)
      rw [TP.rowPut]
      split <;> simp <;> omega
  have hkx : x.keep ≤ szM x := by unfold szM; omega
  have hky : y.keep ≤ szM y := by unfold szM; omega
  obtain ⟨Fp, hp, kp⟩ := h.onP
  obtain ⟨v1, l1, t1, e1, d1, hp1, m1⟩ := hp.put (by omega)
  have h1 := kp hp1 m1
  have hl1 := m1.le
  have hg1 := m1.ge
  obtain ⟨Fq, hq, kq⟩ := h1.onQ
  obtain ⟨v2, l2, t2, e2, d2, hq1, m2⟩ := hq.put (by omega)
  have h2 := kq hq1 m2
  have hl2 := m2.le
  have hg2 := m2.ge
  cases f with
  | true =>
    have ePuts : TP.puts true ⟨p, q, x, y⟩ = ⟨(TP.rowPut p).2, (TP.rowPut q).2, (x.put (TP.rowPut p).1).kept (TP.rowPut q).1.length, (y.kept (TP.rowPut p).1.length).put (TP.rowPut q).1⟩ := rfl
    rw [ePuts]
    generalize (TP.rowPut p).1 = a at *
    generalize (TP.rowPut q).1 = b at *
    obtain ⟨Fx, hx3, kx⟩ := h2.onX
    obtain ⟨l3, Fx3, d3, hx3', m3⟩ := mput_does l2 bx x Fx a hx3 (by omega) (by omega) (by omega)
    have h3 := kx hx3' m3
    have hl3 := m3.le
    have hg3 := m3.ge
    obtain ⟨Fy, hy4, ky⟩ := h3.onY
    obtain ⟨v4, e4, hy4', m4⟩ := hy4.more a.length
    have h4 := ky hy4' m4
    obtain ⟨Fx5, hx5, kx5⟩ := h4.onX
    obtain ⟨v5, e5, hx5', m5⟩ := hx5.more b.length
    have h5 := kx5 hx5' m5
    obtain ⟨Fy6, hy6, ky6⟩ := h5.onY
    have hsp := szM_put x a
    have hsk := szM_kept y a.length
    obtain ⟨l6, Fy6', d6, hy6', m6⟩ := mput_does _ by' _ Fy6 b hy6 (by simp; omega) (by rw [hsk.2]; omega) (by rw [hsk.1]; omega)
    have h6 := ky6 hy6' m6
    have hl6 := m6.le
    have hg6 := m6.ge
    simp only [List.length_set] at hl6 hg6
    refine ⟨l6, fun d => ?_, h6, by omega, by omega⟩
    refine does_is func309 ntmps309 results309 rfl ?_ tup0_ok
    have d1 := d1 false
    have d2 := d2 false
    have d3 := d3 false
    have d6 := d6 false
    have hw4 : IntKind.i64.wrap ((y.keep : Int) + (a.length : Int)) = ((y.keep + a.length : Nat) : Int) := by rw [wrap_in (by omega) (by omega)]; omega
    have hxk : (x.put a).keep ≤ szM (x.put a) := by unfold szM; omega
    have hw5 : IntKind.i64.wrap (((x.put a).keep : Int) + (b.length : Int)) = (((x.put a).keep + b.length : Nat) : Int) := by rw [wrap_in (by omega) (by omega)]; omega
    have k1 : l.length < 16777216 := by omega
    have k2 : l1.length < 16777216 := by omega
    have k3 : l2.length < 16777216 := by omega
    have k4 : l3.length < 16777216 := by omega
    have hflag := h2.flag
    generalize (x.put a).keep = xk at *
    clear h h1 h2 h3 h4 h5 h6 hp hq hp1 hq1 hx3 hx3' hy4 hy4' hx5 hx5' hy6 hy6' m1 m2 m3 m4 m5 m6 kp kq kx ky kx5 ky6 hsp hsk hap haq hl hx hy hsx hsy hl1 hl2 hl3 hl6 hg1 hg2 hg3 hg6 hkx hky hxk ePuts
    refine burst ?_
    refine sCall_does d1 ?_
    refine burst ?_
    refine sCall_does d2 ?_
    refine burst ?_
    refine sCall_does d3 ?_
    refine burst ?_
    refine sCall_does d6 ?_
    refine burst ?_
    exact ⟨_, rfl, rfl⟩
  | false =>
    have ePuts : TP.puts false ⟨p, q, x, y⟩ = ⟨(TP.rowPut p).2, (TP.rowPut q).2, (x.kept (TP.rowPut q).1.length).put (TP.rowPut p).1, (y.put (TP.rowPut q).1).kept (TP.rowPut p).1.length⟩ := rfl
    rw [ePuts]
    generalize (TP.rowPut p).1 = a at *
    generalize (TP.rowPut q).1 = b at *
    obtain ⟨Fx, hx3, kx⟩ := h2.onY
    obtain ⟨l3, Fx3, d3, hx3', m3⟩ := mput_does l2 by' y Fx b hx3 (by omega) (by omega) (by omega)
    have h3 := kx hx3' m3
    have hl3 := m3.le
    have hg3 := m3.ge
    obtain ⟨Fy, hy4, ky⟩ := h3.onX
    obtain ⟨v4, e4, hy4', m4⟩ := hy4.more b.length
    have h4 := ky hy4' m4
    obtain ⟨Fx5, hx5, kx5⟩ := h4.onY
    obtain ⟨v5, e5, hx5', m5⟩ := hx5.more a.length
    have h5 := kx5 hx5' m5
    obtain ⟨Fy6, hy6, ky6⟩ := h5.onX
    have hsp := szM_put y b
    have hsk := szM_kept x b.length
    obtain ⟨l6, Fy6', d6, hy6', m6⟩ := mput_does _ bx _ Fy6 a hy6 (by simp; omega) (by rw [hsk.2]; omega) (by rw [hsk.1]; omega)
    have h6 := ky6 hy6' m6
    have hl6 := m6.le
    have hg6 := m6.ge
    simp only [List.length_set] at hl6 hg6
    refine ⟨l6, fun d => ?_, h6, by omega, by omega⟩
    refine does_is func309 ntmps309 results309 rfl ?_ tup0_ok
    have d1 := d1 false
    have d2 := d2 false
    have d3 := d3 false
    have d6 := d6 false
    have hw4 : IntKind.i64.wrap ((x.keep : Int) + (b.length : Int)) = ((x.keep + b.length : Nat) : Int) := by rw [wrap_in (by omega) (by omega)]; omega
    have hxk : (y.put b).keep ≤ szM (y.put b) := by unfold szM; omega
    have hw5 : IntKind.i64.wrap (((y.put b).keep : Int) + (a.length : Int)) = (((y.put b).keep + a.length : Nat) : Int) := by rw [wrap_in (by omega) (by omega)]; omega
    have k1 : l.length < 16777216 := by omega
    have k2 : l1.length < 16777216 := by omega
    have k3 : l2.length < 16777216 := by omega
    have k4 : l3.length < 16777216 := by omega
    have hflag := h2.flag
    generalize (y.put b).keep = xk at *
    clear h h1 h2 h3 h4 h5 h6 hp hq hp1 hq1 hx3 hx3' hy4 hy4' hx5 hx5' hy6 hy6' m1 m2 m3 m4 m5 m6 kp kq kx ky kx5 ky6 hsp hsk hap haq hl hx hy hsx hsy hl1 hl2 hl3 hl6 hg1 hg2 hg3 hg6 hkx hky hxk ePuts
    refine burst ?_
    refine sCall_does d1 ?_
    refine burst ?_
    refine sCall_does d2 ?_
    refine burst ?_
    refine sCall_does d3 ?_
    refine burst ?_
    refine sCall_does d6 ?_
    refine burst ?_
    exact ⟨_, rfl, rfl⟩
end Go.Ev
