import Derived.Shelf.Bytes.SlCountOne
import Derived.Test.YtmapfhhdmgmnpaaGreatK07
import Derived.Test.YtmapfhhdmgmnpaaGreatK08
import Derived.Test.YtmapfhhdmgmnpaaGreatK09
import Derived.Test.YtmapfhhdmgmnpaaGreatK11
namespace Go.Ev
open Go Go.Proofs Tryz
open TP (Str Tree Nd Mk)
def wt (p : Bool) (o : GOp) : Nat := if o.kind = 3 then (if p = true then 2 else 3) else 1
def wl (p : Bool) (l : List GOp) : Nat := (l.map (wt p)).sum
theorem wl_append (p : Bool) (l m : List GOp) : wl p (l ++ m) = wl p l + wl p m := by simp [wl]
theorem wl_nil (p : Bool) : wl p [] = 0 := rfl
theorem wl_cons (p : Bool) (o : GOp) (l : List GOp) : wl p (o :: l) = wt p o + wl p l := by simp [wl]
theorem wt_pos (p : Bool) (o : GOp) : 1 ≤ wt p o ∧ wt p o ≤ 3 := by unfold wt; split <;> (try split) <;> omega
theorem wt_bare {p : Bool} {o : GOp} (_ : formG o) : wt p (bareG o) = wt p o := by
  have : (bareG o).kind = o.kind := by unfold bareG; (repeat' split) <;> rfl
  unfold wt; rw [this]
theorem wl_bare {p : Bool} {l : List GOp} (h : ∀ o ∈ l, formG o) : wl p (l.map bareG) = wl p l := by
  unfold wl
  rw [List.map_map]
  congr 1
  exact List.map_congr_left fun o ho => wt_bare (h o ho)
theorem wt_shift {p f : Bool} {a b : GOp} : wt p (shiftG a b f) = wt p a := by
  have : (shiftG a b f).kind = a.kind := by unfold shiftG; (repeat' split) <;> rfl
  unfold wt; rw [this]
theorem wl_row {a b : GOp} {f : Bool} {l : List GOp} {e : Int} (h : RowIs a b f l e) :
    wl f l ≤ wt f a ∨ (a.kind = 2 ∧ b.kind = 3 ∧ a.path <+: b.path ∧ wl f l = 2) ∨ (a.kind = 3 ∧ b.kind = 3 ∧ a.path <+: b.to ∧ b.path <+: a.to ∧ f = true ∧ wl f l = 4) := by
  have h1 := wt_pos f a
  have hs : wl f [shiftG a b f] ≤ wt f a := by rw [wl_cons, wl_nil, wt_shift]; omega
  have hd : ∀ p, wl f [dropG p] ≤ wt f a := fun p => by rw [wl_cons, wl_nil]; show 1 + 0 ≤ _; omega
  have h0 : wl f [] ≤ wt f a := by rw [wl_nil]; omega
  rcases h with ⟨_, rfl, _⟩ | ⟨ht, X, Y, _, rfl, _⟩
  · unfold rowW
    repeat' split
    any_goals first | exact .inl h0 | exact .inl (hd _) | exact .inl hs | skip
    · rename_i h3 h2 q
      exact .inr (.inl ⟨h2, by omega, q.1, rfl⟩)
    · rename_i h3 _ q hf
      refine .inr (.inr ⟨q.1, by omega, q.2.1, q.2.2, hf, ?_⟩)
      subst hf
      rw [wl_cons, wl_cons, wl_nil]
      have : (undoG b).kind = 3 := rfl
      simp [wt, this, q.1]
  · left
    rw [wl_cons, wl_nil]
    have : wt f { a with pieces := if rightG (X.l.map ofP) ∧ rightG (Y.l.map ofP) then X.l.map ofP else [] } = wt f a := rfl
    rw [this]; omega
theorem wl_pair {a b : GOp} {f : Bool} {l l' : List GOp} {e e' : Int} (h : RowIs a b f l e) (h' : RowIs b a (!f) l' e') : (wl f l ≤ wt f a ∧ wl (!f) l' ≤ wt (!f) b) ∨ wl f l + wl (!f) l' < wt f a + wt (!f) b := by
  have nt : ∀ {x y : GOp}, x.kind = 2 ∨ x.kind = 3 → ¬ textG x y := fun h q => by have := q.2.1; omega
  have nt2 : ∀ {x y : GOp}, y.kind = 2 ∨ y.kind = 3 → ¬ textG x y := fun h q => by have := q.1; omega
  have delN : ∀ {x y : GOp} {g : Bool} {m : List GOp} {d : Int}, RowIs y x g m d → x.kind = 2 → x.path <+: y.path → m = [] := fun h k q => by
    rcases h with ⟨_, rfl, _⟩ | ⟨ht, _⟩
    · unfold rowW; rw [if_pos k, if_pos q]
    · exact absurd ht (nt2 (.inl k))
  have cycN : ∀ {x y : GOp} {m : List GOp} {d : Int}, RowIs y x false m d → x.kind = 3 → y.kind = 3 → x.path <+: y.to → y.path <+: x.to → m = [] := @fun x y m d h k k' q q' => by
    rcases h with ⟨_, rfl, _⟩ | ⟨ht, _⟩
    · unfold rowW
      rw [if_neg (by omega)]
      by_cases w : wonG y x
      · rw [if_pos w]; rfl
      · rw [if_neg w, if_neg (by omega), if_neg (by omega), if_pos ⟨k', q', q⟩]; rfl
    · exact absurd ht (nt2 (.inr k))
  have pa := wt_pos f a
  have pb := wt_pos (!f) b
  rcases wl_row h with q | ⟨q1, q2, q3, q4⟩ | ⟨q1, q2, q3, q4, q5, q6⟩
  · rcases wl_row h' with r | ⟨r1, r2, r3, r4⟩ | ⟨r1, r2, r3, r4, r5, r6⟩
    · exact .inl ⟨q, r⟩
    · have := delN h r1 r3
      subst this
      right
      rw [wl_nil, r4]
      unfold wt
      rw [if_pos r2, if_neg (show ¬ b.kind = 3 by omega)]
      split <;> omega
    · have hf : f = false := by simpa using r5
      subst hf
      have := cycN h r1 r2 r3 r4
      subst this
      right
      rw [wl_nil, r6]
      unfold wt
      rw [if_pos r2, if_pos r1]
      simp
  · have := delN h' q1 q3
    subst this
    right
    rw [wl_nil, q4]
    unfold wt
    rw [if_pos q2, if_neg (show ¬ a.kind = 3 by omega)]
    split <;> omega
  · subst q5
    have := cycN h' q1 q2 q3 q4
    subst this
    right
    rw [wl_nil, q6]
    unfold wt
    rw [if_pos q2, if_pos q1]
    simp
theorem sound_ap {o : GOp} {T T' : Tree Nd} (hf : formG o) (h : TP.Ap TP.E0.toData T (absO o) T') : soundG o := by
  refine ⟨hf, fun k => ?_, fun k => ?_⟩
  · rw [abs2 k] at h
    generalize hq : toN o.path = q at h
    cases h with | del _ => intro e; rw [e] at hq; simp [toN] at hq
  · have hto := (form3 hf k).2.nn
    rw [abs3 k] at h
    generalize hq : toN o.path = q at h
    cases h with
    | mov _ hn _ _ _ =>
      refine ⟨fun e => by rw [e] at hq; simp [toN] at hq, fun e => ?_⟩
      rw [← hq] at hn
      exact hn ((toN_prefix hf.1.nn hto).2 e)
def OneR (a b : GOp) (f : Bool) (v : Value) : Prop :=
  v = .tuple #[rowO [], rowO [], .int .i64 3] ∨ ∃ x y, v = .tuple #[rowO x, rowO y, .int .i64 0] ∧ (∀ o ∈ x, okO o) ∧ (∀ o ∈ y, okO o) ∧ TP.beh TP.E0 (absO a) (absO b) f = some (x.map absO) ∧ TP.beh TP.E0 (absO b) (absO a) (!f) = some (y.map absO) ∧
    ((wl f x ≤ wt f a ∧ wl (!f) y ≤ wt (!f) b) ∨ wl f x + wl (!f) y < wt f a + wt (!f) b) ∧ x.length ≤ 2 ∧ y.length ≤ 2
theorem one_fn {a b : GOp} {f : Bool} (ha : okO a) (hb : okO b) (hsa : soundG a) (hsb : soundG b) : ∃ v, OneR a b f v ∧ Fn prog 78 [vOp a, vOp b, .bool f] v := by
  obtain ⟨l, e, l', e', r, r', _, _, c⟩ := both_fn (f := f) ha hb hsa hsb
  refine ⟨_, ?_, c⟩
  have ll : ∀ {x y : GOp} {g : Bool} {m : List GOp} {d : Int}, RowIs x y g m d → m.length ≤ 2 := fun h => by
    rcases h with ⟨_, rfl, _⟩ | ⟨_, _, _, _, rfl, _⟩
    · unfold rowW
      repeat' split
      all_goals simp
    · simp
  split
  · rename_i h
    obtain ⟨⟨h1, h2⟩, h3, h4⟩ := h
    refine .inr ⟨_, _, rfl, fun o ho => ?_, fun o ho => ?_, ?_, ?_, ?_, by simpa using ll r, by simpa using ll r'⟩
    · obtain ⟨o', ho', rfl⟩ := List.mem_map.1 ho
      exact bareG_ok (h2 o' ho')
    · obtain ⟨o', ho', rfl⟩ := List.mem_map.1 ho
      exact bareG_ok (h4 o' ho')
    · rw [row_beh hsb hsa r h1 h2, List.map_map]
      congr 1
      exact (List.map_congr_left fun o ho => bare_abs (h2 o ho)).symm
    · rw [row_beh hsa hsb r' h3 h4, List.map_map]
      congr 1
      exact (List.map_congr_left fun o ho => bare_abs (h4 o ho)).symm
    · rw [wl_bare h2, wl_bare h4]
      exact wl_pair r r'
  · exact .inl rfl
end Go.Ev
namespace Go.Ev
open Go Go.Proofs Tryz
open TP (Str Tree Nd Mk)
set_option maxRecDepth 100000
set_option maxHeartbeats 4000000
theorem set_last {L : List AB} {Z X : AB} : (L ++ [Z]).set L.length X = L ++ [X] := by simp
theorem Acc.add27 {B l : List AB} {v : Value} {n : Nat} {cs : List Value} (h : Acc 67 11 B l v n cs) (o : GOp) (hl : l.length + 3 < 16777216) (hb : n + 1 ≤ 16777216) :
    ∃ v' l', aappend prog (Ev.mk (l ++ [AB.cells (opC o) 67 (0, 0)])) #[27, 27] [v, .slice (some ⟨l.length, 0, none⟩) 1 1] = some (v', Ev.mk l') ∧ Acc 67 11 B l' v' (n + 1) (cs ++ opC o) ∧ l'.length ≤ l.length + 2 := by
  have n1 : News prog (l ++ [AB.cells (opC o) 67 (0, 0)]) 67 11 false (.slice (some ⟨l.length, 0, none⟩) 1 1) (opC o) 1 := news_arr (fz := (0, 0)) (e := 67) (cs := opC o) (by simp; omega) (by simp) rfl rfl
  obtain ⟨v', l', e, o, g⟩ := (h.more (AB.cells (opC o) 67 (0, 0))).app27 n1 (by simp; omega) hb
  exact ⟨v', l', e, o, by simp at g; omega⟩
def zC : AB := AB.cells [.int .u8 0, .slice none 0 0, .int .i64 0, .slice none 0 0, .int .u64 0, .bool false, .string ⟨#[]⟩, .string ⟨#[]⟩, .string ⟨#[]⟩, .bool false, .slice none 0 0] 67 (0, 0)
theorem bareL_fn (l : List GOp) (hs : ∀ o ∈ l, sizeO o) (hlen : l.length ≤ 100000) : Fn prog 34 [rowO l] (rowO (l.map bareG)) := by
  refine fn_is func34 ntmps34 results34 rfl cfgOK mixed (cl1 (rowO_clean l)) ?_
  refine burst ?_
  refine W_for l.length (fun i tm A => ∃ L a n, A = mk L ∧ tget tm 6 = rowO l ∧ tget tm 7 = .int .i64 l.length ∧ tget tm 8 = .int .i64 i ∧ tget tm 3 = .slice a i n ∧ Hid (Acc 67 11 [] L (.slice a i n) i (((l.take i).map bareG).flatMap opC)) ∧ L.length ≤ 3 * i) ?_ 0 _ _ (by omega)
    ⟨[], none, 0, rfl, look, look, look, look, ⟨.nil⟩, by simp⟩
  rintro i tm A hi ⟨L, a, n, rfl, h6, h7, h8, h3, ho, hL⟩ next
  replace next := Hid.mk next
  have k1 : L.length < 16777216 := by omega
  have k2 : L.length + 2 < 16777216 := by omega
  have k3 : L.length + 1 < 16777216 := by omega
  have k4 : L.length + 1 + 2 < 16777216 := by omega
  refine burst ?_
  refine ifD (fun q => ?_) (fun q => ?_)
  · obtain ⟨x, e1⟩ : ∃ x, l[i]? = some x := ⟨_, get_some q⟩
    have hx := hs x (List.mem_of_getElem? e1)
    have c := bare_fn x (by have := hx.1; omega) (by have := hx.2.1; omega) (by have := hx.2.2; omega)
    have hw := wrap_succ (Nat.le_of_lt q) (by omega)
    have htk : ((l.take (i + 1)).map bareG).flatMap opC = ((l.take i).map bareG).flatMap opC ++ opC (bareG x) := by
      rw [List.take_add_one, e1]; simp
    have hA : Acc 67 11 [] ((L ++ [zC]).set L.length (AB.cells (opC x) 67 (0, 0))) (.slice a i n) i (((l.take i).map bareG).flatMap opC) := by
      rw [set_last]; exact ho.out.more _
    obtain ⟨v', L', e, o, g⟩ := hA.add27 (bareG x) (by simp; omega) (by omega)
    rw [← htk] at o
    obtain ⟨a', n', hv⟩ := o.own.slice
    subst hv
    have g2 : (L ++ [zC])[L.length]? = some zC := by simp
    simp only [List.length_set, List.length_append, List.length_cons, List.length_nil] at e g
    generalize bareG x = x' at *
    simp only [zC, opC] at e g2
    simp only [vOp, opC] at c
    clear hA htk hx ho
    replace o := Hid.mk o
    refine burst ?_
    refine sCall_fn c ?_
    refine burst ?_
    exact next.out _ _ q ⟨L', a', n', rfl, look, look, look, look, o, by omega⟩
  · have hii : i = l.length := by omega
    subst hii
    clear next
    refine burst ?_
    refine ends (v := rowO (l.map bareG)) ?_ rfl
    have := ho.out.frz k1 (fun _ _ => rfl) (row_clean opC_clean _)
    rw [List.take_length] at this
    show Frz _ (Value.slice a l.length n) (frow (l.map bareG).length ((l.map bareG).flatMap opC))
    rw [List.length_map]; exact this
end Go.Ev
namespace Go.Ev
open Go Go.Proofs Tryz
open TP (Str Tree Nd Mk)
set_option maxRecDepth 100000
set_option maxHeartbeats 4000000
abbrev rowLs (m : List (List GOp)) : Value := frow m.length (m.map rowO)
theorem rowLs_clean (m : List (List GOp)) : clean (rowLs m) = true := by
  refine clean_frow ?_
  induction m with
  | nil => rfl
  | cons x m ih => rw [List.map_cons]; exact cleanL_cons (rowO_clean x) ih
theorem much1_fn (l : List GOp) : Fn prog 145 [rowO l] (.bool (decide (4096 < l.length))) := by
  refine fn_is func145 ntmps145 results145 rfl cfgOK mixed (cl1 (rowO_clean l)) ?_
  refine burst ?_
  refine ends_bool ?_
  congr 1
  exact propext ⟨fun h => by omega, fun h => by omega⟩
def bigL (l : List GOp) : Bool := decide (4096 < l.length)
theorem index41_fn (m : List (List GOp)) (hm : m.length < 4294967296) : Fn prog 219 [rowLs m, .func (.func 145) #[] #[]] (.int .i64 (match m.findIdx? bigL with | some i => (i : Int) | none => -1)) := by
  refine fn_is func219 ntmps219 results219 rfl cfgOK mixed (cl2 (rowLs_clean m) rfl) ?_
  refine burst ?_
  refine W_for m.length (fun i tm A => A = mk [] ∧ tget tm 0 = rowLs m ∧ tget tm 1 = .func (.func 145) #[] #[] ∧ tget tm 7 = .int .i64 m.length ∧ tget tm 8 = .int .i64 i ∧ ∀ x ∈ m.take i, bigL x = false) ?_ 0 _ _ (by omega) ⟨rfl, look, look, look, look, by simp⟩
  rintro i tm A hi ⟨rfl, h0, h1, h7, h8, hf⟩ next
  refine burst ?_
  refine sIf_intro (fun h2 => ?_) (fun h2 => ?_)
  · have hi1 : i < m.length := of_decide_eq_true h2
    have e1 : (m.map rowO)[i]? = some (rowO m[i]) := by simp [hi1]
    have c := much1_fn m[i]
    have hb : bigL m[i] = decide (4096 < m[i].length) := rfl
    have hmem : ∀ j (hj : j < i), bigL m[j] = false := fun j hj => hf m[j] (by rw [List.mem_take_iff_getElem]; exact ⟨j, by omega, rfl⟩)
    replace hmem := Hid.mk hmem
    have hget := Hid.mk (get_some hi1)
    rw [← hb] at c
    replace hb := Hid.mk hb
    have hfi := Hid.mk hf
    clear hf
    generalize hz : m[i] = z at *
    replace hz := Hid.mk hz
    generalize hq : bigL z = q at *
    cases q with
    | true =>
      refine burst ?_
      refine sCall_fn c ?_
      refine burst ?_
      refine ends (.clean rfl) ?_
      have : m.findIdx? bigL = some i := by
        rw [List.findIdx?_eq_some_iff_getElem]
        exact ⟨hi1, by rw [hz.out]; exact hq, fun j hj => by rw [hmem.out j hj]; simp⟩
      rw [this]; rfl
    | false =>
      have hw := wrap_succ (Nat.le_of_lt hi1) (by omega)
      refine burst ?_
      refine sCall_fn c ?_
      refine burst ?_
      refine next _ _ hi1 ⟨rfl, look, look, look, look, ?_⟩
      intro x hx
      rw [List.take_add_one, hget.out] at hx
      simp only [Option.toList, List.mem_append, List.mem_singleton] at hx
      rcases hx with hx | rfl
      · exact hfi.out x hx
      · exact hq
  · refine burst ?_
    refine ends (.clean rfl) ?_
    have hi1 : ¬ i < m.length := of_decide_eq_false h2
    rw [List.take_of_length_le (by omega)] at hf
    have : m.findIdx? bigL = none := by
      rw [List.findIdx?_eq_none_iff]; exact hf
    rw [this]; rfl
theorem contains41_fn (m : List (List GOp)) (hm : m.length < 4294967296) : Fn prog 144 [rowLs m, .func (.func 145) #[] #[]] (.bool (m.any bigL)) := by
  refine fn_is func144 ntmps144 results144 rfl cfgOK mixed (cl2 (rowLs_clean m) rfl) ?_
  refine burst ?_
  refine sCall_fn (index41_fn m hm) ?_
  refine burst ?_
  refine ends frz_bool ?_
  cases h : m.findIdx? bigL with
  | none =>
    rw [List.findIdx?_eq_none_iff] at h
    have : m.any bigL = false := by rw [List.any_eq_false]; intro x hx; simpa using h x hx
    rw [this]; rfl
  | some i =>
    have h2 := h
    rw [List.findIdx?_eq_some_iff_getElem] at h2
    obtain ⟨h3, h4, _⟩ := h2
    have : m.any bigL = true := by rw [List.any_eq_true]; exact ⟨m[i], List.getElem_mem h3, h4⟩
    rw [this]; simp
theorem much_fn (x y : List GOp) : Fn prog 77 [rowLs [x, y]] (.bool (decide (4096 < x.length ∨ 4096 < y.length))) := by
  refine fn_is func77 ntmps77 results77 rfl cfgOK mixed (cl1 (rowLs_clean _)) ?_
  have c := contains41_fn [x, y] (by simp)
  have e : [x, y].any bigL = decide (4096 < x.length ∨ 4096 < y.length) := by simp [bigL]
  rw [e] at c
  replace e := Hid.mk e
  generalize decide (4096 < x.length ∨ 4096 < y.length) = b at *
  refine burst ?_
  refine sCall_fn c ?_
  refine burst ?_
  exact ends frz_bool rfl
end Go.Ev
namespace Go.Ev
open Go Go.Proofs Tryz
open TP (Str Tree Nd Mk)
set_option maxRecDepth 100000
set_option maxHeartbeats 4000000
theorem calls_is {ns : Nat} {f : FuncId} {fn : Func} {body : Code} {args : List Value} {v : Value} {l : List AB} {rs : Array ResultVar} (hfn : prog.funcs[f]? = some fn) (hns : fn.ntmps = ns) (hrs : fn.results = rs) (hbody : fn.body = some body)
    (h : W prog ns [.code body] (setArgs args 0 .nil) (mk []) fun tm A' => ∃ vs, aresults prog tm A' rs.toList = some vs ∧ tupleOf vs = v ∧ A' = mk l)
    (h1 : args.length ≤ ns := by exact Nat.le_of_ble_eq_true rfl) (h2 : ns < 65535 := by decide) (hok : codeOk body = true := by kernel_rfl) : CallsW prog f args (mk []) v (mk l) := by
  subst hns hrs
  obtain ⟨v0, A', ⟨rfl, rfl⟩, hc⟩ := fn_calls (R := fun v0 A' => v0 = v ∧ A' = mk l) cfgOK mixed hfn hbody h1 h2 hok (by
    obtain ⟨m, hm⟩ := h
    exact ⟨m, hm⟩)
  exact hc
def z67 : Array Value := #[.int .u8 0, .slice none 0 0, .int .i64 0, .slice none 0 0, .int .u64 0, .bool false, .string ⟨#[]⟩, .string ⟨#[]⟩, .string ⟨#[]⟩, .bool false, .slice none 0 0]
def zs27 (n : Nat) : List Value := (Builtin.zeroCells z67 n).toList
theorem zs27_len (n : Nat) : (zs27 n).length = n * 11 := by simp [zs27, Builtin.zeroCells, z67]
theorem z67_at (r : Nat) (h : r < 11) : cellv (z67[r]!) = true ∧ clean (z67[r]!) = true := by
  rcases r with _ | _ | _ | _ | _ | _ | _ | _ | _ | _ | _ | r
  all_goals first | exact ⟨rfl, rfl⟩ | omega
theorem zs27_mem {n : Nat} {v : Value} (h : v ∈ zs27 n) : cellv v = true ∧ clean v = true := by
  unfold zs27 Builtin.zeroCells at h
  rw [Array.toList_map] at h
  obtain ⟨i, _, rfl⟩ := List.mem_map.1 h
  exact z67_at (i % 11) (Nat.mod_lt _ (by decide))
theorem cleanL_mem : ∀ {l : List Value}, (∀ v ∈ l, clean v = true) → cleanL l = true
  | [], _ => rfl
  | v :: l, h => cleanL_cons (h v (by simp)) (cleanL_mem fun w hw => h w (by simp [hw]))
theorem zs27_clean (n : Nat) : cleanL (zs27 n) = true := cleanL_mem fun _ h => (zs27_mem h).2
theorem zs27_cellv (n : Nat) : (zs27 n).all cellv = true := List.all_eq_true.2 fun _ h => (zs27_mem h).1
theorem news_zs (l : List AB) (n : Nat) (h : n ≤ 16777216) : News prog l 67 11 true (.int .i64 n) (zs27 n) n := by
  refine ⟨?_, zs27_len n, zs27_cellv n⟩
  unfold newCells
  rw [if_pos rfl, nat_cast, zr67]
  simp only
  rw [if_neg (by omega)]
  split
  · rename_i h0
    have : n = 0 := by omega
    subst this; simp [zs27, Builtin.zeroCells]
  · rfl
theorem sNilSlice {c : Bool} {ns ty : Nat} {ops rest : List Oper} {k : List Item} {tm : Trie Value} {A : AS} {Q : Trie Value → AS → Prop} {dst : Option Tmp} {pos : String} {after : Array Edge} {x y : Operand} (hx : ev tm x = .slice none 0 0) (hy : ev tm y = .int .i64 0)
    (K : wRun prog c ns ops rest k (putD ns tm dst (.slice none 0 0)) A Q) :
    sSome prog c ns (aBare prog tm ⟨dst, .slice 27 x none (some y) none, ty, pos, after, none⟩ A) dst ops rest k tm Q := by
  have e : aBare prog tm ⟨dst, .slice 27 x none (some y) none, ty, pos, after, none⟩ A = some (.slice none 0 0, A) := by
    unfold aBare
    have h1 : (opsL (Op.slice 27 x none (some y) none)).all (fun z => bare (ev tm z)) = true := by
      simp only [opsL, List.all_cons, List.all_append, Option.toList, List.all_nil, hx, hy]; rfl
    rw [if_pos h1]
    have h2 : pureRun prog (execOp (ev tm) ⟨dst, .slice 27 x none (some y) none, ty, pos, after, none⟩) = some (Next.value (.slice none 0 0)) := by
      show pureRun prog ((Instr.sliceAt 27 (ev tm x) none (some (ev tm y)) none) >>= fun v => pure (Next.value v)) = _
      rw [hx, hy, pureRun_bind]
      have : pureRun prog (Instr.sliceAt 27 (.slice none 0 0) none (some (.int .i64 0)) none) = some (.slice none 0 0) := by kernel_rfl
      rw [this]; rfl
    rw [h2]; rfl
  rw [e, sSome_some]; exact K
theorem aslice_zero {n : Nat} : aslice ⟨0, 0, none⟩ 11 n (big + n) none (some (.int .i64 ((0 : Nat) : Int))) none = some (.slice (some ⟨0, 0, none⟩) 0 (big + n)) := by
  have e : nat? (.int .i64 ((0 : Nat) : Int)) = some 0 := rfl
  simp only [aslice, optNat, optMax, e]
  rw [if_neg (by simp)]
  simp [Addr.add]
theorem grow_calls (n : Nat) (h0 : 0 < n) (h1 : n ≤ 100000) : CallsW prog 135 [.slice none 0 0, .int .i64 n] (mk []) (.slice (some ⟨0, 0, none⟩) 0 (big + n)) (mk [AB.grown (zs27 n) 67 11]) := by
  refine calls_is func135 ntmps135 results135 rfl ?_
  have hcap := @wo_cap
  have ec : aCap prog #[27] [.slice none 0 0] = some (.int .i64 0) := by kernel_rfl
  have hw0 : IntKind.i64.wrap ((0 : Int) - ((0 : Nat) : Int)) = 0 := by decide
  have hw : IntKind.i64.wrap ((n : Int) - 0) = (n : Int) := by rw [Int.sub_zero]; exact wrap_in (by omega) (by omega)
  have es : aSliceD prog (some (.slice 67)) (.slice none 0 0) none (some (.int .i64 0)) none = none := by kernel_rfl
  have ea : aappend prog (mk []) #[27, 3] [.slice none 0 0, .int .i64 n] = some (.slice (some ⟨0, 0, none⟩) n (big + n), mk [AB.grown (zs27 n) 67 11]) := by
    obtain ⟨v', l', q, ho, _, h3, _, _⟩ := append_own (l := []) (at_ := #[27, 3]) (by rfl) underlying27 iz3 type67 zr67 (by kernel_rfl) (by decide) (by decide) (by simp) .nil (news_zs [] n (by omega)) (by omega)
    rw [Nat.zero_add] at ho
    obtain ⟨b, rfl, hb, _⟩ := own_pos ho h0
    have hlt := (List.getElem?_eq_some_iff.1 hb).1
    simp only [List.length_nil] at h3
    have hb0 : b = 0 := by omega
    subst hb0
    have hl1 : l' = [AB.grown (zs27 n) 67 11] := by
      match l', h3, hb with
      | [x], _, hb => simp at hb; rw [hb]; rfl
    rw [hl1] at q
    exact q
  have e2 := @aslice_zero n
  refine burst ?_
  refine ifD (fun h => absurd h (by omega)) (fun _ => ?_)
  refine burst ?_
  refine ifD (fun _ => ?_) (fun h => absurd h (by omega))
  refine burst ?_
  refine sNilSlice seen seen ?_
  refine burst ?_
  exact ⟨_, rfl, rfl⟩
theorem grow_does (n : Nat) (h0 : 0 < n) (h1 : n ≤ 100000) (l : List AB) (hl : l.length + 2 < 16777216) : Does prog (.call 135 [.slice none 0 0, .int .i64 n] false) (mk l) (.slice (some ⟨l.length, 0, none⟩) 0 (big + n)) (mk (l ++ [AB.grown (zs27 n) 67 11])) := by
  have hc := grow_calls n h0 h1
  rw [← mk_nil] at hc
  have hpd := mk_pend l
  have hroom : (mk l).next + 2 < 2 ^ 24 := by rw [mk_next]; omega
  have hd := does_own (A := mk l) (v := .slice (some ⟨0, 0, none⟩) 0 (big + n)) (v' := .slice (some ⟨l.length, 0, none⟩) 0 (big + n)) (b := 0) (ab := .grown (zs27 n) 67 11) (d := false) hc rfl (by rw [mk_get _ _ 0 rfl (by simp)]; rfl) (zs27_clean n) hpd hroom (fun φ ψ w V hE h1 h2 hV => by
    simp only [RV] at hV ⊢
    subst hV
    rw [mk_next] at h1 h2
    simp [renA, renCap, h1, h2]) (by
    simp only [vok]
    rw [AS.ok_iff]
    exact .inl ⟨by show l.length < (mk l).next + 1; rw [mk_next]; omega, by show l.length ∉ (mk l).pend; rw [hpd]; simp⟩)
  rw [mk_put] at hd
  exact hd
end Go.Ev
namespace Go.Ev
open Go Go.Proofs Tryz
open TP (Str Tree Nd Mk)
set_option maxRecDepth 100000
set_option maxHeartbeats 4000000
theorem app_in {cs new : List Value} {k m cap : Nat} {x : Value} (hcs : cs.length = cap * 11) (hk : k + m ≤ cap) (hb : cap ≤ 16777216) (hn : News prog [AB.grown cs 67 11] 67 11 false x new m) :
    aappend prog (mk [AB.grown cs 67 11]) #[27, 27] [.slice (some ⟨0, 0, none⟩) k (big + cap), x] = some (.slice (some ⟨0, 0, none⟩) (k + m) (big + cap), mk [AB.grown (splice cs (k * 11) new) 67 11]) := by
  have hl := hn.len
  have e0 : aappend prog (mk [AB.grown cs 67 11]) #[27, 27] [.slice (some ⟨0, 0, none⟩) k (big + cap), x] = append1 prog (mk [AB.grown cs 67 11]) 67 false (.slice (some ⟨0, 0, none⟩) k (big + cap)) x := by
    unfold aappend
    have h0 : (#[27, 27] : Array TypeId)[0]? = some 27 := rfl
    have i27 : isZeros prog (#[27, 27] : Array TypeId)[1]? = some false := iz27
    rw [h0]
    simp only
    rw [underlying27, i27]
  have h5 : (Value.agg #[.int .u8 0, .slice none 0 0, .int .i64 0, .slice none 0 0, .int .u64 0, .bool false, .string ⟨#[]⟩, .string ⟨#[]⟩, .string ⟨#[]⟩, .bool false, .slice none 0 0]).cells.toList.length = t67.size := rfl
  have hi : prog.info? 67 = some t67 := type67
  rw [e0]
  unfold append1
  rw [hi, zr67]
  simp only
  rw [if_pos h5]
  have hs : t67.size = 11 := rfl
  have hbt : ¬ t67.bytes > 4096 := by decide
  rw [hs, hn.cells]
  simp only
  rw [if_neg (by omega)]
  unfold appendAt
  rw [if_neg (by simp), if_pos (show k + m ≤ (if big + cap < big then big + cap else big + cap - big) by rw [if_neg (by omega)]; omega)]
  rw [setCells_mk (by simp) hn.cv]
  simp only [List.getElem?_cons_zero, setO_grown]
  rw [if_pos (by omega), Nat.zero_add]
  rfl
theorem splice_two {cs a b : List Value} {n : Nat} (h : cs.length = a.length + b.length) (hn : n = a.length) : splice (splice cs 0 a) n b = a ++ b := by
  subst hn
  unfold splice
  simp only [List.take_zero, List.nil_append, Nat.zero_add]
  rw [List.take_left, List.drop_of_length_le (by simp; omega), List.append_nil]
theorem grow0_fn : Fn prog 135 [.slice none 0 0, .int .i64 ((0 : Nat) : Int)] (.slice none 0 0) := by
  refine fn_is func135 ntmps135 results135 rfl cfgOK mixed rfl ?_
  have hcap := @wo_cap
  have ec : aCap prog #[27] [.slice none 0 0] = some (.int .i64 0) := by kernel_rfl
  have hw0 : IntKind.i64.wrap ((0 : Int) - ((0 : Nat) : Int)) = 0 := by decide
  have hw : IntKind.i64.wrap (((0 : Nat) : Int) - 0) = 0 := by decide
  refine burst ?_
  refine ifD (fun h => absurd h (by omega)) (fun _ => ?_)
  refine burst ?_
  refine ifD (fun h => absurd h (by omega)) (fun _ => ?_)
  refine burst ?_
  exact ends (.clean rfl) rfl
theorem concat_fn (x y : List GOp) (hx : x.length ≤ 10000) (hy : y.length ≤ 10000) : Fn prog 65 [rowLs [x, y]] (rowO (x ++ y)) := by
  refine fn_is func65 ntmps65 results65 rfl cfgOK mixed (cl1 (rowLs_clean _)) ?_
  have i3 : decide ((0 : Int) < ((2 : Nat) : Int)) = true := by decide
  have i4 : decide ((1 : Int) < ((2 : Nat) : Int)) = true := by decide
  have i5 : decide ((2 : Int) < ((2 : Nat) : Int)) = false := by decide
  have iw1 : IntKind.i64.wrap (0 + 1) = 1 := by decide
  have iw2 : IntKind.i64.wrap (1 + 1) = 2 := by decide
  have hw1 : IntKind.i64.wrap (0 + (x.length : Int)) = (x.length : Int) := by rw [Int.zero_add]; exact wrap_in (by omega) (by omega)
  have hw2 : IntKind.i64.wrap ((x.length : Int) + (y.length : Int)) = ((x.length + y.length : Nat) : Int) := by rw [wrap_in (by omega) (by omega)]; omega
  have hd1 : decide ((x.length : Int) < 0) = false := decide_eq_false (by omega)
  have hd2 : decide (((x.length + y.length : Nat) : Int) < 0) = false := decide_eq_false (by omega)
  have c0 := grow0_fn
  by_cases hn : x.length + y.length = 0
  · have h1 : x = [] := List.eq_nil_of_length_eq_zero (by omega)
    have h2 : y = [] := List.eq_nil_of_length_eq_zero (by omega)
    subst h1 h2
    simp only [List.length_nil, Nat.add_zero] at hw1 hw2 hd1 hd2
    have ea : aappend prog (mk []) #[27, 27] [.slice none 0 0, rowO []] = some (.slice none 0 0, mk []) := by kernel_rfl
    clear hn hx hy
    refine burst ?_
    refine W_again ?_
    refine burst ?_
    refine W_again ?_
    refine burst ?_
    refine W_again ?_
    refine burst ?_
    refine sCall_fn c0 ?_
    refine burst ?_
    refine W_again ?_
    refine burst ?_
    refine W_again ?_
    refine burst ?_
    refine W_again ?_
    refine burst ?_
    exact ends .nil rfl
  have c1 := grow_does (x.length + y.length) (by omega) (by omega) [] (by simp)
  have hz := zs27_len (x.length + y.length)
  have hlx := row_length opC_length x
  have hly := row_length opC_length y
  have a1 := app_in (k := 0) (m := x.length) (cap := x.length + y.length) (x := rowO x) (new := x.flatMap opC) hz (by omega) (by omega) (news_row opC_length (fun _ => rfl) x)
  have hsl : (splice (zs27 (x.length + y.length)) (0 * 11) (x.flatMap opC)).length = (x.length + y.length) * 11 := by
    unfold splice; simp only [List.length_append, List.length_take, List.length_drop]; omega
  have a2 := app_in (k := x.length) (m := y.length) (cap := x.length + y.length) (x := rowO y) (new := y.flatMap opC) hsl (by omega) (by omega) (news_row opC_length (fun _ => rfl) y)
  have hsp : splice (splice (zs27 (x.length + y.length)) (0 * 11) (x.flatMap opC)) (x.length * 11) (y.flatMap opC) = (x ++ y).flatMap opC := by
    rw [splice_two (by rw [hlx, hly, hz]; omega) (by rw [hlx]), List.flatMap_append]
  rw [hsp] at a2
  simp only [List.nil_append, List.length_nil, Nat.zero_add] at c1 a1
  clear hn hx hy hz hlx hly hsp hsl c0
  generalize zs27 (x.length + y.length) = z at *
  generalize splice z (0 * 11) (x.flatMap opC) = s1 at *
  refine burst ?_
  refine W_again ?_
  refine burst ?_
  refine W_again ?_
  refine burst ?_
  refine W_again ?_
  refine burst ?_
  refine sCall_does c1 ?_
  refine burst ?_
  refine W_again ?_
  refine burst ?_
  refine W_again ?_
  refine burst ?_
  refine W_again ?_
  refine burst ?_
  refine ends (v := rowO (x ++ y)) ?_ rfl
  show Frz _ (Value.slice (some ⟨0, 0, none⟩) (x.length + y.length) (big + (x.length + y.length))) (frow (x ++ y).length ((x ++ y).flatMap opC))
  rw [List.length_append]
  exact .row rfl (k := ((x ++ y).flatMap opC).length) (by rw [cellsAt_mk (by simp)]; simp only [List.getElem?_cons_zero, cellsO_grown]; unfold part; rw [if_pos (by omega), List.drop_zero, List.take_length]) (.clean (row_clean opC_clean _)) (by split <;> omega)
end Go.Ev
namespace Go.Ev
open Go Go.Proofs Tryz
open TP (Str Tree Nd Mk)
set_option maxRecDepth 100000
set_option maxHeartbeats 4000000
def BrR (us ws : List GOp) (f : Bool) (v : Value) : Prop :=
  v = .tuple #[rowO [], rowO [], .int .i64 3] ∨ ∃ x y, v = .tuple #[rowO x, rowO y, .int .i64 0] ∧ (∀ o ∈ x, okO o) ∧ (∀ o ∈ y, okO o) ∧ x.length ≤ 4096 ∧ y.length ≤ 4096 ∧
    TP.Br TP.E0 f (us.map absO) (ws.map absO) (x.map absO) (y.map absO) ∧ ((wl f x ≤ wl f us ∧ wl (!f) y ≤ wl (!f) ws) ∨ wl f x + wl (!f) y < wl f us + wl (!f) ws)
theorem frz41 {l : List AB} {b : Nat} {x y : List GOp} (hl : l.length < 16777216) (h : l[b]? = some (AB.cells [rowO x, rowO y] 27 (0, 0))) : Frz (mk l) (.slice (some ⟨b, 0, none⟩) 2 2) (rowLs [x, y]) :=
  .row rfl (k := 2) (l := [rowO x, rowO y]) (by rw [cellsAt_mk hl, h]; rfl) (.clean (by simpa using cleanL_cons (rowO_clean x) (cl1 (rowO_clean y)))) (by decide)
section
variable {us ws : List GOp} {f : Bool}
theorem bring0 (h : us = [] ∨ ws = []) (ha : us.length ≤ 4096) (hb : ws.length ≤ 4096) : Fn prog 33 [rowO us, rowO ws, .bool f] (.tuple #[rowO us, rowO ws, .int .i64 0]) := by
  refine fn_is func33 ntmps33 results33 rfl cfgOK mixed (cl3 (rowO_clean us) (rowO_clean ws) rfl) ?_
  have b0 : abuildSlice prog (mk []) 41 2 [(0, rowO us), (1, rowO ws)] = some (.slice (some ⟨0, 0, none⟩) 2 2, mk [AB.cells [rowO us, rowO ws] 27 (0, 0)]) := two41 (by simp)
  have c0 := much_fn us ws
  rw [decide_eq_false (by omega)] at c0
  have fz : FrzL (mk [AB.cells [rowO us, rowO ws] 27 (0, 0)]) [.slice (some ⟨0, 0, none⟩) 2 2] [rowLs [us, ws]] := .cons (frz41 (by simp) rfl) (.clean rfl)
  replace fz := Hid.mk fz
  have i30 : decide ((3 : Int) = 0) = false := by decide
  have i00 : decide ((0 : Int) = 0) = true := by decide
  by_cases h0 : us.length = 0
  · have n1 : decide ((us.length : Int) = 0) = true := decide_eq_true (by omega)
    clear h h0
    refine burst ?_
    refine sCall_bare c0 fz.out rfl ?_
    refine burst ?_
    exact ends (.tuple (.cons (.clean (rowO_clean us)) (.cons (.clean (rowO_clean ws)) (.clean rfl)))) rfl
  · have n1 : decide ((us.length : Int) = 0) = false := decide_eq_false (by omega)
    have n2 : decide ((ws.length : Int) = 0) = true := decide_eq_true (by rcases h with rfl | rfl <;> simp at h0 ⊢)
    clear h h0
    refine burst ?_
    refine sCall_bare c0 fz.out rfl ?_
    refine burst ?_
    exact ends (.tuple (.cons (.clean (rowO_clean us)) (.cons (.clean (rowO_clean ws)) (.clean rfl)))) rfl
theorem bringA1 {a : GOp} {us' : List GOp} (hu : us = a :: us') (hne : us' ≠ []) (hw : 0 < ws.length) (ha : us.length ≤ 4096) (hb : ws.length ≤ 4096) (c1 : Fn prog 33 [rowO [a], rowO ws, .bool f] (.tuple #[rowO [], rowO [], .int .i64 3])) : Fn prog 33 [rowO us, rowO ws, .bool f] (.tuple #[rowO [], rowO [], .int .i64 3]) := by
  refine fn_is func33 ntmps33 results33 rfl cfgOK mixed (cl3 (rowO_clean us) (rowO_clean ws) rfl) ?_
  have b0 : abuildSlice prog (mk []) 41 2 [(0, rowO us), (1, rowO ws)] = some (.slice (some ⟨0, 0, none⟩) 2 2, mk [AB.cells [rowO us, rowO ws] 27 (0, 0)]) := two41 (by simp)
  have c0 := much_fn us ws
  rw [decide_eq_false (by omega)] at c0
  have fz : FrzL (mk [AB.cells [rowO us, rowO ws] 27 (0, 0)]) [.slice (some ⟨0, 0, none⟩) 2 2] [rowLs [us, ws]] := .cons (frz41 (by simp) rfl) (.clean rfl)
  replace fz := Hid.mk fz
  have i30 : decide ((3 : Int) = 0) = false := by decide
  have i00 : decide ((0 : Int) = 0) = true := by decide
  have n1 : decide ((us.length : Int) = 0) = false := decide_eq_false (by rw [hu]; simp; omega)
  have n2 : decide ((ws.length : Int) = 0) = false := decide_eq_false (by omega)
  have n3 : decide ((1 : Int) < (us.length : Int)) = true := decide_eq_true (by have := List.length_pos_iff.2 hne; rw [hu, List.length_cons]; omega)
  have s1 : frPart us.length (us.flatMap opC) 11 0 1 = some (rowO [a]) := by rw [sub_ops rfl, if_pos ⟨by omega, by rw [hu]; simp⟩, hu]; rfl
  have s2 : frPart us.length (us.flatMap opC) 11 1 us.length = some (rowO us') := by
    rw [sub_ops rfl, if_pos ⟨by rw [hu]; simp, Nat.le_refl _⟩, hu]
    simp
  clear hne hw
  replace hu := Hid.mk hu
  refine burst ?_
  refine sCall_bare c0 fz.out rfl ?_
  refine burst ?_
  refine sCall_fn c1 ?_
  refine burst ?_
  refine goto_to rfl ?_
  refine burst ?_
  exact ends (.tuple (.cons .nil (.cons .nil (.clean rfl)))) rfl
theorem bringA2 {a : GOp} {us' : List GOp} (hu : us = a :: us') (hne : us' ≠ []) (hw : 0 < ws.length) (ha : us.length ≤ 4096) (hb : ws.length ≤ 4096) {x y : List GOp} (c1 : Fn prog 33 [rowO [a], rowO ws, .bool f] (.tuple #[rowO x, rowO y, .int .i64 0])) (c2 : Fn prog 33 [rowO us', rowO y, .bool f] (.tuple #[rowO [], rowO [], .int .i64 3])) : Fn prog 33 [rowO us, rowO ws, .bool f] (.tuple #[rowO [], rowO [], .int .i64 3]) := by
  refine fn_is func33 ntmps33 results33 rfl cfgOK mixed (cl3 (rowO_clean us) (rowO_clean ws) rfl) ?_
  have b0 : abuildSlice prog (mk []) 41 2 [(0, rowO us), (1, rowO ws)] = some (.slice (some ⟨0, 0, none⟩) 2 2, mk [AB.cells [rowO us, rowO ws] 27 (0, 0)]) := two41 (by simp)
  have c0 := much_fn us ws
  rw [decide_eq_false (by omega)] at c0
  have fz : FrzL (mk [AB.cells [rowO us, rowO ws] 27 (0, 0)]) [.slice (some ⟨0, 0, none⟩) 2 2] [rowLs [us, ws]] := .cons (frz41 (by simp) rfl) (.clean rfl)
  replace fz := Hid.mk fz
  have i30 : decide ((3 : Int) = 0) = false := by decide
  have i00 : decide ((0 : Int) = 0) = true := by decide
  have n1 : decide ((us.length : Int) = 0) = false := decide_eq_false (by rw [hu]; simp; omega)
  have n2 : decide ((ws.length : Int) = 0) = false := decide_eq_false (by omega)
  have n3 : decide ((1 : Int) < (us.length : Int)) = true := decide_eq_true (by have := List.length_pos_iff.2 hne; rw [hu, List.length_cons]; omega)
  have s1 : frPart us.length (us.flatMap opC) 11 0 1 = some (rowO [a]) := by rw [sub_ops rfl, if_pos ⟨by omega, by rw [hu]; simp⟩, hu]; rfl
  have s2 : frPart us.length (us.flatMap opC) 11 1 us.length = some (rowO us') := by
    rw [sub_ops rfl, if_pos ⟨by rw [hu]; simp, Nat.le_refl _⟩, hu]
    simp
  clear hne hw
  replace hu := Hid.mk hu
  refine burst ?_
  refine sCall_bare c0 fz.out rfl ?_
  refine burst ?_
  refine sCall_fn c1 ?_
  refine burst ?_
  refine sCall_fn c2 ?_
  refine burst ?_
  refine goto_to rfl ?_
  refine burst ?_
  exact ends (.tuple (.cons .nil (.cons .nil (.clean rfl)))) rfl
theorem bringA3 {a : GOp} {us' : List GOp} (hu : us = a :: us') (hne : us' ≠ []) (hw : 0 < ws.length) (ha : us.length ≤ 4096) (hb : ws.length ≤ 4096) {x y z w : List GOp} (c1 : Fn prog 33 [rowO [a], rowO ws, .bool f] (.tuple #[rowO x, rowO y, .int .i64 0])) (c2 : Fn prog 33 [rowO us', rowO y, .bool f] (.tuple #[rowO z, rowO w, .int .i64 0])) (hl : x.length ≤ 4096 ∧ z.length ≤ 4096) : Fn prog 33 [rowO us, rowO ws, .bool f] (if 4096 < (x ++ z).length ∨ 4096 < w.length then .tuple #[rowO [], rowO [], .int .i64 3] else .tuple #[rowO (x ++ z), rowO w, .int .i64 0]) := by
  refine fn_is func33 ntmps33 results33 rfl cfgOK mixed (cl3 (rowO_clean us) (rowO_clean ws) rfl) ?_
  have b0 : abuildSlice prog (mk []) 41 2 [(0, rowO us), (1, rowO ws)] = some (.slice (some ⟨0, 0, none⟩) 2 2, mk [AB.cells [rowO us, rowO ws] 27 (0, 0)]) := two41 (by simp)
  have c0 := much_fn us ws
  rw [decide_eq_false (by omega)] at c0
  have fz : FrzL (mk [AB.cells [rowO us, rowO ws] 27 (0, 0)]) [.slice (some ⟨0, 0, none⟩) 2 2] [rowLs [us, ws]] := .cons (frz41 (by simp) rfl) (.clean rfl)
  replace fz := Hid.mk fz
  have i30 : decide ((3 : Int) = 0) = false := by decide
  have i00 : decide ((0 : Int) = 0) = true := by decide
  have n1 : decide ((us.length : Int) = 0) = false := decide_eq_false (by rw [hu]; simp; omega)
  have n2 : decide ((ws.length : Int) = 0) = false := decide_eq_false (by omega)
  have n3 : decide ((1 : Int) < (us.length : Int)) = true := decide_eq_true (by have := List.length_pos_iff.2 hne; rw [hu, List.length_cons]; omega)
  have s1 : frPart us.length (us.flatMap opC) 11 0 1 = some (rowO [a]) := by rw [sub_ops rfl, if_pos ⟨by omega, by rw [hu]; simp⟩, hu]; rfl
  have s2 : frPart us.length (us.flatMap opC) 11 1 us.length = some (rowO us') := by
    rw [sub_ops rfl, if_pos ⟨by rw [hu]; simp, Nat.le_refl _⟩, hu]
    simp
  clear hne hw
  replace hu := Hid.mk hu
  have b1 : abuildSlice prog (mk [AB.cells [rowO us, rowO ws] 27 (0, 0)]) 41 2 [(0, rowO x), (1, rowO z)] = some (.slice (some ⟨1, 0, none⟩) 2 2, mk [AB.cells [rowO us, rowO ws] 27 (0, 0), AB.cells [rowO x, rowO z] 27 (0, 0)]) := two41 (by simp)
  have c3 := concat_fn x z (by omega) (by omega)
  have fz1 : FrzL (mk (sole [AB.cells [rowO us, rowO ws] 27 (0, 0), AB.cells [rowO x, rowO z] 27 (0, 0)] 1)) [.slice (some ⟨1, 0, none⟩) 2 2] [rowLs [x, z]] := .cons (frz41 (by simp [sole]) rfl) (.clean rfl)
  have b2 : abuildSlice prog (mk [AB.cells [rowO us, rowO ws] 27 (0, 0), AB.dead]) 41 2 [(0, rowO (x ++ z)), (1, rowO w)] = some (.slice (some ⟨2, 0, none⟩) 2 2, mk [AB.cells [rowO us, rowO ws] 27 (0, 0), AB.dead, AB.cells [rowO (x ++ z), rowO w] 27 (0, 0)]) := two41 (by simp)
  have fz2 : FrzL (mk [AB.cells [rowO us, rowO ws] 27 (0, 0), AB.dead, AB.cells [rowO (x ++ z), rowO w] 27 (0, 0)]) [.slice (some ⟨2, 0, none⟩) 2 2] [rowLs [(x ++ z), w]] := .cons (frz41 (by simp) rfl) (.clean rfl)
  have c4 := much_fn (x ++ z) w
  replace fz1 := Hid.mk fz1
  replace fz2 := Hid.mk fz2
  have hl2 : [AB.cells [rowO us, rowO ws] 27 (0, 0), AB.cells [rowO x, rowO z] 27 (0, 0)].length < 16777216 := by simp
  replace hl2 := Hid.mk hl2
  generalize x ++ z = q at *
  by_cases hq : 4096 < q.length ∨ 4096 < w.length
  · rw [if_pos hq]
    rw [decide_eq_true hq] at c4
    clear hq
    refine burst ?_
    refine sCall_bare c0 fz.out rfl ?_
    refine burst ?_
    refine sCall_fn c1 ?_
    refine burst ?_
    refine sCall_fn c2 ?_
    refine burst ?_
    refine sCall_frz 1 hl2.out c3 fz1.out ?_
    refine burst ?_
    refine sCall_bare c4 fz2.out rfl ?_
    refine burst ?_
    exact ends (.tuple (.cons .nil (.cons .nil (.clean rfl)))) rfl
  · rw [if_neg hq]
    rw [decide_eq_false hq] at c4
    clear hq
    refine burst ?_
    refine sCall_bare c0 fz.out rfl ?_
    refine burst ?_
    refine sCall_fn c1 ?_
    refine burst ?_
    refine sCall_fn c2 ?_
    refine burst ?_
    refine sCall_frz 1 hl2.out c3 fz1.out ?_
    refine burst ?_
    refine sCall_bare c4 fz2.out rfl ?_
    refine burst ?_
    exact ends (.tuple (.cons (.clean (rowO_clean q)) (.cons (.clean (rowO_clean w)) (.clean rfl)))) rfl
theorem bringB1 {b : GOp} {ws' : List GOp} (hu : ws = b :: ws') (hne : ws' ≠ []) (hw : us.length = 1) (ha : us.length ≤ 4096) (hb : ws.length ≤ 4096) (c1 : Fn prog 33 [rowO us, rowO [b], .bool f] (.tuple #[rowO [], rowO [], .int .i64 3])) : Fn prog 33 [rowO us, rowO ws, .bool f] (.tuple #[rowO [], rowO [], .int .i64 3]) := by
  refine fn_is func33 ntmps33 results33 rfl cfgOK mixed (cl3 (rowO_clean us) (rowO_clean ws) rfl) ?_
  have b0 : abuildSlice prog (mk []) 41 2 [(0, rowO us), (1, rowO ws)] = some (.slice (some ⟨0, 0, none⟩) 2 2, mk [AB.cells [rowO us, rowO ws] 27 (0, 0)]) := two41 (by simp)
  have c0 := much_fn us ws
  rw [decide_eq_false (by omega)] at c0
  have fz : FrzL (mk [AB.cells [rowO us, rowO ws] 27 (0, 0)]) [.slice (some ⟨0, 0, none⟩) 2 2] [rowLs [us, ws]] := .cons (frz41 (by simp) rfl) (.clean rfl)
  replace fz := Hid.mk fz
  have i30 : decide ((3 : Int) = 0) = false := by decide
  have i00 : decide ((0 : Int) = 0) = true := by decide
  have n1 : decide ((us.length : Int) = 0) = false := decide_eq_false (by omega)
  have n2 : decide ((ws.length : Int) = 0) = false := decide_eq_false (by rw [hu]; simp; omega)
  have n3 : decide ((1 : Int) < (us.length : Int)) = false := decide_eq_false (by omega)
  have n4 : decide ((1 : Int) < (ws.length : Int)) = true := decide_eq_true (by have := List.length_pos_iff.2 hne; rw [hu, List.length_cons]; omega)
  have s1 : frPart ws.length (ws.flatMap opC) 11 0 1 = some (rowO [b]) := by rw [sub_ops rfl, if_pos ⟨by omega, by rw [hu]; simp⟩, hu]; rfl
  have s2 : frPart ws.length (ws.flatMap opC) 11 1 ws.length = some (rowO ws') := by
    rw [sub_ops rfl, if_pos ⟨by rw [hu]; simp, Nat.le_refl _⟩, hu]
    simp
  clear hne hw
  replace hu := Hid.mk hu
  refine burst ?_
  refine sCall_bare c0 fz.out rfl ?_
  refine burst ?_
  refine sCall_fn c1 ?_
  refine burst ?_
  refine goto_to rfl ?_
  refine burst ?_
  exact ends (.tuple (.cons .nil (.cons .nil (.clean rfl)))) rfl
theorem bringB2 {b : GOp} {ws' : List GOp} (hu : ws = b :: ws') (hne : ws' ≠ []) (hw : us.length = 1) (ha : us.length ≤ 4096) (hb : ws.length ≤ 4096) {x y : List GOp} (c1 : Fn prog 33 [rowO us, rowO [b], .bool f] (.tuple #[rowO x, rowO y, .int .i64 0])) (c2 : Fn prog 33 [rowO x, rowO ws', .bool f] (.tuple #[rowO [], rowO [], .int .i64 3])) : Fn prog 33 [rowO us, rowO ws, .bool f] (.tuple #[rowO [], rowO [], .int .i64 3]) := by
  refine fn_is func33 ntmps33 results33 rfl cfgOK mixed (cl3 (rowO_clean us) (rowO_clean ws) rfl) ?_
  have b0 : abuildSlice prog (mk []) 41 2 [(0, rowO us), (1, rowO ws)] = some (.slice (some ⟨0, 0, none⟩) 2 2, mk [AB.cells [rowO us, rowO ws] 27 (0, 0)]) := two41 (by simp)
  have c0 := much_fn us ws
  rw [decide_eq_false (by omega)] at c0
  have fz : FrzL (mk [AB.cells [rowO us, rowO ws] 27 (0, 0)]) [.slice (some ⟨0, 0, none⟩) 2 2] [rowLs [us, ws]] := .cons (frz41 (by simp) rfl) (.clean rfl)
  replace fz := Hid.mk fz
  have i30 : decide ((3 : Int) = 0) = false := by decide
  have i00 : decide ((0 : Int) = 0) = true := by decide
  have n1 : decide ((us.length : Int) = 0) = false := decide_eq_false (by omega)
  have n2 : decide ((ws.length : Int) = 0) = false := decide_eq_false (by rw [hu]; simp; omega)
  have n3 : decide ((1 : Int) < (us.length : Int)) = false := decide_eq_false (by omega)
  have n4 : decide ((1 : Int) < (ws.length : Int)) = true := decide_eq_true (by have := List.length_pos_iff.2 hne; rw [hu, List.length_cons]; omega)
  have s1 : frPart ws.length (ws.flatMap opC) 11 0 1 = some (rowO [b]) := by rw [sub_ops rfl, if_pos ⟨by omega, by rw [hu]; simp⟩, hu]; rfl
  have s2 : frPart ws.length (ws.flatMap opC) 11 1 ws.length = some (rowO ws') := by
    rw [sub_ops rfl, if_pos ⟨by rw [hu]; simp, Nat.le_refl _⟩, hu]
    simp
  clear hne hw
  replace hu := Hid.mk hu
  refine burst ?_
  refine sCall_bare c0 fz.out rfl ?_
  refine burst ?_
  refine sCall_fn c1 ?_
  refine burst ?_
  refine sCall_fn c2 ?_
  refine burst ?_
  refine goto_to rfl ?_
  refine burst ?_
  exact ends (.tuple (.cons .nil (.cons .nil (.clean rfl)))) rfl
theorem bringB3 {b : GOp} {ws' : List GOp} (hu : ws = b :: ws') (hne : ws' ≠ []) (hw : us.length = 1) (ha : us.length ≤ 4096) (hb : ws.length ≤ 4096) {x y z w : List GOp} (c1 : Fn prog 33 [rowO us, rowO [b], .bool f] (.tuple #[rowO x, rowO y, .int .i64 0])) (c2 : Fn prog 33 [rowO x, rowO ws', .bool f] (.tuple #[rowO z, rowO w, .int .i64 0])) (hl : y.length ≤ 4096 ∧ w.length ≤ 4096) : Fn prog 33 [rowO us, rowO ws, .bool f] (if 4096 < z.length ∨ 4096 < (y ++ w).length then .tuple #[rowO [], rowO [], .int .i64 3] else .tuple #[rowO z, rowO (y ++ w), .int .i64 0]) := by
  refine fn_is func33 ntmps33 results33 rfl cfgOK mixed (cl3 (rowO_clean us) (rowO_clean ws) rfl) ?_
  have b0 : abuildSlice prog (mk []) 41 2 [(0, rowO us), (1, rowO ws)] = some (.slice (some ⟨0, 0, none⟩) 2 2, mk [AB.cells [rowO us, rowO ws] 27 (0, 0)]) := two41 (by simp)
  have c0 := much_fn us ws
  rw [decide_eq_false (by omega)] at c0
  have fz : FrzL (mk [AB.cells [rowO us, rowO ws] 27 (0, 0)]) [.slice (some ⟨0, 0, none⟩) 2 2] [rowLs [us, ws]] := .cons (frz41 (by simp) rfl) (.clean rfl)
  replace fz := Hid.mk fz
  have i30 : decide ((3 : Int) = 0) = false := by decide
  have i00 : decide ((0 : Int) = 0) = true := by decide
  have n1 : decide ((us.length : Int) = 0) = false := decide_eq_false (by omega)
  have n2 : decide ((ws.length : Int) = 0) = false := decide_eq_false (by rw [hu]; simp; omega)
  have n3 : decide ((1 : Int) < (us.length : Int)) = false := decide_eq_false (by omega)
  have n4 : decide ((1 : Int) < (ws.length : Int)) = true := decide_eq_true (by have := List.length_pos_iff.2 hne; rw [hu, List.length_cons]; omega)
  have s1 : frPart ws.length (ws.flatMap opC) 11 0 1 = some (rowO [b]) := by rw [sub_ops rfl, if_pos ⟨by omega, by rw [hu]; simp⟩, hu]; rfl
  have s2 : frPart ws.length (ws.flatMap opC) 11 1 ws.length = some (rowO ws') := by
    rw [sub_ops rfl, if_pos ⟨by rw [hu]; simp, Nat.le_refl _⟩, hu]
    simp
  clear hne hw
  replace hu := Hid.mk hu
  have b1 : abuildSlice prog (mk [AB.cells [rowO us, rowO ws] 27 (0, 0)]) 41 2 [(0, rowO y), (1, rowO w)] = some (.slice (some ⟨1, 0, none⟩) 2 2, mk [AB.cells [rowO us, rowO ws] 27 (0, 0), AB.cells [rowO y, rowO w] 27 (0, 0)]) := two41 (by simp)
  have c3 := concat_fn y w (by omega) (by omega)
  have fz1 : FrzL (mk (sole [AB.cells [rowO us, rowO ws] 27 (0, 0), AB.cells [rowO y, rowO w] 27 (0, 0)] 1)) [.slice (some ⟨1, 0, none⟩) 2 2] [rowLs [y, w]] := .cons (frz41 (by simp [sole]) rfl) (.clean rfl)
  have b2 : abuildSlice prog (mk [AB.cells [rowO us, rowO ws] 27 (0, 0), AB.dead]) 41 2 [(0, rowO z), (1, rowO (y ++ w))] = some (.slice (some ⟨2, 0, none⟩) 2 2, mk [AB.cells [rowO us, rowO ws] 27 (0, 0), AB.dead, AB.cells [rowO z, rowO (y ++ w)] 27 (0, 0)]) := two41 (by simp)
  have fz2 : FrzL (mk [AB.cells [rowO us, rowO ws] 27 (0, 0), AB.dead, AB.cells [rowO z, rowO (y ++ w)] 27 (0, 0)]) [.slice (some ⟨2, 0, none⟩) 2 2] [rowLs [z, (y ++ w)]] := .cons (frz41 (by simp) rfl) (.clean rfl)
  have c4 := much_fn z (y ++ w)
  replace fz1 := Hid.mk fz1
  replace fz2 := Hid.mk fz2
  have hl2 : [AB.cells [rowO us, rowO ws] 27 (0, 0), AB.cells [rowO y, rowO w] 27 (0, 0)].length < 16777216 := by simp
  replace hl2 := Hid.mk hl2
  generalize y ++ w = q at *
  by_cases hq : 4096 < z.length ∨ 4096 < q.length
  · rw [if_pos hq]
    rw [decide_eq_true hq] at c4
    clear hq
    refine burst ?_
    refine sCall_bare c0 fz.out rfl ?_
    refine burst ?_
    refine sCall_fn c1 ?_
    refine burst ?_
    refine sCall_fn c2 ?_
    refine burst ?_
    refine sCall_frz 1 hl2.out c3 fz1.out ?_
    refine burst ?_
    refine sCall_bare c4 fz2.out rfl ?_
    refine burst ?_
    exact ends (.tuple (.cons .nil (.cons .nil (.clean rfl)))) rfl
  · rw [if_neg hq]
    rw [decide_eq_false hq] at c4
    clear hq
    refine burst ?_
    refine sCall_bare c0 fz.out rfl ?_
    refine burst ?_
    refine sCall_fn c1 ?_
    refine burst ?_
    refine sCall_fn c2 ?_
    refine burst ?_
    refine sCall_frz 1 hl2.out c3 fz1.out ?_
    refine burst ?_
    refine sCall_bare c4 fz2.out rfl ?_
    refine burst ?_
    exact ends (.tuple (.cons (.clean (rowO_clean z)) (.cons (.clean (rowO_clean q)) (.clean rfl)))) rfl
theorem bringU {a b : GOp} {v : Value} (c : Fn prog 78 [vOp a, vOp b, .bool f] v) (hv : v = .tuple #[rowO [], rowO [], .int .i64 3] ∨ ∃ x y, v = .tuple #[rowO x, rowO y, .int .i64 0]) (hu : us = [a]) (hw : ws = [b]) : Fn prog 33 [rowO us, rowO ws, .bool f] v := by
  have ha : us.length = 1 := by rw [hu]; rfl
  have hb : ws.length = 1 := by rw [hw]; rfl
  refine fn_is func33 ntmps33 results33 rfl cfgOK mixed (cl3 (rowO_clean us) (rowO_clean ws) rfl) ?_
  have b0 : abuildSlice prog (mk []) 41 2 [(0, rowO us), (1, rowO ws)] = some (.slice (some ⟨0, 0, none⟩) 2 2, mk [AB.cells [rowO us, rowO ws] 27 (0, 0)]) := two41 (by simp)
  have c0 := much_fn us ws
  rw [decide_eq_false (by omega)] at c0
  have fz : FrzL (mk [AB.cells [rowO us, rowO ws] 27 (0, 0)]) [.slice (some ⟨0, 0, none⟩) 2 2] [rowLs [us, ws]] := .cons (frz41 (by simp) rfl) (.clean rfl)
  replace fz := Hid.mk fz
  have i30 : decide ((3 : Int) = 0) = false := by decide
  have i00 : decide ((0 : Int) = 0) = true := by decide
  have n1 : decide ((us.length : Int) = 0) = false := decide_eq_false (by omega)
  have n2 : decide ((ws.length : Int) = 0) = false := decide_eq_false (by omega)
  have n3 : decide ((1 : Int) < (us.length : Int)) = false := decide_eq_false (by omega)
  have n4 : decide ((1 : Int) < (ws.length : Int)) = false := decide_eq_false (by omega)
  have n5 : 0 < us.length := by omega
  have n6 : 0 < ws.length := by omega
  have p1 : part (us.flatMap opC) 0 11 = some (opC a) := by rw [hu]; rfl
  have p2 : part (ws.flatMap opC) 0 11 = some (opC b) := by rw [hw]; rfl
  clear ha hb
  simp only [vOp, opC] at c p1 p2
  replace hu := Hid.mk hu
  replace hw := Hid.mk hw
  rcases hv with rfl | ⟨x, y, rfl⟩
  · refine burst ?_
    refine sCall_bare c0 fz.out rfl ?_
    refine burst ?_
    refine sDraw_free cfgOK (by kernel_rfl) ?_
    refine burst ?_
    refine sCall_fn c ?_
    refine burst ?_
    exact ends (.tuple (.cons (.clean (rowO_clean [])) (.cons (.clean (rowO_clean [])) (.clean rfl)))) rfl
  · refine burst ?_
    refine sCall_bare c0 fz.out rfl ?_
    refine burst ?_
    refine sDraw_free cfgOK (by kernel_rfl) ?_
    refine burst ?_
    refine sCall_fn c ?_
    refine burst ?_
    exact ends (.tuple (.cons (.clean (rowO_clean x)) (.cons (.clean (rowO_clean y)) (.clean rfl)))) rfl
end
end Go.Ev
namespace Go.Ev
open Go Go.Proofs Tryz
open TP (Str Tree Nd Mk)
set_option maxRecDepth 100000
set_option maxHeartbeats 4000000
theorem wl_pos (p : Bool) (l : List GOp) : l.length ≤ wl p l := by
  induction l with
  | nil => simp [wl]
  | cons a l ih => rw [wl_cons, List.length_cons]; have := wt_pos p a; omega
theorem bring_fn (f : Bool) : ∀ (N : Nat) (us ws : List GOp) (T T1 T2 : Tree Nd), wl f us + wl (!f) ws ≤ N → (∀ o ∈ us, okO o) → (∀ o ∈ ws, okO o) → us.length ≤ 4096 → ws.length ≤ 4096 → TP.Wf TP.E0.toData T →
    TP.Aps TP.E0.toData T (us.map absO) T1 → TP.Aps TP.E0.toData T (ws.map absO) T2 → ∃ v, BrR us ws f v ∧ Fn prog 33 [rowO us, rowO ws, .bool f] v := by
  intro N
  induction N with
  | zero =>
    intro us ws T T1 T2 hN _ _ hla hlb _ _ _
    have h1 := wl_pos f us
    have : us = [] := List.eq_nil_of_length_eq_zero (by omega)
    have h2 := wl_pos (!f) ws
    have : ws = [] := List.eq_nil_of_length_eq_zero (by omega)
    subst us ws
    exact ⟨_, .inr ⟨[], [], rfl, by simp, by simp, by simp, by simp, .nilA, .inl ⟨Nat.le_refl _, Nat.le_refl _⟩⟩, bring0 (.inl rfl) hla hlb⟩
  | succ N ih =>
    intro us ws T T1 T2 hN hoa hob hla hlb hw h1 h2
    match us, ws with
    | [], ws => exact ⟨_, .inr ⟨[], ws, rfl, by simp, hob, by simp, hlb, .nilA, .inl ⟨Nat.le_refl _, Nat.le_refl _⟩⟩, bring0 (.inl rfl) hla hlb⟩
    | us, [] => exact ⟨_, .inr ⟨us, [], rfl, hoa, by simp, hla, by simp, .nilB, .inl ⟨Nat.le_refl _, Nat.le_refl _⟩⟩, bring0 (.inr rfl) hla hlb⟩
    | a :: a2 :: us', b :: ws' =>
      have pa := wl_pos f (a2 :: us')
      have pb := wl_pos (!f) (b :: ws')
      have ea : wl f [a] = wt f a := by rw [wl_cons, wl_nil]; rfl
      have ea1 : wl f (a :: a2 :: us') = wt f a + wl f (a2 :: us') := wl_cons _ _ _
      have ta := wt_pos f a
      rw [List.map_cons] at h1
      cases h1 with
      | @cons _ Ta _ _ _ hap hrest =>
        have hone : TP.Aps TP.E0.toData T ([a].map absO) Ta := .cons hap .nil
        obtain ⟨v1, r1, c1⟩ := ih [a] (b :: ws') T Ta T2 (by rw [ea]; simp only [List.length_cons] at pa; omega) (fun o ho => hoa o (by simp at ho; simp [ho])) hob (by simp) hlb hw hone h2
        rcases r1 with rfl | ⟨x, y, rfl, hx, hy, hlx, hly, hB, hwt⟩
        · exact ⟨_, .inl rfl, bringA1 rfl (by simp) (by simp) hla hlb c1⟩
        obtain ⟨R, hy2, hx2⟩ := hB.ends (fun T T' o => TP.Ap.wf) hw hone h2
        have hwa : TP.Wf TP.E0.toData Ta := TP.Ap.wf hw hap
        obtain ⟨v2, r2, c2⟩ := ih (a2 :: us') y Ta T1 R (by omega) (fun o ho => hoa o (by simp only [List.mem_cons] at ho ⊢; exact .inr ho)) hy (by simp only [List.length_cons] at hla ⊢; omega) hly hwa hrest hy2
        rcases r2 with rfl | ⟨z, w, rfl, hz, hw2, hlz, hlw, hB2, hwt2⟩
        · exact ⟨_, .inl rfl, bringA2 rfl (by simp) (by simp) hla hlb c1 c2⟩
        have c3 := bringA3 (f := f) rfl (by simp) (by simp) hla hlb c1 c2 ⟨hlx, hlz⟩
        refine ⟨_, ?_, c3⟩
        split
        · exact .inl rfl
        · rename_i hq
          refine .inr ⟨x ++ z, w, rfl, fun o ho => (List.mem_append.1 ho).elim (hx o) (hz o), hw2, by omega, hlw, ?_, ?_⟩
          · have := TP.Br.appA hB hB2
            rw [List.map_append]
            exact this
          · rw [wl_append, ea1]
            rw [ea] at hwt
            omega
    | [a], b :: b2 :: ws' =>
      have pa := wl_pos f [a]
      have pb := wl_pos (!f) (b2 :: ws')
      have ea : wl (!f) [b] = wt (!f) b := by rw [wl_cons, wl_nil]; rfl
      have ea1 : wl (!f) (b :: b2 :: ws') = wt (!f) b + wl (!f) (b2 :: ws') := wl_cons _ _ _
      have tb := wt_pos (!f) b
      rw [List.map_cons] at h2
      cases h2 with
      | @cons _ Tb _ _ _ hap hrest =>
        have hone : TP.Aps TP.E0.toData T ([b].map absO) Tb := .cons hap .nil
        obtain ⟨v1, r1, c1⟩ := ih [a] [b] T T1 Tb (by rw [ea]; simp only [List.length_cons] at pb; omega) hoa (fun o ho => hob o (by simp at ho; simp [ho])) hla (by simp) hw h1 hone
        rcases r1 with rfl | ⟨x, y, rfl, hx, hy, hlx, hly, hB, hwt⟩
        · exact ⟨_, .inl rfl, bringB1 rfl (by simp) rfl hla hlb c1⟩
        obtain ⟨R, hy2, hx2⟩ := hB.ends (fun T T' o => TP.Ap.wf) hw h1 hone
        have hwb : TP.Wf TP.E0.toData Tb := TP.Ap.wf hw hap
        obtain ⟨v2, r2, c2⟩ := ih x (b2 :: ws') Tb R T2 (by simp only [List.length_cons] at pb pa; omega) hx (fun o ho => hob o (by simp only [List.mem_cons] at ho ⊢; exact .inr ho)) hlx (by simp only [List.length_cons] at hlb ⊢; omega) hwb hx2 hrest
        rcases r2 with rfl | ⟨z, w, rfl, hz, hw2, hlz, hlw, hB2, hwt2⟩
        · exact ⟨_, .inl rfl, bringB2 rfl (by simp) rfl hla hlb c1 c2⟩
        have c3 := bringB3 (f := f) rfl (by simp) rfl hla hlb c1 c2 ⟨hly, hlw⟩
        refine ⟨_, ?_, c3⟩
        split
        · exact .inl rfl
        · rename_i hq
          refine .inr ⟨z, y ++ w, rfl, hz, fun o ho => (List.mem_append.1 ho).elim (hy o) (hw2 o), hlz, by omega, ?_, ?_⟩
          · have := TP.Br.appB hB hB2
            rw [List.map_append]
            exact this
          · rw [wl_append, ea1]
            rw [ea] at hwt
            omega
    | [a], [b] =>
      have fa := hoa a (by simp)
      have fb := hob b (by simp)
      cases h1 with
      | cons ha1 _ =>
        cases h2 with
        | cons hb1 _ =>
          obtain ⟨v, r, c⟩ := one_fn (f := f) fa fb (sound_ap fa.1 ha1) (sound_ap fb.1 hb1)
          refine ⟨v, ?_, bringU c (by rcases r with h | ⟨x, y, h, _⟩; exact .inl h; exact .inr ⟨x, y, h⟩) rfl rfl⟩
          rcases r with h | ⟨x, y, h, hx, hy, hB1, hB2, hwt, hlx, hly⟩
          · exact .inl h
          · exact .inr ⟨x, y, h, hx, hy, by omega, by omega, .one hB1 hB2, by simpa only [wl_cons, wl_nil, Nat.add_zero] using hwt⟩
end Go.Ev
namespace Go.Ev
open Go Go.Proofs Tryz
open TP (Str Tree Nd Mk)
set_option maxRecDepth 100000
set_option maxHeartbeats 4000000
def BothR (us ws : List GOp) (f : Bool) (x y : List GOp) (e : Int) : Prop :=
  (x = [] ∧ y = [] ∧ e = 3) ∨ (e = 0 ∧ (∀ o ∈ x, okO o) ∧ (∀ o ∈ y, okO o) ∧ x.length ≤ 4096 ∧ y.length ≤ 4096 ∧ TP.Br TP.E0 f (us.map absO) (ws.map absO) (x.map absO) (y.map absO))
theorem bare_map {l : List GOp} (h : ∀ o ∈ l, okO o) : (l.map bareG).map absO = l.map absO ∧ ∀ o ∈ l.map bareG, okO o := by
  constructor
  · rw [List.map_map]
    exact List.map_congr_left fun o ho => bare_abs (h o ho).1
  · intro o ho
    obtain ⟨o', ho', rfl⟩ := List.mem_map.1 ho
    exact bareG_ok (h o' ho').1
theorem both10_fn {us ws : List GOp} {f : Bool} {T T1 T2 : Tree Nd} (ha : ∀ o ∈ us, okO o) (hb : ∀ o ∈ ws, okO o) (hla : us.length ≤ 4096) (hlb : ws.length ≤ 4096) (hw : TP.Wf TP.E0.toData T)
    (h1 : TP.Aps TP.E0.toData T (us.map absO) T1) (h2 : TP.Aps TP.E0.toData T (ws.map absO) T2) : ∃ x y e, BothR us ws f x y e ∧ Fn prog 10 [rowO us, rowO ws, .bool f] (.tuple #[rowO x, rowO y, .int .i64 e]) := by
  obtain ⟨v, r, c⟩ := bring_fn f _ us ws T T1 T2 (Nat.le_refl _) ha hb hla hlb hw h1 h2
  have main : ∀ (x y : List GOp) (e : Int), v = .tuple #[rowO x, rowO y, .int .i64 e] → (∀ o ∈ x, okO o) → (∀ o ∈ y, okO o) → x.length ≤ 4096 → y.length ≤ 4096 → Fn prog 10 [rowO us, rowO ws, .bool f] (.tuple #[rowO (x.map bareG), rowO (y.map bareG), .int .i64 e]) := by
    intro x y e hv hx hy hlx hly
    subst hv
    refine fn_is func10 ntmps10 results10 rfl cfgOK mixed (cl3 (rowO_clean us) (rowO_clean ws) rfl) ?_
    have c1 := bareL_fn x (fun o ho => (hx o ho).size) (by omega)
    have c2 := bareL_fn y (fun o ho => (hy o ho).size) (by omega)
    clear r hx hy h1 h2 ha hb
    generalize x.map bareG = x' at *
    generalize y.map bareG = y' at *
    refine burst ?_
    refine sCall_fn c ?_
    refine burst ?_
    refine sCall_fn c1 ?_
    refine burst ?_
    refine sCall_fn c2 ?_
    refine burst ?_
    exact ends (.tuple (.cons (.clean (rowO_clean x')) (.cons (.clean (rowO_clean y')) (.clean rfl)))) rfl
  rcases r with rfl | ⟨x, y, rfl, hx, hy, hlx, hly, hB, _⟩
  · exact ⟨[], [], 3, .inl ⟨rfl, rfl, rfl⟩, main [] [] 3 rfl (by simp) (by simp) (by simp) (by simp)⟩
  · refine ⟨x.map bareG, y.map bareG, 0, .inr ⟨rfl, (bare_map hx).2, (bare_map hy).2, by simpa using hlx, by simpa using hly, ?_⟩, main x y 0 rfl hx hy hlx hly⟩
    rw [(bare_map hx).1, (bare_map hy).1]
    exact hB
theorem behind11_fn {us ws : List GOp} {f : Bool} {T T1 T2 : Tree Nd} (ha : ∀ o ∈ us, okO o) (hb : ∀ o ∈ ws, okO o) (hla : us.length ≤ 4096) (hlb : ws.length ≤ 4096) (hw : TP.Wf TP.E0.toData T)
    (h1 : TP.Aps TP.E0.toData T (us.map absO) T1) (h2 : TP.Aps TP.E0.toData T (ws.map absO) T2) : ∃ x y e, BothR us ws f x y e ∧ Fn prog 11 [rowO us, rowO ws, .bool f] (.tuple #[rowO x, .int .i64 e]) := by
  obtain ⟨x, y, e, r, c⟩ := both10_fn (f := f) ha hb hla hlb hw h1 h2
  refine ⟨x, y, e, r, ?_⟩
  refine fn_is func11 ntmps11 results11 rfl cfgOK mixed (cl3 (rowO_clean us) (rowO_clean ws) rfl) ?_
  clear r h1 h2 ha hb
  refine burst ?_
  refine sCall_fn c ?_
  refine burst ?_
  exact ends (.tuple (.cons (.clean (rowO_clean x)) (.clean rfl))) rfl
theorem joined_fn (x y : List GOp) (hx : x.length ≤ 10000) (hy : y.length ≤ 10000) : Fn prog 12 [rowO x, rowO y] (rowO (x ++ y)) := by
  refine fn_is func12 ntmps12 results12 rfl cfgOK mixed (cl2 (rowO_clean x) (rowO_clean y)) ?_
  obtain ⟨v1, l1, e1, o1, g1⟩ := (Acc.nil (e := 67) (s := 11) (B := [])).app27 (x := rowO x) (news_row opC_length (fun _ => rfl) x) (by simp) (by omega)
  simp only [List.length_nil, List.nil_append, Nat.zero_add] at o1 g1
  obtain ⟨v2, l2, e2, o2, g2⟩ := o1.app27 (x := rowO y) (news_row opC_length (fun _ => rfl) y) (by omega) (by omega)
  have fz := o2.frz (l' := l2) (by omega) (fun _ _ => rfl) (by rw [← List.flatMap_append]; exact row_clean opC_clean _)
  rw [← List.flatMap_append, ← List.length_append] at fz
  replace fz := Hid.mk fz
  obtain ⟨a1, n1, rfl⟩ := o1.own.slice
  obtain ⟨a2, n2, rfl⟩ := o2.own.slice
  have hv : ∀ {i : Nat}, True := trivial
  clear o1 o2 g1 g2 hv
  refine burst ?_
  exact ends fz.out rfl
end Go.Ev
namespace Go.Ev
open Go Go.Proofs Tryz
open TP (Str Tree Nd Mk)
set_option maxRecDepth 100000
set_option maxHeartbeats 4000000
theorem small_fn (l : List GPiece) (hl : l.length ≤ 1000000) : ∃ v, (∃ b, v = .bool b) ∧ Fn prog 27 [rowP l, .int .i64 100] v := by
  refine fn_ex func27 ntmps27 results27 rfl (cl2 (rowP_clean l) rfl) ?_
  have ebool : ∀ {b : Bool} {m : List AB}, ∃ vs v, some [Value.bool b] = some vs ∧ Frz (mk m) (tupleOf vs) v ∧ ∃ b, v = .bool b := fun {b m} => ⟨_, _, rfl, frz_bool, b, rfl⟩
  replace ebool := Hid.mk @ebool
  refine burst ?_
  refine ifD (fun h => ?_) (fun h => ?_)
  · refine burst ?_
    exact ebool.out
  clear h
  refine burst ?_
  refine W_for l.length (fun i tm A => ∃ s : Nat, A = mk [] ∧ tget tm 0 = rowP l ∧ tget tm 1 = .int .i64 100 ∧ tget tm 5 = .int .i64 s ∧ tget tm 6 = .int .i64 i ∧ s ≤ 100) ?_ 0 _ _ (by omega) ⟨0, rfl, look, look, look, look, by omega⟩
  rintro i tm A hi ⟨s, rfl, h0, h1, h5, h6, hs⟩ next
  replace next := Hid.mk next
  refine burst ?_
  refine ifD (fun q => ?_) (fun q => ?_)
  case refine_2 =>
    refine burst ?_
    exact ebool.out
  obtain ⟨x, e1⟩ : ∃ x, l[i]? = some x := ⟨_, get_some q⟩
  have hw := wrap_succ (Nat.le_of_lt q) (by omega)
  refine burst ?_
  refine sDraw_free cfgOK (by kernel_rfl) ?_
  refine burst ?_
  refine if_cut (fun tm A => A = mk [] ∧ tget tm 0 = rowP l ∧ tget tm 1 = .int .i64 100 ∧ tget tm 5 = .int .i64 s ∧ tget tm 6 = .int .i64 i ∧ tget tm 8 = .int .i64 x.drop ∧ ∃ n : Int, 0 ≤ n ∧ tget tm 7 = .int .i64 n) (by kernel_rfl) ?_ ?_
  · intro S hS
    refine ifD (fun h => ?_) (fun h => ?_)
    · refine burst ?_
      exact hS.to ⟨rfl, look, look, look, look, look, 0, by omega, look⟩
    · refine burst ?_
      exact hS.to ⟨rfl, look, look, look, look, look, x.keep, by omega, look⟩
  clear h0 h1 h5 h6
  rintro tm A ⟨rfl, h0, h1, h5, h6, h8, n, hn, h7⟩
  refine burst ?_
  refine if_cut (fun tm A => A = mk [] ∧ tget tm 0 = rowP l ∧ tget tm 1 = .int .i64 100 ∧ tget tm 5 = .int .i64 s ∧ tget tm 6 = .int .i64 i ∧ tget tm 7 = .int .i64 n ∧ ∃ m : Int, 0 ≤ m ∧ tget tm 8 = .int .i64 m) (by kernel_rfl) ?_ ?_
  · intro S hS
    refine ifD (fun h => ?_) (fun h => ?_)
    · refine burst ?_
      exact hS.to ⟨rfl, look, look, look, look, look, 0, by omega, look⟩
    · refine burst ?_
      exact hS.to ⟨rfl, look, look, look, look, look, x.drop, by omega, look⟩
  clear h0 h1 h5 h6 h7 h8
  rintro tm A ⟨rfl, h0, h1, h5, h6, h7, m, hm, h8⟩
  have hw1 : IntKind.i64.wrap (100 - (s : Int)) = 100 - (s : Int) := wrap_in (by omega) (by omega)
  refine burst ?_
  refine guardND (fun q1 => ?_) (fun q1 => ?_)
  · have hw2 : IntKind.i64.wrap (100 - (s : Int) - n) = 100 - (s : Int) - n := wrap_in (by omega) (by omega)
    refine burst ?_
    refine guardND (fun q2 => ?_) (fun q2 => ?_)
    · have hw3 : IntKind.i64.wrap (100 - (s : Int) - n - m) = 100 - (s : Int) - n - m := wrap_in (by omega) (by omega)
      refine burst ?_
      refine ifD (fun q3 => ?_) (fun q3 => ?_)
      · refine burst ?_
        exact ebool.out
      · have hw4 : IntKind.i64.wrap ((s : Int) + n) = (s : Int) + n := wrap_in (by omega) (by omega)
        have hw5 : IntKind.i64.wrap ((s : Int) + n + m) = (s : Int) + n + m := wrap_in (by omega) (by omega)
        have hw6 : IntKind.i64.wrap ((s : Int) + n + m + (x.put.length : Int)) = (((s : Int) + n + m + x.put.length).toNat : Int) := by rw [wrap_in (by omega) (by omega)]; omega
        have hle : ((s : Int) + n + m + x.put.length).toNat ≤ 100 := by omega
        generalize ((s : Int) + n + m + x.put.length).toNat = s' at *
        refine burst ?_
        exact next.out _ _ q ⟨s', rfl, look, look, look, look, hle⟩
    · refine burst ?_
      exact ebool.out
  · refine burst ?_
    exact ebool.out
theorem light7_fn (l : List GOp) : ∃ b, (b = true → lightL l 3 40) ∧ Fn prog 7 [rowO l, .int .i64 3] (.bool b) := by
  have c := lightList_fn l 3 40 (by omega) (by omega)
  by_cases hL : lightL l 3 40
  case neg =>
    rw [decide_eq_false hL] at c
    refine ⟨false, by simp, ?_⟩
    refine fn_is func7 ntmps7 results7 rfl cfgOK mixed (cl2 (rowO_clean l) rfl) ?_
    refine burst ?_
    refine sCall_fn c ?_
    refine burst ?_
    exact ends frz_bool rfl
  rw [decide_eq_true hL] at c
  have main : ∃ v, (∃ b, v = .bool b) ∧ Fn prog 7 [rowO l, .int .i64 3] v := by
    refine fn_ex func7 ntmps7 results7 rfl (cl2 (rowO_clean l) rfl) ?_
    have ebool : ∀ {b : Bool} {m : List AB}, ∃ vs v, some [Value.bool b] = some vs ∧ Frz (mk m) (tupleOf vs) v ∧ ∃ b, v = .bool b := fun {b m} => ⟨_, _, rfl, frz_bool, b, rfl⟩
    replace ebool := Hid.mk @ebool
    have hlen := hL.1
    refine burst ?_
    refine sCall_fn c ?_
    refine burst ?_
    refine W_for l.length (fun i tm A => A = mk [] ∧ tget tm 0 = rowO l ∧ tget tm 1 = .int .i64 3 ∧ tget tm 5 = .int .i64 i) ?_ 0 _ _ (by omega) ⟨rfl, look, look, look⟩
    rintro i tm A hi ⟨rfl, h0, h1, h5⟩ next
    replace next := Hid.mk next
    refine burst ?_
    refine ifD (fun q => ?_) (fun q => ?_)
    · obtain ⟨x, e1⟩ : ∃ x, l[i]? = some x := ⟨_, get_some q⟩
      have hx := (hL.2 x (List.mem_of_getElem? e1)).1.2.2.2.2.2
      obtain ⟨v, ⟨b, rfl⟩, c2⟩ := small_fn x.pieces (by omega)
      have hw := wrap_succ (Nat.le_of_lt q) (by omega)
      cases b with
      | true =>
        refine burst ?_
        refine sCall_fn c2 ?_
        refine burst ?_
        exact next.out _ _ q ⟨rfl, look, look, look⟩
      | false =>
        refine burst ?_
        refine sCall_fn c2 ?_
        refine burst ?_
        exact ebool.out
    · refine burst ?_
      exact ebool.out
  obtain ⟨v, ⟨b, rfl⟩, h⟩ := main
  exact ⟨b, fun _ => hL, h⟩
end Go.Ev
namespace Go.Ev
open Go Go.Proofs Tryz
open TP (Str Tree Nd Mk)
set_option maxRecDepth 100000
set_option maxHeartbeats 4000000
theorem Tree.ind {α : Type} {P : Tree α → Prop} (h : ∀ T : Tree α, (∀ k ∈ T.kids, P k) → P T) : ∀ T, P T := by
  intro T
  have main : ∀ n, ∀ T : Tree α, SizeOf.sizeOf T ≤ n → P T := by
    intro n
    induction n with
    | zero =>
      intro T hT
      cases T
      simp at hT
    | succ n ih =>
      intro T hT
      refine h T fun k hk => ih k ?_
      cases T with
      | mk d ks =>
        have := List.sizeOf_lt_of_mem (show k ∈ ks from hk)
        simp at hT; omega
  exact main _ T (Nat.le_refl _)
def WtR (n : Nat) (T : Tree Nd) (v : Value) : Prop := ∃ r : Nat, v = .int .i64 r ∧ 1 ≤ r ∧ r ≤ 4 * n + 2 ∧ (r ≤ n → bT n n T)
theorem weight_fn : ∀ (T : Tree Nd) (n : Nat), n ≤ 1000 → ∃ v, WtR n T v ∧ Fn prog 6 [vNode T, .int .i64 n] v := by
  refine Tree.ind fun T ih => ?_
  intro n hn
  replace ih := Hid.mk ih
  refine fn_ex func6 ntmps6 results6 rfl (cl2 (vNode_clean T) rfl) ?_
  have hw0 : IntKind.i64.wrap ((n : Int) + 1) = ((n + 1 : Nat) : Int) := by rw [wrap_in (by omega) (by omega)]; omega
  have efail : ∀ {m : List AB}, ∃ vs v, some [Value.int .i64 ((n + 1 : Nat) : Int)] = some vs ∧ Frz (mk m) (tupleOf vs) v ∧ WtR n T v := fun {m} => ⟨_, _, rfl, frz_int, n + 1, rfl, by omega, by omega, fun h => absurd h (by omega)⟩
  replace efail := Hid.mk @efail
  have eL : nodeL T = [.int .u64 T.d.id, .bool T.d.leaf, .string (bs T.d.label), rowA T.d.attrs, .string (bs T.d.text), rowK T.kids] := rfl
  refine burst ?_
  refine guard_cut (fun tm A => A = mk [AB.cells (nodeL T) 26 (0, 0)] ∧ tget tm 1 = .int .i64 n ∧ tget tm 2 = .pointer (some ⟨0, 0, none⟩) ∧ tget tm 26 = .bool (!decide (T.d.label.length ≤ n ∧ T.d.text.length ≤ n ∧ T.d.attrs.length ≤ n))) ?_ ?_
  · intro S hS
    (repeat' (first | with_reducible refine ends_bool ?_ | with_reducible refine ends_int ?_ | with_reducible refine ifND (fun _ => ?_) (fun _ => ?_) | with_reducible refine ifD (fun _ => ?_) (fun _ => ?_) | with_reducible refine guardND (fun _ => ?_) (fun _ => ?_) | with_reducible refine guardD (fun _ => ?_) (fun _ => ?_) | with_reducible refine sIf_intro (fun _ => ?_) (fun _ => ?_) | with_reducible refine sGuard_intro (fun _ => ?_) (fun _ => ?_) | with_reducible refine sCall_fn (by assumption) ?_ | with_reducible refine sDraw_seq cfgOK (by kernel_rfl) ?_ | ((first | with_reducible show W _ _ (.code _ :: _) _ _ _ | with_reducible show wRun _ _ _ _ _ _ _ _ _); refine burst ?_)))
    all_goals refine hS.to ⟨by first | rfl | simp only [nodeL, *], look, look, ?_⟩
    all_goals refine Eq.trans look ?_
    all_goals rw [Value.bool.injEq]
    all_goals clear efail ih
    all_goals (rw [Bool.eq_iff_iff]; simp only [Bool.not_eq_true', Bool.false_eq_true, decide_eq_false_iff_not, decide_eq_true_iff, true_iff, false_iff, iff_true]; omega)
  rintro tm A ⟨rfl, h1, h2, h26⟩
  refine burst ?_
  refine ifND (fun h => ?_) (fun h => ?_)
  · refine burst ?_
    exact efail.out
  obtain ⟨hl1, hl2, hl3⟩ := h
  clear h26
  have hw1 : IntKind.i64.wrap (1 + (T.d.label.length : Int)) = 1 + (T.d.label.length : Int) := wrap_in (by omega) (by omega)
  have hw2 : IntKind.i64.wrap (1 + (T.d.label.length : Int) + (T.d.text.length : Int)) = ((1 + T.d.label.length + T.d.text.length : Nat) : Int) := by rw [wrap_in (by omega) (by omega)]; omega
  refine burst ?_
  refine W_for T.d.attrs.length (fun i tm A => ∃ s : Nat, A = mk [AB.cells (nodeL T) 26 (0, 0)] ∧ tget tm 1 = .int .i64 n ∧ tget tm 2 = .pointer (some ⟨0, 0, none⟩) ∧ tget tm 5 = .int .i64 s ∧ tget tm 6 = .int .i64 i ∧ 1 ≤ s ∧ s ≤ 3 * n + 1 ∧ Hid (∀ a ∈ T.d.attrs.take i, a.1.length ≤ n ∧ a.2.length ≤ n)) ?_ 0 _ _ (by omega)
    ⟨1 + T.d.label.length + T.d.text.length, rfl, look, look, look, look, by omega, by omega, ⟨by simp⟩⟩
  clear hw1 hw2 h1 h2
  rintro i tm A hi ⟨s, rfl, h1, h2, h5, h6, hs1, hs2, hat⟩ next
  replace next := Hid.mk next
  refine burst ?_
  refine guard_cut (fun tm A => A = mk [AB.cells (nodeL T) 26 (0, 0)] ∧ tget tm 1 = .int .i64 n ∧ tget tm 2 = .pointer (some ⟨0, 0, none⟩) ∧ tget tm 5 = .int .i64 s ∧ tget tm 6 = .int .i64 i ∧ tget tm 46 = .bool (decide (i < T.d.attrs.length ∧ s ≤ n))) ?_ ?_
  · intro S hS
    (repeat' (first | with_reducible refine ends_bool ?_ | with_reducible refine ends_int ?_ | with_reducible refine ifND (fun _ => ?_) (fun _ => ?_) | with_reducible refine ifD (fun _ => ?_) (fun _ => ?_) | with_reducible refine guardND (fun _ => ?_) (fun _ => ?_) | with_reducible refine guardD (fun _ => ?_) (fun _ => ?_) | with_reducible refine sIf_intro (fun _ => ?_) (fun _ => ?_) | with_reducible refine sGuard_intro (fun _ => ?_) (fun _ => ?_) | with_reducible refine sCall_fn (by assumption) ?_ | with_reducible refine sDraw_seq cfgOK (by kernel_rfl) ?_ | ((first | with_reducible show W _ _ (.code _ :: _) _ _ _ | with_reducible show wRun _ _ _ _ _ _ _ _ _); refine burst ?_)))
    all_goals refine hS.to ⟨by first | rfl | simp only [nodeL, *], look, look, look, look, ?_⟩
    all_goals refine Eq.trans look ?_
    all_goals rw [Value.bool.injEq]
    all_goals clear efail ih next hat
    all_goals (rw [Bool.eq_iff_iff]; simp only [Bool.not_eq_true', Bool.false_eq_true, decide_eq_false_iff_not, decide_eq_true_iff, true_iff, false_iff, iff_true]; omega)
  clear h1 h2 h5 h6
  rintro tm A ⟨rfl, h1, h2, h5, h6, h46⟩
  refine burst ?_
  refine ifD (fun q => ?_) (fun q => ?_)
  · obtain ⟨q1, q2⟩ := q
    obtain ⟨x, e1⟩ : ∃ x, T.d.attrs[i]? = some x := ⟨_, get_some q1⟩
    have hw := wrap_succ (Nat.le_of_lt q1) (by omega)
    clear h46
    refine burst ?_
    refine guard_cut (fun tm A => A = mk [AB.cells (nodeL T) 26 (0, 0)] ∧ tget tm 1 = .int .i64 n ∧ tget tm 2 = .pointer (some ⟨0, 0, none⟩) ∧ tget tm 5 = .int .i64 s ∧ tget tm 6 = .int .i64 i ∧ tget tm 68 = .bool (!decide (x.1.length ≤ n ∧ x.2.length ≤ n))) ?_ ?_
    · intro S hS
      (repeat' (first | with_reducible refine ends_bool ?_ | with_reducible refine ends_int ?_ | with_reducible refine ifND (fun _ => ?_) (fun _ => ?_) | with_reducible refine ifD (fun _ => ?_) (fun _ => ?_) | with_reducible refine guardND (fun _ => ?_) (fun _ => ?_) | with_reducible refine guardD (fun _ => ?_) (fun _ => ?_) | with_reducible refine sIf_intro (fun _ => ?_) (fun _ => ?_) | with_reducible refine sGuard_intro (fun _ => ?_) (fun _ => ?_) | with_reducible refine sCall_fn (by assumption) ?_ | with_reducible refine sDraw_seq cfgOK (by kernel_rfl) ?_ | ((first | with_reducible show W _ _ (.code _ :: _) _ _ _ | with_reducible show wRun _ _ _ _ _ _ _ _ _); refine burst ?_)))
      all_goals refine hS.to ⟨by first | rfl | simp only [nodeL, *], look, look, look, look, ?_⟩
      all_goals refine Eq.trans look ?_
      all_goals rw [Value.bool.injEq]
      all_goals clear efail ih next hat
      all_goals (rw [Bool.eq_iff_iff]; simp only [Bool.not_eq_true', Bool.false_eq_true, decide_eq_false_iff_not, decide_eq_true_iff, true_iff, false_iff, iff_true]; omega)
    clear h1 h2 h5 h6
    rintro tm A ⟨rfl, h1, h2, h5, h6, h68⟩
    refine burst ?_
    refine ifND (fun g => ?_) (fun g => ?_)
    · refine burst ?_
      exact efail.out
    obtain ⟨g1, g2⟩ := g
    have hw1 : IntKind.i64.wrap ((s : Int) + 1) = (s : Int) + 1 := wrap_in (by omega) (by omega)
    have hw2 : IntKind.i64.wrap ((s : Int) + 1 + (x.1.length : Int)) = (s : Int) + 1 + (x.1.length : Int) := wrap_in (by omega) (by omega)
    have hw3 : IntKind.i64.wrap ((s : Int) + 1 + (x.1.length : Int) + (x.2.length : Int)) = ((s + 1 + x.1.length + x.2.length : Nat) : Int) := by rw [wrap_in (by omega) (by omega)]; omega
    clear h68
    refine burst ?_
    refine sDraw_free cfgOK (by kernel_rfl) ?_
    refine burst ?_
    refine next.out _ _ q1 ⟨s + 1 + x.1.length + x.2.length, rfl, look, look, look, look, by omega, by omega, ⟨fun a ha => ?_⟩⟩
    rw [List.take_add_one, e1] at ha
    simp only [Option.toList, List.mem_append, List.mem_singleton] at ha
    rcases ha with ha | rfl
    · exact hat.out a ha
    · exact ⟨g1, g2⟩
  have hat2 : Hid (s ≤ n → ∀ a ∈ T.d.attrs, a.1.length ≤ n ∧ a.2.length ≤ n) := ⟨fun h => by
    have : T.d.attrs.length ≤ i := by omega
    have hat := hat.out
    rw [List.take_of_length_le this] at hat
    exact hat⟩
  clear hat next q h46 h6
  refine burst ?_
  refine W_for T.kids.length (fun j tm A => ∃ s : Nat, A = mk [AB.cells (nodeL T) 26 (0, 0)] ∧ tget tm 1 = .int .i64 n ∧ tget tm 2 = .pointer (some ⟨0, 0, none⟩) ∧ tget tm 5 = .int .i64 s ∧ tget tm 7 = .int .i64 j ∧ 1 ≤ s ∧ s ≤ 4 * n + 2 ∧ (s ≤ n → j ≤ n) ∧ j ≤ n + 1 ∧
      Hid (s ≤ n → (∀ a ∈ T.d.attrs, a.1.length ≤ n ∧ a.2.length ≤ n) ∧ j < s ∧ ∀ k ∈ T.kids.take j, bT n n k)) ?_ 0 _ _ (by omega)
    ⟨s, rfl, look, look, look, look, by omega, by omega, by omega, by omega, ⟨fun h => ⟨hat2.out h, by omega, by simp⟩⟩⟩
  clear h1 h2 h5 hat2 hs1 hs2
  rintro j tm A hj ⟨s, rfl, h1, h2, h5, h7, hs1, hs2, hs3, hs4, hat⟩ next
  replace next := Hid.mk next
  refine burst ?_
  refine guard_cut (fun tm A => A = mk [AB.cells (nodeL T) 26 (0, 0)] ∧ tget tm 1 = .int .i64 n ∧ tget tm 2 = .pointer (some ⟨0, 0, none⟩) ∧ tget tm 5 = .int .i64 s ∧ tget tm 7 = .int .i64 j ∧ tget tm 98 = .bool (decide (j < T.kids.length ∧ s ≤ n))) ?_ ?_
  · intro S hS
    (repeat' (first | with_reducible refine ends_bool ?_ | with_reducible refine ends_int ?_ | with_reducible refine ifND (fun _ => ?_) (fun _ => ?_) | with_reducible refine ifD (fun _ => ?_) (fun _ => ?_) | with_reducible refine guardND (fun _ => ?_) (fun _ => ?_) | with_reducible refine guardD (fun _ => ?_) (fun _ => ?_) | with_reducible refine sIf_intro (fun _ => ?_) (fun _ => ?_) | with_reducible refine sGuard_intro (fun _ => ?_) (fun _ => ?_) | with_reducible refine sCall_fn (by assumption) ?_ | with_reducible refine sDraw_seq cfgOK (by kernel_rfl) ?_ | ((first | with_reducible show W _ _ (.code _ :: _) _ _ _ | with_reducible show wRun _ _ _ _ _ _ _ _ _); refine burst ?_)))
    all_goals refine hS.to ⟨by first | rfl | simp only [nodeL, *], look, look, look, look, ?_⟩
    all_goals refine Eq.trans look ?_
    all_goals rw [Value.bool.injEq]
    all_goals clear efail ih next hat
    all_goals (rw [Bool.eq_iff_iff]; simp only [Bool.not_eq_true', Bool.false_eq_true, decide_eq_false_iff_not, decide_eq_true_iff, true_iff, false_iff, iff_true]; omega)
  clear h1 h2 h5 h7
  rintro tm A ⟨rfl, h1, h2, h5, h7, h98⟩
  refine burst ?_
  refine ifD (fun q => ?_) (fun q => ?_)
  · obtain ⟨q1, q2⟩ := q
    obtain ⟨x, e1⟩ : ∃ x, T.kids[j]? = some x := ⟨_, get_some q1⟩
    have hw := wrap_succ (i := j) (N := n + 1) (by omega) (by omega)
    obtain ⟨v, ⟨r, rfl, r1, r2, r3⟩, c⟩ := ih.out x (List.mem_of_getElem? e1) (n - s) (by omega)
    have hw1 : IntKind.i64.wrap ((n : Int) - (s : Int)) = ((n - s : Nat) : Int) := by rw [wrap_in (by omega) (by omega)]; omega
    have hw2 : IntKind.i64.wrap ((s : Int) + (r : Int)) = ((s + r : Nat) : Int) := by rw [wrap_in (by omega) (by omega)]; omega
    simp only [vNode, nodeC_eq] at c
    clear h98
    refine burst ?_
    refine sCall_fn c ?_
    refine burst ?_
    have hh := hat.out q2
    refine next.out _ _ q1 ⟨s + r, rfl, look, look, look, look, by omega, by omega, fun _ => by omega, by omega, ⟨fun h => ⟨hh.1, by omega, fun k hk => ?_⟩⟩⟩
    rw [List.take_add_one, e1] at hk
    simp only [Option.toList, List.mem_append, List.mem_singleton] at hk
    rcases hk with hk | rfl
    · exact hh.2.2 k hk
    · exact (r3 (by omega)).mono (by omega) (by omega)
  · clear next h98
    refine burst ?_
    refine ⟨_, _, rfl, frz_int, s, rfl, hs1, hs2, fun h => ?_⟩
    have hh := hat.out h
    have hlen : T.kids.length ≤ j := by omega
    rw [List.take_of_length_le hlen] at hh
    exact .mk ⟨by omega, by omega, by omega, hh.1⟩ (by omega) hh.2.2
end Go.Ev
namespace Go.Ev
open Go Go.Proofs Tryz
open TP (Str Tree Nd Mk)
theorem allG_zero : ∀ {l : List GOp} {T : Tree Nd} {i : Nat}, (allG T l i).2.2 = 0 → (∀ o ∈ l, formG o) ∧ TP.Aps TP.E0.toData T (l.map absO) (allG T l i).1
  | [], T, i, _ => ⟨by simp, .nil⟩
  | o :: l, T, i, h => by
    unfold allG at h ⊢
    by_cases hv : valG T o = 0
    · rw [if_pos hv] at h ⊢
      obtain ⟨h1, h2⟩ := allG_zero h
      refine ⟨fun x hx => ?_, .cons (appG_ap hv) h2⟩
      rcases List.mem_cons.1 hx with rfl | hx
      · exact (val_zero.1 hv).2.1
      · exact h1 x hx
    · rw [if_neg hv] at h
      exact absurd h hv
theorem allR_zero {l : List GOp} {T : Tree Nd} (h : (allR T l).2.2 = 0) : TP.RightT T ∧ (∀ o ∈ l, formG o) ∧ TP.Aps TP.E0.toData T (l.map absO) (allR T l).1 := by
  unfold allR at h ⊢
  by_cases hr : TP.RightT T
  · rw [if_pos hr] at h ⊢
    exact ⟨hr, allG_zero h⟩
  · rw [if_neg hr] at h
    simp at h
theorem allG_aps : ∀ {l : List GOp} {T T' : Tree Nd} {i : Nat}, TP.RightT T → (∀ o ∈ l, formG o) → TP.Aps TP.E0.toData T (l.map absO) T' → allG T l i = (T', i + l.length, 0)
  | [], T, T', i, _, _, h => by cases h; rfl
  | o :: l, T, T', i, hr, hf, h => by
    rw [List.map_cons] at h
    cases h with
    | cons ha hrest =>
      have ho := hf o (by simp)
      have hv : valG T o = 0 := val_zero.2 ⟨hr, ho, _, ha⟩
      have he := appG_eq ha
      unfold allG
      rw [if_pos hv, he, allG_aps (hr.ap ha (form_abs ho)) (fun x hx => hf x (by simp [hx])) hrest]
      simp; omega
theorem allR_aps {l : List GOp} {T T' : Tree Nd} (hr : TP.RightT T) (hf : ∀ o ∈ l, formG o) (h : TP.Aps TP.E0.toData T (l.map absO) T') : allR T l = (T', l.length, 0) := by
  unfold allR
  rw [if_pos hr, allG_aps hr hf h, Nat.zero_add]
theorem aps_keeps : ∀ {l : List GOp} {T T' : Tree Nd} {K L : Nat}, TP.RightT T → bT K L T → (∀ o ∈ l, formG o) → TP.Aps TP.E0.toData T (l.map absO) T' → TP.RightT T' ∧ bT (K + l.length) (L + l.length * 1048576) T'
  | [], T, T', K, L, hr, hb, _, h => by cases h; exact ⟨hr, by simpa using hb⟩
  | o :: l, T, T', K, L, hr, hb, hf, h => by
    rw [List.map_cons] at h
    cases h with
    | cons ha hrest =>
      have ho := hf o (by simp)
      have := aps_keeps (hr.ap ha (form_abs ho)) (hb.ap (form_abs ho) ha) (fun x hx => hf x (by simp [hx])) hrest
      refine ⟨this.1, ?_⟩
      rw [List.length_cons, show K + (l.length + 1) = K + 1 + l.length by omega, show L + (l.length + 1) * 1048576 = L + 1048576 + l.length * 1048576 by omega]
      exact this.2
end Go.Ev
namespace Go.Ev
open Go Go.Proofs Tryz
open TP (Str Tree Nd Mk)
set_option maxRecDepth 100000
set_option maxHeartbeats 4000000
theorem BothR.use {us ws x y : List GOp} {f : Bool} {e : Int} {T T1 T2 : Tree Nd} (h : BothR us ws f x y e) (hw : TP.Wf TP.E0.toData T) (h1 : TP.Aps TP.E0.toData T (us.map absO) T1) (h2 : TP.Aps TP.E0.toData T (ws.map absO) T2) :
    ((∀ o ∈ x, okO o) ∧ x.length ≤ 4096 ∧ ∃ R, TP.Aps TP.E0.toData T2 (x.map absO) R) ∧ ((∀ o ∈ y, okO o) ∧ y.length ≤ 4096 ∧ ∃ R, TP.Aps TP.E0.toData T1 (y.map absO) R) ∧ (e = 0 ∨ e = 3) := by
  rcases h with ⟨rfl, rfl, rfl⟩ | ⟨rfl, hx, hy, hlx, hly, hB⟩
  · exact ⟨⟨by simp, by simp, _, .nil⟩, ⟨by simp, by simp, _, .nil⟩, .inr rfl⟩
  · obtain ⟨R, r1, r2⟩ := hB.ends (fun T T' o => TP.Ap.wf) hw h1 h2
    exact ⟨⟨hx, hlx, R, r2⟩, ⟨hy, hly, R, r1⟩, .inl rfl⟩
theorem BothR.br {us ws x y : List GOp} {f : Bool} (h : BothR us ws f x y 0) : TP.Br TP.E0 f (us.map absO) (ws.map absO) (x.map absO) (y.map absO) := by
  rcases h with ⟨_, _, h⟩ | ⟨_, _, _, _, _, h⟩
  · simp at h
  · exact h
theorem light_ok {l : List GOp} (h : lightL l 3 40) : (∀ o ∈ l, lenG o) ∧ l.length ≤ 3 ∧ ∀ o ∈ l, formG o → okO o := by
  refine ⟨fun o ho => ?_, h.1, fun o ho hf => ?_⟩
  · have := (h.2 o ho).1
    exact ⟨by omega, by omega⟩
  · have := (h.2 o ho).1
    exact ⟨hf, by omega, by omega⟩
theorem three_fn (hW : ∀ A, Does prog (.call 8 [] false) A (.bool true) A) (T : Tree Nd) (A B C : List GOp) : ∃ v0 A', CallsW prog 3 [vNode T, rowO A, rowO B, rowO C] A0 v0 A' ∧ Frz A' v0 (.bool true) := by
  obtain ⟨_, ⟨r, rfl, _, _, hbT⟩, cW⟩ := weight_fn T 150 (by omega)
  obtain ⟨b1, hl1, c1⟩ := light7_fn A
  obtain ⟨b2, hl2, c2⟩ := light7_fn B
  obtain ⟨b3, hl3, c3⟩ := light7_fn C
  rw [mk_nil]
  refine calls_frz (args := [vNode T, rowO A, rowO B, rowO C]) func3 ntmps3 results3 rfl ?_
  have eL : nodeL T = [.int .u64 T.d.id, .bool T.d.leaf, .string (bs T.d.label), rowA T.d.attrs, .string (bs T.d.text), rowK T.kids] := rfl
  simp only [vNode, nodeC_eq] at cW
  replace hbT := Hid.mk hbT
  replace hl1 := Hid.mk hl1
  replace hl2 := Hid.mk hl2
  replace hl3 := Hid.mk hl3
  refine burst ?_
  refine sCall_fn cW ?_
  refine burst ?_
  refine guard_cut (fun tm M => M = mk [AB.cells (nodeL T) 26 (0, 0)] ∧ tget tm 1 = rowO A ∧ tget tm 2 = rowO B ∧ tget tm 3 = rowO C ∧ tget tm 4 = .pointer (some ⟨0, 0, none⟩) ∧ tget tm 55 = .bool (!decide (r ≤ 150 ∧ b1 = true ∧ b2 = true ∧ b3 = true))) ?_ ?_
  · intro S hS
    clear hbT hl1 hl2 hl3 hW
    (repeat' (first | with_reducible refine ends_bool ?_ | with_reducible refine ends_int ?_ | with_reducible refine ifND (fun _ => ?_) (fun _ => ?_) | with_reducible refine ifD (fun _ => ?_) (fun _ => ?_) | with_reducible refine guardND (fun _ => ?_) (fun _ => ?_) | with_reducible refine guardD (fun _ => ?_) (fun _ => ?_) | with_reducible refine sIf_intro (fun _ => ?_) (fun _ => ?_) | with_reducible refine sGuard_intro (fun _ => ?_) (fun _ => ?_) | with_reducible refine sCall_fn (by assumption) ?_ | with_reducible refine sDraw_seq cfgOK (by kernel_rfl) ?_ | ((first | with_reducible show W _ _ (.code _ :: _) _ _ _ | with_reducible show wRun _ _ _ _ _ _ _ _ _); refine burst ?_)))
    all_goals refine hS.to ⟨by first | rfl | simp only [nodeL, *], look, look, look, look, ?_⟩
    all_goals refine Eq.trans look ?_
    all_goals rw [Value.bool.injEq]
    all_goals clear cW c1 c2 c3
    all_goals clear hS eL
    all_goals (first | (cases b1 <;> cases b2 <;> cases b3 <;> simp_all <;> omega) | grind)
  clear cW c1 c2 c3
  rintro tm M ⟨rfl, t1, t2, t3, t4, t55⟩
  refine burst ?_
  refine ifND (fun h => ?_) (fun h => ?_)
  · refine burst ?_
    refine sCall_does (hW _) ?_
    refine burst ?_
    exact ends frz_bool rfl
  obtain ⟨h0, h1, h2, h3⟩ := h
  clear t55
  have hT := hbT.out (by omega)
  obtain ⟨lA, nA, kA⟩ := light_ok (hl1.out h1)
  obtain ⟨lB, nB, kB⟩ := light_ok (hl2.out h2)
  obtain ⟨lC, nC, kC⟩ := light_ok (hl3.out h3)
  have cX := applyAll_fn hT A (by omega) (by omega) lA
  have cY := applyAll_fn hT B (by omega) (by omega) lB
  have cZ := applyAll_fn hT C (by omega) (by omega) lC
  have zA := @allR_zero A T
  have zB := @allR_zero B T
  have zC := @allR_zero C T
  generalize (allR T A).1 = X at *
  generalize (allR T B).1 = Y at *
  generalize (allR T C).1 = Z at *
  generalize (allR T A).2.1 = iA at *
  generalize (allR T B).2.1 = iB at *
  generalize (allR T C).2.1 = iC at *
  generalize (allR T A).2.2 = ea at *
  generalize (allR T B).2.2 = eb at *
  generalize (allR T C).2.2 = ec at *
  clear hbT hl1 hl2 hl3 h0 h1 h2 h3 lA lB lC
  replace zA := Hid.mk zA
  replace zB := Hid.mk zB
  replace zC := Hid.mk zC
  replace hT := Hid.mk hT
  simp only [vNode, nodeC_eq] at cX cY cZ
  have eL : ∀ T : Tree Nd, nodeL T = [.int .u64 T.d.id, .bool T.d.leaf, .string (bs T.d.label), rowA T.d.attrs, .string (bs T.d.text), rowK T.kids] := fun _ => rfl
  refine burst ?_
  refine sCall_fn cX ?_
  refine burst ?_
  refine sCall_fn cY ?_
  refine burst ?_
  refine sCall_fn cZ ?_
  refine burst ?_
  refine guard_cut (fun tm M => M = mk [AB.cells (nodeL T) 26 (0, 0), AB.cells (nodeL X) 26 (0, 0), AB.cells (nodeL Y) 26 (0, 0), AB.cells (nodeL Z) 26 (0, 0)] ∧ tget tm 1 = rowO A ∧ tget tm 2 = rowO B ∧ tget tm 3 = rowO C ∧ tget tm 9 = .pointer (some ⟨1, 0, none⟩) ∧ tget tm 12 = .pointer (some ⟨2, 0, none⟩) ∧ tget tm 15 = .pointer (some ⟨3, 0, none⟩) ∧ tget tm 87 = .bool (!decide (ea = 0 ∧ eb = 0 ∧ ec = 0))) ?_ ?_
  · intro S hS
    clear hW zA zB zC hT
    (repeat' (first | with_reducible refine ends_bool ?_ | with_reducible refine ends_int ?_ | with_reducible refine ifND (fun _ => ?_) (fun _ => ?_) | with_reducible refine ifD (fun _ => ?_) (fun _ => ?_) | with_reducible refine guardND (fun _ => ?_) (fun _ => ?_) | with_reducible refine guardD (fun _ => ?_) (fun _ => ?_) | with_reducible refine sIf_intro (fun _ => ?_) (fun _ => ?_) | with_reducible refine sGuard_intro (fun _ => ?_) (fun _ => ?_) | with_reducible refine sCall_fn (by assumption) ?_ | with_reducible refine sDraw_seq cfgOK (by kernel_rfl) ?_ | ((first | with_reducible show W _ _ (.code _ :: _) _ _ _ | with_reducible show wRun _ _ _ _ _ _ _ _ _); refine burst ?_)))
    all_goals refine hS.to ⟨by first | rfl | simp only [nodeL, *], look, look, look, look, look, look, ?_⟩
    all_goals refine Eq.trans look ?_
    all_goals rw [Value.bool.injEq]
    all_goals clear cX cY cZ
    all_goals clear hS eL
    all_goals (first | grind | (simp_all; done))
  clear cX cY cZ t1 t2 t3 t4
  rintro tm M ⟨rfl, t1, t2, t3, t9, t12, t15, t87⟩
  refine burst ?_
  refine ifND (fun h => ?_) (fun h => ?_)
  · refine burst ?_
    refine sCall_does (hW _) ?_
    refine burst ?_
    exact ends frz_bool rfl
  obtain ⟨h1, h2, h3⟩ := h
  obtain ⟨hr, fA, pA⟩ := zA.out h1
  obtain ⟨_, fB, pB⟩ := zB.out h2
  obtain ⟨_, fC, pC⟩ := zC.out h3
  have hw := hr.wf
  have oA : ∀ o ∈ A, okO o := fun o ho => kA o ho (fA o ho)
  have oB : ∀ o ∈ B, okO o := fun o ho => kB o ho (fB o ho)
  have oC : ∀ o ∈ C, okO o := fun o ho => kC o ho (fC o ho)
  obtain ⟨hrX, hbX⟩ := aps_keeps hr hT.out fA pA
  obtain ⟨hrY, hbY⟩ := aps_keeps hr hT.out fB pB
  obtain ⟨hrZ, hbZ⟩ := aps_keeps hr hT.out fC pC
  have hwX := hrX.wf
  obtain ⟨a1, b1, e1, r1, d1⟩ := both10_fn (f := true) oA oB (by omega) (by omega) hw pA pB
  obtain ⟨⟨oa1, la1, _⟩, ⟨ob1, lb1, Rb1, pb1⟩, x1⟩ := r1.use hw pA pB
  obtain ⟨ca, q1, e2, r2, d2⟩ := behind11_fn (f := false) oC oA (by omega) (by omega) hw pC pA
  obtain ⟨⟨oca, lca, Rca, pca⟩, _, x2⟩ := r2.use hw pC pA
  obtain ⟨c2, q2, e3, r3, d3⟩ := behind11_fn (f := false) oca ob1 lca lb1 hwX pca pb1
  obtain ⟨⟨oc2, lc2, _⟩, _, x3⟩ := r3.use hwX pca pb1
  obtain ⟨a2, q3, e4, r4, d4⟩ := behind11_fn (f := true) oA oC (by omega) (by omega) hw pA pC
  obtain ⟨⟨oa2, la2, _⟩, _, x4⟩ := r4.use hw pA pC
  obtain ⟨b2, q4, e5, r5, d5⟩ := behind11_fn (f := true) ob1 oca lb1 lca hwX pb1 pca
  obtain ⟨⟨ob2, lb2, _⟩, _, x5⟩ := r5.use hwX pb1 pca
  have hcube : e1 = 0 → e2 = 0 → e3 = 0 → e4 = 0 → e5 = 0 → ∃ R, TP.Aps TP.E0.toData X ((b1 ++ c2).map absO) R ∧ TP.Aps TP.E0.toData Z ((a2 ++ b2).map absO) R ∧ TP.Aps TP.E0.toData Y ((a1 ++ c2).map absO) R := by
    rintro rfl rfl rfl rfl rfl
    simp only [List.map_append]
    exact TP.cube (fun T T' o => TP.Ap.wf) hw pA pB pC r1.br r2.br r3.br r4.br r5.br
  have n1 : decide (e1 = 80) = false := decide_eq_false (by omega)
  have n2 : decide (e2 = 80) = false := decide_eq_false (by omega)
  have n3 : decide (e3 = 80) = false := decide_eq_false (by omega)
  have n4 : decide (e4 = 80) = false := decide_eq_false (by omega)
  have n5 : decide (e5 = 80) = false := decide_eq_false (by omega)
  replace hcube := Hid.mk hcube
  have hh := Hid.mk (And.intro hrX (And.intro hbX (And.intro hrY (And.intro hbY (And.intro hrZ hbZ)))))
  have ho := Hid.mk (And.intro oa1 (And.intro ob1 (And.intro oc2 (And.intro oa2 ob2))))
  clear h1 h2 h3 zA zB zC fA fB fC pA pB pC hw oA oB oC kA kB kC hrX hrY hrZ hbX hbY hbZ hwX oa1 ob1 oc2 oa2 ob2 oca pb1 pca r1 r2 r3 r4 r5 hr hT x1 x2 x3 x4 x5 t87
  refine burst ?_
  refine sCall_fn d1 ?_
  refine burst ?_
  refine sCall_fn d2 ?_
  refine burst ?_
  refine sCall_fn d3 ?_
  refine burst ?_
  refine sCall_fn d4 ?_
  refine burst ?_
  refine sCall_fn d5 ?_
  refine burst ?_
  refine guard_cut (fun tm M => M = mk [AB.cells (nodeL T) 26 (0, 0), AB.cells (nodeL X) 26 (0, 0), AB.cells (nodeL Y) 26 (0, 0), AB.cells (nodeL Z) 26 (0, 0)] ∧ tget tm 9 = .pointer (some ⟨1, 0, none⟩) ∧ tget tm 12 = .pointer (some ⟨2, 0, none⟩) ∧ tget tm 15 = .pointer (some ⟨3, 0, none⟩) ∧
    tget tm 18 = rowO a1 ∧ tget tm 19 = rowO b1 ∧ tget tm 20 = .int .i64 e1 ∧ tget tm 22 = .int .i64 e2 ∧ tget tm 23 = rowO c2 ∧ tget tm 24 = .int .i64 e3 ∧ tget tm 25 = rowO a2 ∧ tget tm 26 = .int .i64 e4 ∧ tget tm 27 = rowO b2 ∧ tget tm 28 = .int .i64 e5 ∧ tget tm 137 = .bool (!decide (e1 = 0 ∧ e2 = 0 ∧ e3 = 0 ∧ e4 = 0 ∧ e5 = 0))) ?_ ?_
  · intro S hS
    clear hW hcube hh ho
    (repeat' (first | with_reducible refine ends_bool ?_ | with_reducible refine ends_int ?_ | with_reducible refine ifND (fun _ => ?_) (fun _ => ?_) | with_reducible refine ifD (fun _ => ?_) (fun _ => ?_) | with_reducible refine guardND (fun _ => ?_) (fun _ => ?_) | with_reducible refine guardD (fun _ => ?_) (fun _ => ?_) | with_reducible refine sIf_intro (fun _ => ?_) (fun _ => ?_) | with_reducible refine sGuard_intro (fun _ => ?_) (fun _ => ?_) | with_reducible refine sCall_fn (by assumption) ?_ | with_reducible refine sDraw_seq cfgOK (by kernel_rfl) ?_ | ((first | with_reducible show W _ _ (.code _ :: _) _ _ _ | with_reducible show wRun _ _ _ _ _ _ _ _ _); refine burst ?_)))
    all_goals refine hS.to ⟨by first | rfl | simp only [nodeL, *], look, look, look, look, look, look, look, look, look, look, look, look, look, ?_⟩
    all_goals refine Eq.trans look ?_
    all_goals rw [Value.bool.injEq]
    all_goals clear d1 d2 d3 d4 d5 n1 n2 n3 n4 n5
    all_goals clear hS eL
    all_goals (first | grind | (simp_all; done))
  clear d1 d2 d3 d4 d5 t1 t2 t3 t9 t12 t15
  rintro tm M ⟨rfl, t9, t12, t15, t18, t19, t20, t22, t23, t24, t25, t26, t27, t28, t137⟩
  refine burst ?_
  refine ifND (fun h => ?_) (fun h => ?_)
  · refine burst ?_
    refine sCall_does (hW _) ?_
    refine burst ?_
    exact ends frz_bool rfl
  clear n1 n2 n3 n4 n5 t137 t20 t22 t24 t26 t28
  obtain ⟨h1, h2, h3, h4, h5⟩ := h
  obtain ⟨R, pX, pZ, pY⟩ := hcube.out h1 h2 h3 h4 h5
  obtain ⟨hrX, hbX, hrY, hbY, hrZ, hbZ⟩ := hh.out
  obtain ⟨oa1, ob1, oc2, oa2, ob2⟩ := ho.out
  have okA : ∀ {x y : List GOp}, (∀ o ∈ x, okO o) → (∀ o ∈ y, okO o) → (∀ o ∈ x ++ y, formG o) ∧ ∀ o ∈ x ++ y, lenG o := fun hx hy => by
    have : ∀ o ∈ _ ++ _, okO o := fun o ho => (List.mem_append.1 ho).elim (hx o) (hy o)
    exact ⟨fun o ho => (this o ho).1, fun o ho => (this o ho).len⟩
  have j1 := joined_fn b1 c2 (by omega) (by omega)
  have j2 := joined_fn a2 b2 (by omega) (by omega)
  have j3 := joined_fn a1 c2 (by omega) (by omega)
  have y1 := applyAll_fn hbX (b1 ++ c2) (by simp; omega) (by simp; omega) (okA ob1 oc2).2
  have y2 := applyAll_fn hbZ (a2 ++ b2) (by simp; omega) (by simp; omega) (okA oa2 ob2).2
  have y3 := applyAll_fn hbY (a1 ++ c2) (by simp; omega) (by simp; omega) (okA oa1 oc2).2
  rw [allR_aps hrX (okA ob1 oc2).1 pX] at y1
  rw [allR_aps hrZ (okA oa2 ob2).1 pZ] at y2
  rw [allR_aps hrY (okA oa1 oc2).1 pY] at y3
  obtain ⟨_, hbR⟩ := aps_keeps hrX hbX (okA ob1 oc2).1 pX
  have cs : Fn prog 13 [vNode R, vNode R] (.bool true) := by
    have := same6_fn (by simp; omega) hbR R
    simpa using this
  generalize (b1 ++ c2).length = m1 at *
  generalize (a2 ++ b2).length = m2 at *
  generalize (a1 ++ c2).length = m3 at *
  generalize b1 ++ c2 = w1 at *
  generalize a2 ++ b2 = w2 at *
  generalize a1 ++ c2 = w3 at *
  simp only [vNode, nodeC_eq] at y1 y2 y3 cs
  clear h1 h2 h3 h4 h5 hcube hh ho pX pY pZ hrX hbX hrY hbY hrZ hbZ oa1 ob1 oc2 oa2 ob2 okA hbR
  have i00 : decide ((0 : Int) = 0) = true := by decide
  refine burst ?_
  refine sDraw_newsK 9 cfgOK rfl rfl zr26 (by simp) (by kernel_rfl) ?_
  refine burst ?_
  refine sCall_fn j1 ?_
  refine burst ?_
  refine sCall_fn y1 ?_
  refine burst ?_
  refine sDraw_newsK 9 cfgOK rfl rfl zr26 (by simp) (by kernel_rfl) ?_
  refine burst ?_
  refine sCall_fn j2 ?_
  refine burst ?_
  refine sCall_fn y2 ?_
  refine burst ?_
  refine sDraw_newsK 9 cfgOK rfl rfl zr26 (by simp) (by kernel_rfl) ?_
  refine burst ?_
  refine sCall_fn j3 ?_
  refine burst ?_
  refine sCall_fn y3 ?_
  refine burst ?_
  refine sCall_fn cs ?_
  refine burst ?_
  refine sCall_fn cs ?_
  refine burst ?_
  refine sCall_does (hW _) ?_
  refine burst ?_
  exact ends frz_bool rfl
end Go.Ev
namespace Go.Ev
open Go Go.Proofs Tryz
set_option maxRecDepth 1000000
set_option maxHeartbeats 4000000
def meq : List MapEntry → List MapEntry → Bool
  | [], [] => true
  | a :: l, b :: m => veq a.key b.key && (veq a.val b.val && (Nat.beq a.born b.born && meq l m))
  | _, _ => false
def abEq : AB → AB → Bool
  | .cells cs e f, .cells ds e' f' => veqL cs ds && (Nat.beq e e' && decide (f = f'))
  | .grown cs e s, .grown ds e' s' => veqL cs ds && (Nat.beq e e' && Nat.beq s s')
  | .map es c, .map fs d => meq es fs && Nat.beq c d
  | .dead, .dead => true
  | _, _ => false
def trieEq : Trie AB → Trie AB → Bool
  | .nil, .nil => true
  | .node l v r, .node l' v' r' => trieEq l l' && ((match v, v' with | none, none => true | some a, some b => abEq a b | _, _ => false) && trieEq r r')
  | _, _ => false
def asEq (A B : AS) : Bool := Nat.beq A.next B.next && (A.pend.isEmpty && (B.pend.isEmpty && trieEq A.h B.h))
theorem meq_sound : ∀ {l m : List MapEntry}, meq l m = true → l = m
  | [], [], _ => rfl
  | ⟨k, v, b⟩ :: l, ⟨k', v', b'⟩ :: m, h => by
    simp only [meq, Bool.and_eq_true, Nat.beq_eq] at h
    obtain ⟨h1, h2, h3, h4⟩ := h
    rw [veq_sound _ _ h1, veq_sound _ _ h2, h3, meq_sound h4]
theorem abEq_sound {a b : AB} (h : abEq a b = true) : a = b := by
  cases a <;> cases b <;> simp only [abEq, Bool.and_eq_true, Nat.beq_eq, decide_eq_true_eq] at h <;> try contradiction
  · rw [veqL_sound _ _ h.1, h.2.1, h.2.2]
  · rw [veqL_sound _ _ h.1, h.2.1, h.2.2]
  · rw [meq_sound h.1, h.2]
  · rfl
theorem trieEq_sound : ∀ {s t : Trie AB}, trieEq s t = true → s = t
  | .nil, .nil, _ => rfl
  | .node l v r, .node l' v' r', h => by
    simp only [trieEq, Bool.and_eq_true] at h
    obtain ⟨h1, h2, h3⟩ := h
    rw [trieEq_sound h1, trieEq_sound h3]
    cases v <;> cases v' <;> simp only at h2 <;> try contradiction
    · rfl
    · rw [abEq_sound h2]
theorem asEq_sound {A B : AS} (h : asEq A B = true) : A = B := by
  obtain ⟨h1, n1, p1⟩ := A
  obtain ⟨h2, n2, p2⟩ := B
  simp only [asEq, Bool.and_eq_true, Nat.beq_eq, List.isEmpty_iff] at h
  obtain ⟨q1, q2, q3, q4⟩ := h
  subst q2 q3
  rw [q1, trieEq_sound q4]
def ofL (N : Nat) (l : List (Nat × AB)) : AS := ⟨l.foldl (fun t p => t.set 24 p.1 p.2) .nil, N, []⟩
theorem ofL_get {N : Nat} {l : List (Nat × AB)} (hl : ∀ p ∈ l, p.1 + 1 < 2 ^ 24) {n : Nat} {ab : AB} (h : (ofL N l).h.get n = some ab) : (n, ab) ∈ l := by
  have gen : ∀ (l : List (Nat × AB)) (t : Trie AB), (∀ p ∈ l, p.1 + 1 < 2 ^ 24) → (l.foldl (fun t p => t.set 24 p.1 p.2) t).get n = some ab → (n, ab) ∈ l ∨ t.get n = some ab := by
    intro l
    induction l with
    | nil => intro t _ h; exact .inr h
    | cons p l ih =>
      intro t hl h
      rcases ih _ (fun q hq => hl q (by simp [hq])) h with h1 | h1
      · exact .inl (by simp [h1])
      · have h1 : (Trie.set 24 t p.1 p.2).get n = some ab := h1
        by_cases e : p.1 = n
        · rw [e, Trie.get_set_same 24 t n p.2 (by rw [← e]; exact hl p (by simp))] at h1
          left
          obtain ⟨p1, p2⟩ := p
          simp only at e h1
          cases h1
          subst e
          simp
        · rw [Trie.get_set_other 24 t p.1 n p.2 e] at h1
          exact .inr h1
  rcases gen l .nil hl h with h1 | h1
  · exact h1
  · cases h1
def inAS (A : AS) : List (Nat × AB) → Bool
  | [] => true
  | p :: l => Nat.blt p.1 A.next && ((match A.h.get p.1 with | some ab => abEq ab p.2 | none => false) && inAS A l)
theorem inAS_sound {A : AS} : ∀ {l : List (Nat × AB)}, inAS A l = true → ∀ p ∈ l, p.1 < A.next ∧ A.h.get p.1 = some p.2
  | [], _, p, hp => by simp at hp
  | q :: l, h, p, hp => by
    simp only [inAS, Bool.and_eq_true, Nat.blt_eq] at h
    obtain ⟨h1, h2, h3⟩ := h
    rcases List.mem_cons.1 hp with rfl | hp
    · refine ⟨h1, ?_⟩
      split at h2
      · rename_i ab e; rw [e, abEq_sound h2]
      · cases h2
    · exact inAS_sound h3 p hp
def ends1 (v : Value) (N : Nat) (l : List (Nat × AB)) (r : Option (Value × AS)) : Bool := match r with
  | some (u, A) => veq u v && (Nat.beq A.next N && (A.pend.isEmpty && inAS A l))
  | none => false
theorem does_less {P : Program} {job : Job} {A A' B : AS} {v : Value} (h : Does P job A v A') (hn : B.next = A'.next) (hp : B.pend = A'.pend) (hp0 : A'.pend = []) (hB : ∀ n ab, B.h.get n = some ab → A'.h.get n = some ab ∧ n < A'.next) : Does P job A v B := by
  have hok : ∀ n, B.ok n = A'.ok n := fun n => by unfold AS.ok; rw [hn, hp]
  have hv : ∀ {u : Value}, vok A'.ok u = true → vok B.ok u = true := fun {u} h => by
    have e : B.ok = A'.ok := funext hok
    rw [e]; exact h
  have key : ∀ {φ φ' : Rn} {w w' : World}, Rel φ' A' w' → Runs φ A w φ' A' w' → Rel φ' B w' ∧ Runs φ A w φ' B w' := fun {φ φ' w w'} hR hr => by
    obtain ⟨q1, q2⟩ := hR.less (B := B) (F' := φ'.F) hn hp (fun n ab e _ _ => (hB n ab e).1) (fun n ab e => (hB n ab e).2) (fun n hn' => by rw [hp0] at hn'; simp at hn') (fun _ h => h) (fun _ h => .inl h)
    exact ⟨q1, hr.trans q2⟩
  cases job with
  | call f args d =>
    obtain ⟨h1, h2, h3⟩ := h
    refine ⟨hv h1, h2, fun φ w Vs hR hk hV c cs hd => ?_⟩
    obtain ⟨φ', w', V, s1, s2, s3, s4⟩ := h3 φ w Vs hR hk hV c cs hd
    obtain ⟨k1, k2⟩ := key s3 s4
    exact ⟨φ', w', V, s1, s2, k1, k2⟩
  | round l f ns tm assign body =>
    obtain ⟨h1, h2⟩ := h
    refine ⟨hv h1, fun φ w a hR hl htok htm c cs => ?_⟩
    obtain ⟨φ', w', V, s1, s2, s3, s4⟩ := h2 φ w a hR hl htok htm c cs
    obtain ⟨k1, k2⟩ := key s3 s4
    exact ⟨φ', w', V, s1, s2, k1, k2⟩
theorem ends1_does {P : Program} {c : Cfg} {S : Rec} {n N : Nat} {job : Job} {A : AS} {v : Value} {l : List (Nat × AB)} (hc : CfgOK P c) (hm : P.follows .mixedOrders = true) (hS : RecOK P S) (hN : N + 1 < 2 ^ 24) (h : ends1 v N l (callS P c S n job A) = true) : Does P job A v (ofL N l) := by
  unfold ends1 at h
  split at h
  · rename_i u A' e
    simp only [Bool.and_eq_true, Nat.beq_eq, List.isEmpty_iff] at h
    obtain ⟨h1, h2, h3, h4⟩ := h
    have hd := callS_ok hc hm hS n _ _ _ _ e
    rw [veq_sound _ _ h1] at hd
    have hin := inAS_sound h4
    refine does_less hd (by rw [h2]; rfl) (by rw [h3]; rfl) h3 fun m ab hg => ?_
    have := hin _ (ofL_get (fun p hp => by have := (hin p hp).1; omega) hg)
    exact ⟨this.2, this.1⟩
  · cases h
def memo (f : FuncId) (args : List Value) (A : AS) (v : Value) (B : AS) (S : Rec) : Rec := fun job A' => match job with
  | .call g as' false => if Nat.beq g f = true then (if (veqL as' args && asEq A' A) = true then some (v, B) else S job A') else S job A'
  | j => S j A'
theorem memo_ok {P : Program} {f : FuncId} {args : List Value} {A B : AS} {v : Value} {S : Rec} (h : Does P (.call f args false) A v B) (hS : RecOK P S) : RecOK P (memo f args A v B S) := fun job A' u C e => by
  unfold memo at e
  split at e
  · rename_i g as'
    split at e
    · rename_i hg
      split at e
      · rename_i hq
        simp only [Bool.and_eq_true] at hq
        simp only [Option.some.injEq, Prod.mk.injEq] at e
        obtain ⟨rfl, rfl⟩ := e
        rw [Nat.eq_of_beq_eq_true hg, veqL_sound _ _ hq.1, asEq_sound hq.2]
        exact h
      · exact hS _ _ _ _ e
    · exact hS _ _ _ _ e
  · exact hS _ _ _ _ e
end Go.Ev
namespace Go.Ev
open Go Go.Proofs Tryz
set_option maxRecDepth 1000000
set_option maxHeartbeats 4000000
def crcC (x : Nat) : List Value → Option Nat
  | [] => some x
  | .int .u8 (.ofNat k) :: r => if Nat.blt k 256 = true then crcC (h8 (Nat.xor x k)) r else none
  | _ => none
def sumS : Rec := fun job A => match job with
  | .call f [.slice (some a) n _] _ => if (Nat.beq f 283 && Nat.ble n 1000000) = true then (match a.spot with
    | none => (match cellsAt A a.block a.off n with
      | some cs => (match crcC 4294967295 cs with
        | some x => some (.int .u32 (Int.ofNat (Nat.xor x 4294967295)), A)
        | none => none)
      | none => none)
    | some _ => none) else none
  | _ => none
def cfgW : Cfg := ⟨151, 0, 0⟩
def u8 (l : List Nat) : List Value := l.map fun k => .int .u8 (Int.ofNat k)
def A2 : AS := mk [.map [] 0, .map [] 0, .cells ([.int .i64 200, .map (some 0), .map (some 1), .slice none 0 0, .pointer none, .bool false]) 91 (0, 0), .cells ([.int .u64 1, .bool false, .string ⟨#[114]⟩, .slice none 0 0, .string ⟨#[]⟩, .slice (some ⟨4, 0, none⟩) 2 2]) 26 (0, 0),
  .cells ([.int .u64 2, .bool false, .string ⟨#[97]⟩, .slice none 0 0, .string ⟨#[]⟩, .slice none 0 0, .int .u64 3, .bool false, .string ⟨#[98]⟩, .slice none 0 0, .string ⟨#[]⟩, .slice none 0 0]) 26 (0, 0)]
def vD : Value := .pointer (some ⟨2, 0, none⟩)
def vT : Value := .agg ⟨[.int .u64 1, .bool false, .string ⟨#[114]⟩, .slice none 0 0, .string ⟨#[]⟩, .slice (some ⟨4, 0, none⟩) 2 2]⟩
def v3 : Value := .tuple ⟨[.pointer (some ⟨160, 0, none⟩), .int .i64 0]⟩
def l3 : List (Nat × AB) := [
  (235, .grown ([.int .u64 2, .bool false, .string ⟨#[97]⟩, .slice none 0 0, .string ⟨#[]⟩, .slice none 0 0, .int .u64 3, .bool false, .string ⟨#[98]⟩, .slice none 0 0, .string ⟨#[]⟩, .slice none 0 0]) 26 6),
  (242, .cells ([.int .u64 1, .bool false, .string ⟨#[114]⟩, .slice none 0 0, .string ⟨#[]⟩, .slice (some ⟨235, 0, none⟩) 2 (big + 2), .slice none 0 0]) 149 (0, 0)),
  (243, .cells ([.int .i64 0, .slice (some ⟨242, 0, none⟩) 1 1]) 152 (0, 0)),
  (695, .grown (u8 [21, 0, 18, 1, 0, 1, 114, 0, 2, 2, 0, 1, 97, 0, 0, 3, 0, 1, 98, 0, 0, 0, 0, 0, 0, 0, 0, 0, 0, 0, 0, 0, 0, 0, 0, 0, 0, 0, 0, 0, 0, 0, 0, 0, 0, 0]) 5 1),
  (692, .grown ([.int .i64 1] ++ u8 [67, 0, 0, 0, 0, 0, 0, 0, 1, 0, 0, 0, 0, 0, 0, 0, 0, 0, 0, 0, 1, 0, 0, 0, 0, 0, 0, 0, 0, 0, 0, 0, 0, 0, 0, 0, 0, 0, 0, 0, 0, 0, 0, 0, 0, 0, 0, 0, 0, 0, 0, 0, 0, 0, 0, 0, 0, 0, 0, 0, 0, 0, 0, 0, 0, 0, 0, 0, 0, 0, 0, 0, 0, 0, 0, 0, 0, 0, 0, 0, 0, 0, 0, 0, 0, 0, 0, 0, 0, 0, 0, 0, 0, 0, 0, 0, 0, 0, 0, 0, 0, 0, 0, 0, 0, 0, 0, 0, 0, 0, 0, 0, 0, 0, 0, 0, 0, 0, 0, 0, 0, 0, 0, 0, 124, 81, 39, 233] ++ [.int .i64 0] ++ u8 [72, 0, 0, 0, 0, 0, 0, 0, 1, 0, 0, 0, 0, 0, 0, 0, 1, 0, 0, 0, 0, 0, 0, 0, 1, 0, 0, 0, 0, 193, 233, 131, 46, 0, 0, 0, 0, 0, 0, 0, 0, 0, 0, 0, 0, 0, 0, 0, 0, 0, 0, 0, 0, 0, 0, 0, 0, 0, 0, 0, 0, 0, 0, 0, 0, 0, 0, 0, 0, 0, 0, 0, 0, 0, 0, 0, 0, 0, 0, 0, 0, 0, 0, 0, 0, 0, 0, 0, 0, 0, 0, 0, 0, 0, 0, 0, 0, 0, 0, 0, 0, 0, 0, 0, 0, 0, 0, 0, 0, 0, 0, 0, 0, 0, 0, 0, 0, 0, 0, 0, 0, 0, 0, 0, 0, 0, 0, 0] ++ [.int .i64 101] ++ u8 [67, 0, 0, 0, 0, 0, 0, 0, 2, 0, 0, 0, 0, 0, 0, 0, 0, 0, 0, 0, 1, 46, 21, 0, 18, 1, 0, 1, 114, 0, 2, 2, 0, 1, 97, 0, 0, 3, 0, 1, 98, 0, 0, 0, 0, 0, 0, 0, 0, 0, 0, 0, 0, 0, 0, 0, 0, 0, 0, 0, 0, 0, 0, 0, 0, 0, 0, 0, 0, 0, 0, 0, 0, 0, 0, 0, 0, 0, 0, 0, 0, 0, 0, 0, 0, 0, 0, 0, 0, 0, 0, 0, 0, 0, 0, 0, 0, 0, 0, 0, 0, 0, 0, 0, 0, 0, 0, 0, 0, 0, 0, 0, 0, 0, 0, 0, 0, 0, 0, 0, 0, 0, 0, 0, 149, 15, 77, 33] ++ [.int .i64 100] ++ u8 [72, 0, 0, 0, 0, 0, 0, 0, 2, 0, 0, 0, 0, 0, 0, 0, 1, 0, 0, 0, 0, 0, 0, 0, 1, 0, 0, 0, 46, 90, 50, 52, 224, 0, 0, 0, 0, 0, 0, 0, 0, 0, 0, 0, 0, 0, 0, 0, 0, 0, 0, 0, 0, 0, 0, 0, 0, 0, 0, 0, 0, 0, 0, 0, 0, 0, 0, 0, 0, 0, 0, 0, 0, 0, 0, 0, 0, 0, 0, 0, 0, 0, 0, 0, 0, 0, 0, 0, 0, 0, 0, 0, 0, 0, 0, 0, 0, 0, 0, 0, 0, 0, 0, 0, 0, 0, 0, 0, 0, 0, 0, 0, 0, 0, 0, 0, 0, 0, 0, 0, 0, 0, 0, 0, 0, 0, 0, 0] ++ []) 256 129),
  (1, .map [⟨.int .i64 1, .agg ⟨u8 [67, 0, 0, 0, 0, 0, 0, 0, 1, 0, 0, 0, 0, 0, 0, 0, 0, 0, 0, 0, 1, 0, 0, 0, 0, 0, 0, 0, 0, 0, 0, 0, 0, 0, 0, 0, 0, 0, 0, 0, 0, 0, 0, 0, 0, 0, 0, 0, 0, 0, 0, 0, 0, 0, 0, 0, 0, 0, 0, 0, 0, 0, 0, 0, 0, 0, 0, 0, 0, 0, 0, 0, 0, 0, 0, 0, 0, 0, 0, 0, 0, 0, 0, 0, 0, 0, 0, 0, 0, 0, 0, 0, 0, 0, 0, 0, 0, 0, 0, 0, 0, 0, 0, 0, 0, 0, 0, 0, 0, 0, 0, 0, 0, 0, 0, 0, 0, 0, 0, 0, 0, 0, 0, 0, 124, 81, 39, 233]⟩, 0⟩, ⟨.int .i64 0, .agg ⟨u8 [72, 0, 0, 0, 0, 0, 0, 0, 1, 0, 0, 0, 0, 0, 0, 0, 1, 0, 0, 0, 0, 0, 0, 0, 1, 0, 0, 0, 0, 193, 233, 131, 46, 0, 0, 0, 0, 0, 0, 0, 0, 0, 0, 0, 0, 0, 0, 0, 0, 0, 0, 0, 0, 0, 0, 0, 0, 0, 0, 0, 0, 0, 0, 0, 0, 0, 0, 0, 0, 0, 0, 0, 0, 0, 0, 0, 0, 0, 0, 0, 0, 0, 0, 0, 0, 0, 0, 0, 0, 0, 0, 0, 0, 0, 0, 0, 0, 0, 0, 0, 0, 0, 0, 0, 0, 0, 0, 0, 0, 0, 0, 0, 0, 0, 0, 0, 0, 0, 0, 0, 0, 0, 0, 0, 0, 0, 0, 0]⟩, 1⟩, ⟨.int .i64 101, .agg ⟨u8 [67, 0, 0, 0, 0, 0, 0, 0, 2, 0, 0, 0, 0, 0, 0, 0, 0, 0, 0, 0, 1, 46, 21, 0, 18, 1, 0, 1, 114, 0, 2, 2, 0, 1, 97, 0, 0, 3, 0, 1, 98, 0, 0, 0, 0, 0, 0, 0, 0, 0, 0, 0, 0, 0, 0, 0, 0, 0, 0, 0, 0, 0, 0, 0, 0, 0, 0, 0, 0, 0, 0, 0, 0, 0, 0, 0, 0, 0, 0, 0, 0, 0, 0, 0, 0, 0, 0, 0, 0, 0, 0, 0, 0, 0, 0, 0, 0, 0, 0, 0, 0, 0, 0, 0, 0, 0, 0, 0, 0, 0, 0, 0, 0, 0, 0, 0, 0, 0, 0, 0, 0, 0, 0, 0, 149, 15, 77, 33]⟩, 2⟩, ⟨.int .i64 100, .agg ⟨u8 [72, 0, 0, 0, 0, 0, 0, 0, 2, 0, 0, 0, 0, 0, 0, 0, 1, 0, 0, 0, 0, 0, 0, 0, 1, 0, 0, 0, 46, 90, 50, 52, 224, 0, 0, 0, 0, 0, 0, 0, 0, 0, 0, 0, 0, 0, 0, 0, 0, 0, 0, 0, 0, 0, 0, 0, 0, 0, 0, 0, 0, 0, 0, 0, 0, 0, 0, 0, 0, 0, 0, 0, 0, 0, 0, 0, 0, 0, 0, 0, 0, 0, 0, 0, 0, 0, 0, 0, 0, 0, 0, 0, 0, 0, 0, 0, 0, 0, 0, 0, 0, 0, 0, 0, 0, 0, 0, 0, 0, 0, 0, 0, 0, 0, 0, 0, 0, 0, 0, 0, 0, 0, 0, 0, 0, 0, 0, 0]⟩, 3⟩] 4),
  (0, .map [] 0),
  (2, .cells ([.int .i64 200, .map (some 0), .map (some 1), .slice (some ⟨692, 0, none⟩) 4 (big + 4), .pointer none, .bool false]) 91 (0, 0)),
  (20, .cells ([.pointer (some ⟨2, 0, none⟩), .int .i64 1, .int .i64 2, .int .i64 1, .int .i64 1, .int .i64 46, .slice (some ⟨695, 0, none⟩) 46 (big + 46), .slice none 0 0, .int .i64 1, .int .i64 0]) 125 (0, 0)),
  (160, .cells ([.pointer (some ⟨20, 0, none⟩), .pointer (some ⟨243, 0, none⟩), .int .i64 0, .int .i64 0, .int .i64 0, .int .i64 0, .int .i64 0, .int .i64 0, .int .i64 0, .int .i64 0, .int .i64 0, .int .i64 0, .int .i64 0, .int .i64 0, .int .i64 0, .int .i64 0, .int .i64 0, .int .i64 0, .int .i64 0, .int .i64 0, .int .i64 0, .int .i64 0, .int .i64 0, .int .i64 0, .int .i64 0, .int .i64 0, .int .i64 0]) 80 (0, 0))]
end Go.Ev
namespace Go.Ev
open Go Go.Proofs Tryz
set_option maxRecDepth 1000000
set_option maxHeartbeats 4000000
theorem cfgW_ok : CfgOK prog cfgW where
  nocount := cfgOK.nocount
  eight f h := by simp [cfgW] at h
  cnt f h := by
    have hf : f = 150 := by simp only [cfgW] at h; omega
    subst hf
    intro φ A w args Vs v hR hk hV ha
    unfold acount at ha
    split at ha
    · rename_i a n cap c
      by_cases hs : a.spot = none
      case neg => simp [hs] at ha
      simp only [ne_eq, hs, not_true_eq_false, if_false, Option.bind_eq_bind, Option.bind_eq_some_iff] at ha
      obtain ⟨cs, hcs, s, hbs, hv⟩ := ha
      obtain ⟨ns, rfl, rfl⟩ := bytesOf_some hbs
      obtain ⟨V1, M, rfl, r1, r2⟩ := RVL.cons_iff.1 hV
      obtain ⟨V2, M2, rfl, r3, r4⟩ := RVL.cons_iff.1 r2
      obtain rfl : M2 = [] := by
        have := r4.length
        exact List.eq_nil_of_length_eq_zero (by simpa using this.symm)
      have e2 : V2 = .int .u8 c := (RV.bare _ _ rfl).1 r3
      subst e2
      have hka : A.ok a.block = true := by
        simp only [vokL, vok, Bool.and_eq_true] at hk
        exact hk.1
      obtain ⟨L, hL, hC, hl⟩ := cellsAt_ok hR.toObj hka hcs
      have hL := RVL_ints hL
      subst hL
      obtain ⟨ab, ao, asp⟩ := a
      simp only at hs
      subst hs
      obtain ⟨cap', rfl⟩ : ∃ cap', V1 = .slice (some ⟨φ.b ab, ao, none⟩) n cap' := by
        simp only [RV] at r1
        exact ⟨_, r1⟩
      have hn : ns.length = n := by simpa using hl
      have hx := Lib.run_countSlice (P := prog) w (φ.b ab) ao n cap' ns hn (fun i hi => by
        have := hC i (.int .u8 (ns.getD i 0)) (by simp [List.getElem?_map, List.getD_eq_getElem?_getD, List.getElem?_eq_getElem (show i < ns.length by omega)])
        exact this) c
      refine ⟨?_, by simp only [Option.pure_def, Option.some.injEq] at hv; subst hv; rfl⟩
      rw [run_callFunc_extern func150 (by kernel_rfl) (by kernel_rfl) (by kernel_rfl) (e := Extern.BytealgCount.count) (by kernel_rfl), hx]
      simp only [Result.andThen]
      simp only [Option.pure_def, Option.some.injEq] at hv
      subst hv
      rfl
    · cases ha
end Go.Ev
