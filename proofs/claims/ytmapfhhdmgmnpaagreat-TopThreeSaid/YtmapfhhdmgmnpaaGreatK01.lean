import Derived.Calls
import Derived.Below
import Derived.Test.YtmapfhhdmgmnpaaGreatK00
namespace TP
open Tree
variable {α β ε : Type}
abbrev Nm := Nat × Path
mutual
def lab (p : Path) : Tree α → Tree (Nm × α)
  | .mk d ks => .mk ((0, p), d) (labs p 0 ks)
def labs (p : Path) (i : Nat) : List (Tree α) → List (Tree (Nm × α))
  | [] => []
  | k :: ks => lab (p ++ [i]) k :: labs p (i + 1) ks
end
mutual
def tmap (f : α → β) : Tree α → Tree β
  | .mk d ks => .mk (f d) (tmaps f ks)
def tmaps (f : α → β) : List (Tree α) → List (Tree β)
  | [] => []
  | k :: ks => tmap f k :: tmaps f ks
end
theorem tmaps_eq (f : α → β) (l : List (Tree α)) : tmaps f l = l.map (tmap f) := by
  induction l with
  | nil => rfl
  | cons k l ih => simp [tmaps, ih]
theorem tmap_eq (f : α → β) (T : Tree α) : tmap f T = .mk (f T.d) (T.kids.map (tmap f)) := by
  cases T; simp [tmap, tmaps_eq]
theorem lab_eq (p : Path) (T : Tree α) : lab p T = .mk ((0, p), T.d) (labs p 0 T.kids) := by cases T; rfl
theorem labs_get (p : Path) (i n : Nat) (l : List (Tree α)) : (labs p i l)[n]? = l[n]?.map (lab (p ++ [i + n])) := by
  induction l generalizing i n with
  | nil => simp [labs]
  | cons k l ih => cases n with
    | zero => simp [labs]
    | succ n => simp only [labs, List.getElem?_cons_succ, ih]; congr 3; simp; omega
mutual
theorem tmap_lab (p : Path) : ∀ T : Tree α, tmap Prod.snd (lab p T) = T
  | .mk d ks => by simp only [lab, tmap]; rw [tmaps_labs p 0 ks]
theorem tmaps_labs (p : Path) (i : Nat) : ∀ l : List (Tree α), tmaps Prod.snd (labs p i l) = l
  | [] => rfl
  | k :: l => by simp only [labs, tmaps]; rw [tmap_lab _ k, tmaps_labs _ _ l]
end
theorem at?_lab (q p : Path) (T : Tree α) : at? q (lab p T) = (at? q T).map (lab (p ++ q)) := by
  induction q generalizing p T with
  | nil => simp [at?]
  | cons i q ih =>
    simp only [at?, lab_eq, kids_mk, labs_get]
    cases T.kids[i]? with
    | none => rfl
    | some k => simp only [Option.map_some, Option.bind_some, ih]; congr 2; simp
theorem at?_tmap (f : α → β) (q : Path) (T : Tree α) : at? q (tmap f T) = (at? q T).map (tmap f) := by
  induction q generalizing T with
  | nil => rfl
  | cons i q ih =>
    simp only [at?, tmap_eq f T, kids_mk, List.getElem?_map]
    cases T.kids[i]? with
    | none => rfl
    | some k => exact ih k
theorem tmap_upd {f : α → β} {h : Tree α → Tree α} {h' : Tree β → Tree β} (hh : ∀ X, tmap f (h X) = h' (tmap f X)) (p : Path) (T : Tree α) : tmap f (upd h p T) = upd h' p (tmap f T) := by
  induction p generalizing T with
  | nil => exact hh T
  | cons i p ih =>
    simp only [upd, tmap_eq f T, tmap_eq f (.mk _ _), d_mk, kids_mk]
    congr 1
    apply List.ext_getElem?
    intro n
    simp only [List.getElem?_map, List.getElem?_modify]
    cases T.kids[n]? with
    | none => rfl
    | some k => simp only [Option.map_eq_map, Option.map_some]; split <;> simp [ih]
theorem tmap_ins (f : α → β) (P : Path) (g : Nat) (Y T : Tree α) : tmap f (ins P g Y T) = ins P g (tmap f Y) (tmap f T) :=
  tmap_upd (fun X => by simp [insK, tmap_eq f X, tmap_eq f (.mk _ _), List.map_take, List.map_drop]) P T
theorem tmap_del (f : α → β) (P : Path) (c : Nat) (T : Tree α) : tmap f (del P c T) = del P c (tmap f T) :=
  tmap_upd (fun X => by
    simp only [delK, tmap_eq f X, tmap_eq f (.mk _ _), d_mk, kids_mk]; congr 1
    apply List.ext_getElem?; intro n; simp only [List.getElem?_map, List.getElem?_eraseIdx]; split <;> rfl) P T
theorem tmap_mov (f : α → β) (P : Path) (c : Nat) (t : Path) (g : Nat) (U T : Tree α) : tmap f (mov P c t g U T) = mov P c t g (tmap f U) (tmap f T) := by
  unfold mov; rw [tmap_ins, tmap_del]
theorem tmap_dat {f : α → β} {h : α → α} {h' : β → β} (hh : ∀ x, f (h x) = h' (f x)) (P : Path) (T : Tree α) : tmap f (dat P h T) = dat P h' (tmap f T) :=
  tmap_upd (fun X => by simp [datK, tmap_eq f X, tmap_eq f (.mk _ _), hh]) P T
theorem kids_tmap (f : α → β) (T : Tree α) : (tmap f T).kids.length = T.kids.length := by rw [tmap_eq]; simp
theorem d_tmap (f : α → β) (T : Tree α) : (tmap f T).d = f T.d := by rw [tmap_eq]; rfl
def lift (n : Nm) : Op α ε → Op (Nm × α) ε
  | .ins P g x => .ins P g (n, x)
  | .del q => .del q
  | .mov q t g => .mov q t g
  | .dat p e => .dat p e
theorem lift_ins (n : Nm) (P : Path) (g : Nat) (x : α) : lift n (.ins P g x : Op α ε) = .ins P g (n, x) := rfl
theorem lift_del (n : Nm) (q : Path) : lift n (.del q : Op α ε) = .del q := rfl
theorem lift_mov (n : Nm) (q t : Path) (g : Nat) : lift n (.mov q t g : Op α ε) = .mov q t g := rfl
theorem lift_dat (n : Nm) (p : Path) (e : ε) : lift n (.dat p e : Op α ε) = .dat p e := rfl
def drop : Op (Nm × α) ε → Op α ε
  | .ins P g x => .ins P g x.2
  | .del q => .del q
  | .mov q t g => .mov q t g
  | .dat p e => .dat p e
theorem drop_lift (n : Nm) (o : Op α ε) : drop (lift n o) = o := by cases o <;> rfl
def Data.lift (D : Data α ε) : Data (Nm × α) ε where
  leaf x := D.leaf x.2
  ok e x := D.ok e x.2
  app e x := (x.1, D.app e x.2)
  leaf_app e x := D.leaf_app e x.2
def Edits.lift (E : Edits α ε) : Edits (Nm × α) ε where
  toData := E.toData.lift
  tr := E.tr
  tr_ok a b x f la lb h1 h2 h3 h4 := by
    obtain ⟨k1, k2, k3⟩ := E.tr_ok a b x.2 f la lb h1 h2 h3 h4
    refine ⟨k1, k2, ?_⟩
    cases la <;> cases lb <;> exact Prod.ext rfl k3
theorem Ap.drop {D : Data α ε} {T T' : Tree (Nm × α)} {o : Op (Nm × α) ε} (h : Ap D.lift T o T') : Ap D (tmap Prod.snd T) (TP.drop o) (tmap Prod.snd T') := by
  have at_ : ∀ {p : Path} {X : Tree (Nm × α)}, at? p T = some X → at? p (tmap Prod.snd T) = some (tmap Prod.snd X) := fun h => by rw [at?_tmap, h]; rfl
  cases h with
  | @ins P g x Z hZ hl hg =>
    rw [tmap_ins, tmap_eq Prod.snd (.mk _ _)]
    exact .ins (at_ hZ) (by rw [d_tmap]; exact hl) (by rw [kids_tmap]; exact hg)
  | del hU => rw [tmap_del]; exact .del (at_ hU)
  | mov hU hn hZ hl hg => rw [tmap_mov]; exact .mov (at_ hU) hn (at_ hZ) (by rw [d_tmap]; exact hl) (by rw [kids_tmap]; exact hg)
  | @dat p e Z hZ ho =>
    rw [tmap_dat (f := Prod.snd) (h := D.lift.app e) (h' := D.app e) (fun _ => rfl)]
    exact .dat (at_ hZ) (by rw [d_tmap]; exact ho)
theorem Aps.drop {D : Data α ε} {T T' : Tree (Nm × α)} {l : List (Op (Nm × α) ε)} (h : Aps D.lift T l T') : Aps D (tmap Prod.snd T) (l.map TP.drop) (tmap Prod.snd T') := by
  induction h with
  | nil => exact .nil
  | cons h _ ih => exact .cons h.drop ih
theorem Ap.lift {D : Data α ε} {T T1 : Tree α} {o : Op α ε} (h : Ap D T o T1) (n : Nm) {L : Tree (Nm × α)} (hL : tmap Prod.snd L = T) : ∃ L1, Ap D.lift L (TP.lift n o) L1 ∧ tmap Prod.snd L1 = T1 := by
  subst hL
  have at_ : ∀ {p : Path} {X : Tree α}, at? p (tmap Prod.snd L) = some X → ∃ Y, at? p L = some Y ∧ tmap Prod.snd Y = X := fun h => by
    rw [at?_tmap] at h; exact Option.map_eq_some_iff.1 h
  cases h with
  | @ins P g x Z hZ hl hg =>
    obtain ⟨Y, hY, rfl⟩ := at_ hZ
    rw [d_tmap] at hl; rw [kids_tmap] at hg
    exact ⟨_, Ap.ins (D := D.lift) (x := (n, x)) hY hl hg, by rw [tmap_ins, tmap_eq Prod.snd (.mk _ _)]; rfl⟩
  | @del P c U hU =>
    obtain ⟨Y, hY, rfl⟩ := at_ hU
    exact ⟨_, Ap.del (D := D.lift) hY, by rw [tmap_del]⟩
  | @mov P c t g U Z hU hn hZ hl hg =>
    obtain ⟨Y, hY, rfl⟩ := at_ hU
    obtain ⟨Z', hZ', rfl⟩ := at_ hZ
    rw [d_tmap] at hl; rw [kids_tmap] at hg
    exact ⟨_, Ap.mov (D := D.lift) hY hn hZ' hl hg, by rw [tmap_mov]⟩
  | @dat p e Z hZ ho =>
    obtain ⟨Y, hY, rfl⟩ := at_ hZ
    rw [d_tmap] at ho
    exact ⟨_, Ap.dat (D := D.lift) hY ho, by rw [tmap_dat (f := Prod.snd) (h := D.lift.app e) (h' := D.app e) (fun _ => rfl)]⟩
theorem node_lift (n : Nm) (o : Op α ε) (p : Path) : node (lift n o) p = node o p := by cases o <;> rfl
theorem gap_lift (n : Nm) (o : Op α ε) (p : Path) (h : Nat) (f : Bool) : gap (lift n o) p h f = gap o p h f := by cases o <;> rfl
theorem shifted_lift (m n : Nm) (b a : Op α ε) (f : Bool) : shifted (lift m b) (lift n a) f = lift m (shifted b a f) := by
  cases b <;> simp only [shifted, node_lift, gap_lift, lift_ins, lift_del, lift_mov, lift_dat]
theorem path_lift (n : Nm) (o : Op α ε) : path (lift n o) = path o := by cases o <;> rfl
theorem beh_lift (E : Edits α ε) (m n : Nm) (b a : Op α ε) (f : Bool) : beh E.lift (lift m b) (lift n a) f = (beh E b a f).map fun l => l.map (lift m) := by
  have hs := shifted_lift m n b a f
  have hm : ∀ (p : Path) (o : Option ε), (Option.map (Op.dat p : ε → Op (Nm × α) ε) o).toList = ((Option.map (Op.dat p : ε → Op α ε) o).toList).map (lift m) := fun p o => by cases o <;> rfl
  cases a with
  | del qa =>
    by_cases h : qa <+: path b
    · have h' : qa <+: path (lift m b) := by rw [path_lift]; exact h
      simp only [lift_del, beh, if_pos h, if_pos h', Option.map_some, List.map_nil]
    · have h' : ¬ qa <+: path (lift m b) := by rw [path_lift]; exact h
      simp only [lift_del, beh, if_neg h, if_neg h']
      cases b <;> simp only [lift_ins, lift_del, lift_mov, lift_dat, lift_del] at hs ⊢ <;> (try rw [hs]) <;> simp only [apply_ite (Option.map fun l => List.map (lift m) l), apply_ite (List.map (lift (ε := ε) m)), Option.map_some, List.map_cons, List.map_nil, Option.map_map, Function.comp_def, lift_del, lift_mov, undo] <;> rfl
  | _ =>
    cases b <;> simp only [lift_ins, lift_del, lift_mov, lift_dat, beh] at hs ⊢ <;> (try rw [hs]) <;> simp only [apply_ite (Option.map fun l => List.map (lift m) l), apply_ite (List.map (lift (ε := ε) m)), Option.map_some, List.map_cons, List.map_nil, Option.map_map, Function.comp_def, lift_del, lift_mov, undo]
    all_goals first
      | rfl
      | (show (if _ then (E.tr _ _ f).map _ else _) = _
         congr 2; funext o; exact hm _ o)
theorem square {E : Edits α ε} {T T1 T2 : Tree α} {a b : Op α ε} {f : Bool} {la lb : List (Op α ε)} (ha : Ap E.toData T a T1) (hb : Ap E.toData T b T2)
    (hw : ∀ p X, at? p T = some X → E.leaf X.d = true → X.kids = []) (h1 : beh E b a f = some lb) (h2 : beh E a b (!f) = some la) :
    ∃ R, Aps E.toData T1 lb R ∧ Aps E.toData T2 la R := by
  have hT := tmap_lab [] T
  generalize hL : lab [] T = L at hT
  have nm : ∀ q X, at? q L = some X → X.d.1 = (0, q) := by
    intro q X h
    rw [← hL, at?_lab] at h
    obtain ⟨Y, _, rfl⟩ := Option.map_eq_some_iff.1 h
    rw [lab_eq]; simp
  obtain ⟨L1, a1, e1⟩ := ha.lift (1, []) hT
  obtain ⟨L2, b1, e2⟩ := hb.lift (2, []) hT
  have hu : Uniq Prod.fst L := fun p q X Y hX hY e => by
    rw [nm _ _ hX, nm _ _ hY] at e; exact (Prod.mk.inj e).2
  have new_lift : ∀ (n : Nm) (o : Op α ε) p d, newOf (lift n o) = some (p, d) → d.1 = n := by
    intro n o p d h
    cases o <;> simp only [lift, newOf] at h
    · cases h; rfl
    all_goals cases h
  have fr : ∀ (n : Nm) (o : Op α ε), n.1 ≠ 0 → Fresh Prod.fst L (lift n o) := fun n o hn p d h q X hX e => by
    rw [new_lift _ _ _ _ h, nm _ _ hX] at e; exact hn (by rw [← e])
  have hN : News Prod.fst L (lift (1, []) a) (lift (2, []) b) := ⟨fr _ _ (by simp), fr _ _ (by simp), fun p d p' d' h h' e => by
    rw [new_lift _ _ _ _ h, new_lift _ _ _ _ h'] at e; cases e⟩
  have hw' : ∀ p X, at? p L = some X → E.lift.leaf X.d = true → X.kids = [] := fun p X hX hl => by
    have h' : at? p T = some (tmap Prod.snd X) := by rw [← hT, at?_tmap, hX]; rfl
    have := hw _ _ h' (by rw [d_tmap]; exact hl)
    have hlen : X.kids.length = 0 := by rw [← kids_tmap Prod.snd X, this]; rfl
    exact List.length_eq_zero_iff.1 hlen
  have h1' : beh E.lift (lift (2, []) b) (lift (1, []) a) f = some (lb.map (lift (2, []))) := by rw [beh_lift, h1]; rfl
  have h2' : beh E.lift (lift (1, []) a) (lift (2, []) b) (!f) = some (la.map (lift (1, []))) := by rw [beh_lift, h2]; rfl
  obtain ⟨R, x, y⟩ := tp1 (E := E.lift) (π := Prod.fst) (fun _ _ => rfl) hu a1 b1 hN hw' h1' h2'
  have x' := Aps.drop x
  have y' := Aps.drop y
  have hm : ∀ (n : Nm) (l : List (Op α ε)), (l.map (lift n)).map TP.drop = l := fun n l => by
    rw [List.map_map]; conv => rhs; rw [← List.map_id l]
    congr 1; funext o; exact drop_lift n o
  rw [hm, e1] at x'; rw [hm, e2] at y'
  exact ⟨_, x', y'⟩
end TP
namespace TP
open Tree
variable {α ε : Type}
inductive Br (E : Edits α ε) : Bool → List (Op α ε) → List (Op α ε) → List (Op α ε) → List (Op α ε) → Prop
  | nilA {f : Bool} {bs : List (Op α ε)} : Br E f [] bs [] bs
  | nilB {f : Bool} {as : List (Op α ε)} : Br E f as [] as []
  | one {f : Bool} {a b : Op α ε} {x y : List (Op α ε)} : beh E a b f = some x → beh E b a (!f) = some y → Br E f [a] [b] x y
  | appA {f : Bool} {as as' bs x y z w : List (Op α ε)} : Br E f as bs x y → Br E f as' y z w → Br E f (as ++ as') bs (x ++ z) w
  | appB {f : Bool} {as bs bs' x y z w : List (Op α ε)} : Br E f as bs x y → Br E f x bs' z w → Br E f as (bs ++ bs') z (y ++ w)
theorem Aps.append {D : Data α ε} {T T1 T2 : Tree α} {l m : List (Op α ε)} (h : Aps D T l T1) (h' : Aps D T1 m T2) : Aps D T (l ++ m) T2 := by
  induction h with
  | nil => exact h'
  | cons a _ ih => exact .cons a (ih h')
theorem Aps.split {D : Data α ε} {T T2 : Tree α} {l m : List (Op α ε)} (h : Aps D T (l ++ m) T2) : ∃ T1, Aps D T l T1 ∧ Aps D T1 m T2 := by
  induction l generalizing T with
  | nil => exact ⟨T, .nil, h⟩
  | cons o l ih =>
    cases h with
    | cons a h => obtain ⟨T1, x, y⟩ := ih h; exact ⟨T1, .cons a x, y⟩
theorem Aps.det {D : Data α ε} {T T1 T2 : Tree α} {l : List (Op α ε)} (h1 : Aps D T l T1) (h2 : Aps D T l T2) : T1 = T2 := by
  induction h1 with
  | nil => cases h2; rfl
  | cons a _ ih =>
    cases h2 with
    | cons a' h => obtain rfl := a.det a'; exact ih h
def Wf (D : Data α ε) (T : Tree α) : Prop := ∀ p X, at? p T = some X → D.leaf X.d = true → X.kids = []
theorem Br.ends {E : Edits α ε} {f : Bool} {as bs x y : List (Op α ε)} (h : Br E f as bs x y) (hW : ∀ (T T' : Tree α) (o : Op α ε), Wf E.toData T → Ap E.toData T o T' → Wf E.toData T') :
    ∀ {T T1 T2 : Tree α}, Wf E.toData T → Aps E.toData T as T1 → Aps E.toData T bs T2 → ∃ R, Aps E.toData T1 y R ∧ Aps E.toData T2 x R := by
  have hWs : ∀ {T T' : Tree α} {l : List (Op α ε)}, Wf E.toData T → Aps E.toData T l T' → Wf E.toData T' := by
    intro T T' l hw h
    induction h with
    | nil => exact hw
    | cons a _ ih => exact ih (hW _ _ _ hw a)
  induction h with
  | nilA => intro T T1 T2 hw h1 h2; cases h1; exact ⟨T2, h2, .nil⟩
  | nilB => intro T T1 T2 hw h1 h2; cases h2; exact ⟨T1, .nil, h1⟩
  | one e1 e2 =>
    intro T T1 T2 hw h1 h2
    cases h1 with
    | cons a h1 => cases h1; cases h2 with
      | cons b h2 => cases h2; exact square a b hw e2 (by rw [Bool.not_not]; exact e1)
  | appA _ _ ih1 ih2 =>
    intro T T1 T2 hw h1 h2
    obtain ⟨T', a, h1⟩ := h1.split
    obtain ⟨R, r1, r2⟩ := ih1 hw a h2
    obtain ⟨S, s1, s2⟩ := ih2 (hWs hw a) h1 r1
    exact ⟨S, s1, r2.append s2⟩
  | appB _ _ ih1 ih2 =>
    intro T T1 T2 hw h1 h2
    obtain ⟨T', b, h2⟩ := h2.split
    obtain ⟨R, r1, r2⟩ := ih1 hw h1 b
    obtain ⟨S, s1, s2⟩ := ih2 (hWs hw b) r2 h2
    exact ⟨S, r1.append s1, s2⟩
theorem Br.symm {E : Edits α ε} {f : Bool} {as bs x y : List (Op α ε)} (h : Br E f as bs x y) : Br E (!f) bs as y x := by
  induction h with
  | nilA => exact .nilB
  | nilB => exact .nilA
  | one e1 e2 => exact .one e2 (by rw [Bool.not_not]; exact e1)
  | appA _ _ ih1 ih2 => exact .appB ih1 ih2
  | appB _ _ ih1 ih2 => exact .appA ih1 ih2
theorem Br.invNil {E : Edits α ε} {f : Bool} {as bs x y : List (Op α ε)} (h : Br E f as bs x y) : (as = [] → x = [] ∧ y = bs) ∧ (bs = [] → x = as ∧ y = []) := by
  induction h with
  | nilA => exact ⟨fun _ => ⟨rfl, rfl⟩, fun e => ⟨rfl, e⟩⟩
  | nilB => exact ⟨fun e => ⟨e, rfl⟩, fun _ => ⟨rfl, rfl⟩⟩
  | one => exact ⟨(fun e => by cases e), (fun e => by cases e)⟩
  | appA _ _ ih1 ih2 =>
    refine ⟨fun e => ?_, fun e => ?_⟩
    · obtain ⟨e1, e2⟩ := List.append_eq_nil_iff.1 e
      obtain ⟨rfl, rfl⟩ := ih1.1 e1; obtain ⟨rfl, rfl⟩ := ih2.1 e2; exact ⟨rfl, rfl⟩
    · obtain ⟨rfl, rfl⟩ := ih1.2 e; obtain ⟨rfl, rfl⟩ := ih2.2 rfl; exact ⟨rfl, rfl⟩
  | appB _ _ ih1 ih2 =>
    refine ⟨fun e => ?_, fun e => ?_⟩
    · obtain ⟨rfl, rfl⟩ := ih1.1 e; obtain ⟨rfl, rfl⟩ := ih2.1 rfl; exact ⟨rfl, rfl⟩
    · obtain ⟨e1, e2⟩ := List.append_eq_nil_iff.1 e
      obtain ⟨rfl, rfl⟩ := ih1.2 e1; obtain ⟨rfl, rfl⟩ := ih2.2 e2; exact ⟨rfl, rfl⟩
theorem Br.invA {E : Edits α ε} {f : Bool} {as bs x y : List (Op α ε)} (h : Br E f as bs x y) : ∀ {A B : List (Op α ε)}, as = A ++ B → ∃ x1 y1 x2, Br E f A bs x1 y1 ∧ Br E f B y1 x2 y ∧ x = x1 ++ x2 := by
  induction h with
  | nilA => intro A B e; obtain ⟨rfl, rfl⟩ := List.append_eq_nil_iff.1 e.symm; exact ⟨_, _, _, .nilA, .nilA, rfl⟩
  | nilB => intro A B e; subst e; exact ⟨_, _, _, .nilB, .nilB, rfl⟩
  | one e1 e2 =>
    intro A B e
    cases A with
    | nil => simp at e; subst e; exact ⟨_, _, _, .nilA, .one e1 e2, rfl⟩
    | cons a A =>
      simp at e
      obtain ⟨rfl, rfl, rfl⟩ := e
      exact ⟨_, _, _, .one e1 e2, .nilA, by simp⟩
  | appA h1 h2 ih1 ih2 =>
    intro A B e
    rcases List.append_eq_append_iff.1 e with ⟨c, rfl, rfl⟩ | ⟨c, rfl, rfl⟩
    · obtain ⟨x1, y1, x2, k1, k2, rfl⟩ := ih2 rfl
      exact ⟨_, _, _, .appA h1 k1, k2, by simp⟩
    · obtain ⟨x1, y1, x2, k1, k2, rfl⟩ := ih1 rfl
      exact ⟨_, _, _, k1, .appA k2 h2, by simp⟩
  | appB h1 h2 ih1 ih2 =>
    intro A B e
    obtain ⟨x1, y1, x2, k1, k2, rfl⟩ := ih1 e
    obtain ⟨x3, y3, x4, k3, k4, rfl⟩ := ih2 rfl
    exact ⟨_, _, _, .appB k1 k3, .appB k2 k4, rfl⟩
theorem Br.invB {E : Edits α ε} {f : Bool} {as bs x y : List (Op α ε)} (h : Br E f as bs x y) {A B : List (Op α ε)} (e : bs = A ++ B) : ∃ x1 y1 y2, Br E f as A x1 y1 ∧ Br E f x1 B x y2 ∧ y = y1 ++ y2 := by
  obtain ⟨x1, y1, x2, k1, k2, e'⟩ := h.symm.invA e
  have k1 := k1.symm; have k2 := k2.symm
  rw [Bool.not_not] at k1 k2
  exact ⟨_, _, _, k1, k2, e'⟩
theorem Br.invOne {E : Edits α ε} {f : Bool} {as bs x y : List (Op α ε)} (h : Br E f as bs x y) : ∀ {a b : Op α ε}, as = [a] → bs = [b] → beh E a b f = some x ∧ beh E b a (!f) = some y := by
  have sing : ∀ {A B : List (Op α ε)} {a : Op α ε}, A ++ B = [a] → (A = [] ∧ B = [a]) ∨ (A = [a] ∧ B = []) := by
    intro A B a e
    cases A with
    | nil => exact .inl ⟨rfl, e⟩
    | cons c A => simp at e; obtain ⟨rfl, rfl, rfl⟩ := e; exact .inr ⟨rfl, rfl⟩
  induction h with
  | nilA => intro a b e; cases e
  | nilB => intro a b _ e; cases e
  | one e1 e2 => intro a b h h'; cases h; cases h'; exact ⟨e1, e2⟩
  | appA h1 h2 ih1 ih2 =>
    intro a b e e'
    rcases sing e with ⟨rfl, rfl⟩ | ⟨rfl, rfl⟩
    · obtain ⟨rfl, rfl⟩ := h1.invNil.1 rfl; exact ih2 rfl e'
    · obtain ⟨rfl, rfl⟩ := h2.invNil.1 rfl; rw [List.append_nil]; exact ih1 rfl e'
  | appB h1 h2 ih1 ih2 =>
    intro a b e e'
    rcases sing e' with ⟨rfl, rfl⟩ | ⟨rfl, rfl⟩
    · obtain ⟨rfl, rfl⟩ := h1.invNil.2 rfl; exact ih2 e rfl
    · obtain ⟨rfl, rfl⟩ := h2.invNil.2 rfl; rw [List.append_nil]; exact ih1 e rfl
theorem Br.det {E : Edits α ε} {f : Bool} {as bs x y : List (Op α ε)} (h : Br E f as bs x y) : ∀ {x' y' : List (Op α ε)}, Br E f as bs x' y' → x = x' ∧ y = y' := by
  induction h with
  | nilA => intro x' y' h; obtain ⟨rfl, rfl⟩ := h.invNil.1 rfl; exact ⟨rfl, rfl⟩
  | nilB => intro x' y' h; obtain ⟨rfl, rfl⟩ := h.invNil.2 rfl; exact ⟨rfl, rfl⟩
  | one e1 e2 =>
    intro x' y' h
    obtain ⟨h1, h2⟩ := h.invOne rfl rfl
    rw [e1] at h1; rw [e2] at h2; cases h1; cases h2; exact ⟨rfl, rfl⟩
  | appA _ _ ih1 ih2 =>
    intro x' y' h
    obtain ⟨x1, y1, x2, k1, k2, rfl⟩ := h.invA rfl
    obtain ⟨rfl, rfl⟩ := ih1 k1
    obtain ⟨rfl, rfl⟩ := ih2 k2
    exact ⟨rfl, rfl⟩
  | appB _ _ ih1 ih2 =>
    intro x' y' h
    obtain ⟨x1, y1, y2, k1, k2, rfl⟩ := h.invB rfl
    obtain ⟨rfl, rfl⟩ := ih1 k1
    obtain ⟨rfl, rfl⟩ := ih2 k2
    exact ⟨rfl, rfl⟩
theorem cube {E : Edits α ε} {T X Y Z : Tree α} {a b c a1 b1 ca c2 a2 b2 q1 q2 q3 q4 : List (Op α ε)} (hW : ∀ (T T' : Tree α) (o : Op α ε), Wf E.toData T → Ap E.toData T o T' → Wf E.toData T') (hw : Wf E.toData T)
    (ha : Aps E.toData T a X) (hb : Aps E.toData T b Y) (hc : Aps E.toData T c Z)
    (h1 : Br E true a b a1 b1) (h2 : Br E false c a ca q1) (h3 : Br E false ca b1 c2 q2) (h4 : Br E true a c a2 q3) (h5 : Br E true b1 ca b2 q4) :
    ∃ R, Aps E.toData X (b1 ++ c2) R ∧ Aps E.toData Z (a2 ++ b2) R ∧ Aps E.toData Y (a1 ++ c2) R := by
  have hWs : ∀ {T T' : Tree α} {l : List (Op α ε)}, Wf E.toData T → Aps E.toData T l T' → Wf E.toData T' := by
    intro T T' l hw h
    induction h with
    | nil => exact hw
    | cons a _ ih => exact ih (hW _ _ _ hw a)
  obtain ⟨rfl, rfl⟩ := h4.det h2.symm
  obtain ⟨rfl, rfl⟩ := h5.det h3.symm
  obtain ⟨V, v1, v2⟩ := h1.ends hW hw ha hb
  obtain ⟨W, w1, w2⟩ := h4.ends hW hw ha hc
  obtain ⟨R, r1, r2⟩ := h5.ends hW (hWs hw ha) v1 w1
  exact ⟨R, v1.append r1, w2.append r2, v2.append r1⟩
end TP
namespace TP
abbrev Str := List UInt8
structure Piece where
  keep : Nat
  drop : Nat
  put : Str
def ext : List Piece → Nat
  | [] => 0
  | p :: l => p.keep + p.drop + ext l
def outP : List Piece → Str → Str
  | [], _ => []
  | p :: l, t => t.take p.keep ++ p.put ++ outP l (t.drop (p.keep + p.drop))
def edit (l : List Piece) (t : Str) : Str := outP l t ++ t.drop (ext l)
theorem edit_nil (t : Str) : edit [] t = t := by simp [edit, outP, ext]
theorem edit_cons (p : Piece) (l : List Piece) (t : Str) : edit (p :: l) t = t.take p.keep ++ p.put ++ edit l (t.drop (p.keep + p.drop)) := by
  simp [edit, outP, ext, List.drop_drop]
theorem outP_append (l m : List Piece) (t : Str) : outP (l ++ m) t = outP l t ++ outP m (t.drop (ext l)) := by
  induction l generalizing t with
  | nil => simp [outP, ext]
  | cons p l ih => simp [outP, ext, ih, List.drop_drop]
theorem ext_append (l m : List Piece) : ext (l ++ m) = ext l + ext m := by
  induction l with
  | nil => simp [ext]
  | cons p l ih => simp [ext, ih]; omega
structure Mk where
  l : List Piece
  keep : Nat
namespace Mk
def opened (m : Mk) : Mk := if 0 < m.keep ∨ m.l = [] then ⟨m.l ++ [⟨m.keep, 0, []⟩], 0⟩ else m
def onLast (m : Mk) (f : Piece → Piece) : Mk := ⟨m.l.dropLast ++ (m.l.getLast?.map f).toList, m.keep⟩
def put (m : Mk) (s : Str) : Mk := if s = [] then m else m.opened.onLast fun p => { p with put := p.put ++ s }
def drop (m : Mk) (n : Nat) : Mk := if n = 0 then m else m.opened.onLast fun p => { p with drop := p.drop + n }
def kept (m : Mk) (n : Nat) : Mk := { m with keep := m.keep + n }
def piece (m : Mk) (p : Piece) : Mk := ((m.kept p.keep).put p.put).drop p.drop
def out (m : Mk) (t : Str) : Str := outP m.l t ++ (t.drop (TP.ext m.l)).take m.keep
def ext (m : Mk) : Nat := TP.ext m.l + m.keep
def Nrm (l : List Piece) : Prop := ∀ p ∈ l.tail, 0 < p.keep
theorem opened_cases (m : Mk) : ∃ l p, m.opened = ⟨l ++ [p], 0⟩ ∧ m.opened.out = m.out ∧ m.opened.ext = m.ext ∧ (Nrm m.l → Nrm (l ++ [p])) := by
  unfold opened
  split
  · rename_i h
    refine ⟨m.l, ⟨m.keep, 0, []⟩, rfl, ?_, ?_, ?_⟩
    · funext t; simp [out, outP_append, ext_append, outP]
    · simp [ext, ext_append, TP.ext]
    · intro hn p hp
      cases hl : m.l with
      | nil => simp [hl] at hp
      | cons q l =>
        rw [hl] at hp hn h
        simp only [List.cons_append, List.tail_cons, List.mem_append, List.mem_singleton] at hp
        rcases hp with hp | rfl
        · exact hn p (by simpa using hp)
        · rcases h with h | h
          · exact h
          · cases h
  · rename_i h
    have hk : m.keep = 0 := by omega
    have hl : m.l ≠ [] := fun e => h (.inr e)
    refine ⟨m.l.dropLast, m.l.getLast hl, ?_, rfl, rfl, ?_⟩
    · rw [List.dropLast_concat_getLast hl]; cases m; simp_all
    · rw [List.dropLast_concat_getLast hl]; exact id
theorem onLast_mk (l : List Piece) (p : Piece) (f : Piece → Piece) : (⟨l ++ [p], 0⟩ : Mk).onLast f = ⟨l ++ [f p], 0⟩ := by simp [onLast]
theorem put_out (m : Mk) (s : Str) (t : Str) : (m.put s).out t = m.out t ++ s := by
  unfold put; split
  · rename_i h; simp [h]
  · obtain ⟨l, p, h1, h2, _⟩ := m.opened_cases
    rw [← h2, h1, onLast_mk]
    simp [out, outP_append, outP]
theorem put_ext (m : Mk) (s : Str) : (m.put s).ext = m.ext := by
  unfold put; split
  · rfl
  · obtain ⟨l, p, h1, _, h2, _⟩ := m.opened_cases
    rw [← h2, h1, onLast_mk]
    simp [ext, ext_append, TP.ext]
theorem drop_out (m : Mk) (n : Nat) (t : Str) : (m.drop n).out t = m.out t := by
  unfold drop; split
  · rfl
  · obtain ⟨l, p, h1, h2, _⟩ := m.opened_cases
    rw [← h2, h1, onLast_mk]
    simp [out, outP_append, outP]
theorem drop_ext (m : Mk) (n : Nat) : (m.drop n).ext = m.ext + n := by
  unfold drop; split
  · omega
  · obtain ⟨l, p, h1, _, h2, _⟩ := m.opened_cases
    rw [← h2, h1, onLast_mk]
    simp [ext, ext_append, TP.ext]; omega
theorem kept_out (m : Mk) (n : Nat) (t : Str) : (m.kept n).out t = m.out t ++ (t.drop m.ext).take n := by
  simp only [kept, out, ext, List.append_assoc, List.take_add, List.drop_drop]
theorem kept_ext (m : Mk) (n : Nat) : (m.kept n).ext = m.ext + n := by simp [kept, ext]; omega
theorem edit_l (m : Mk) (t : Str) : edit m.l t = m.out t ++ t.drop m.ext := by
  simp only [edit, out, ext, List.append_assoc, ← List.drop_drop, List.take_append_drop]
theorem nrm_put {m : Mk} (h : Nrm m.l) (s : Str) : Nrm (m.put s).l := by
  unfold put; split
  · exact h
  · obtain ⟨l, p, h1, _, _, h3⟩ := m.opened_cases
    rw [h1, onLast_mk]
    have := h3 h
    cases l with
    | nil => intro q hq; simp at hq
    | cons a l => simp only [Nrm, List.cons_append, List.tail_cons, List.mem_append, List.mem_singleton] at this ⊢; rintro q (hq | rfl); exact this q (.inl hq); exact this p (.inr rfl)
theorem nrm_drop {m : Mk} (h : Nrm m.l) (n : Nat) : Nrm (m.drop n).l := by
  unfold drop; split
  · exact h
  · obtain ⟨l, p, h1, _, _, h3⟩ := m.opened_cases
    rw [h1, onLast_mk]
    have := h3 h
    cases l with
    | nil => intro q hq; simp at hq
    | cons a l => simp only [Nrm, List.cons_append, List.tail_cons, List.mem_append, List.mem_singleton] at this ⊢; rintro q (hq | rfl); exact this q (.inl hq); exact this p (.inr rfl)
theorem nrm_piece {m : Mk} (h : Nrm m.l) (p : Piece) : Nrm (m.piece p).l := nrm_drop (nrm_put (m := m.kept p.keep) h _) _
end Mk
def norm (l : List Piece) : List Piece := (l.foldl Mk.piece ⟨[], 0⟩).l
theorem norm_nrm (l : List Piece) : Mk.Nrm (norm l) := by
  have : ∀ (l : List Piece) (m : Mk), Mk.Nrm m.l → Mk.Nrm (l.foldl Mk.piece m).l := by
    intro l; induction l with
    | nil => exact fun _ h => h
    | cons p l ih => exact fun m h => ih _ (Mk.nrm_piece h p)
  exact this l _ (fun p hp => by simp at hp)
theorem fold_piece (l : List Piece) (m : Mk) (t : Str) : (l.foldl Mk.piece m).ext = m.ext + ext l ∧ (l.foldl Mk.piece m).out t = m.out t ++ outP l (t.drop m.ext) := by
  induction l generalizing m with
  | nil => simp [ext, outP]
  | cons p l ih =>
    obtain ⟨h1, h2⟩ := ih (m.piece p)
    have e : (m.piece p).ext = m.ext + (p.keep + p.drop) := by simp only [Mk.piece, Mk.drop_ext, Mk.put_ext, Mk.kept_ext]; omega
    refine ⟨by rw [List.foldl_cons, h1, e, ext]; omega, ?_⟩
    rw [List.foldl_cons, h2, e]
    simp only [Mk.piece, Mk.drop_out, Mk.put_out, Mk.kept_out, outP, List.append_assoc, List.drop_drop]
theorem norm_edit (l : List Piece) (t : Str) : edit (norm l) t = edit l t := by
  obtain ⟨h1, h2⟩ := fold_piece l ⟨[], 0⟩ t
  rw [norm, Mk.edit_l, h1, h2]
  simp [Mk.out, Mk.ext, outP, ext, edit]
theorem norm_ext (l : List Piece) : ext (norm l) ≤ ext l := by
  obtain ⟨h1, _⟩ := fold_piece l ⟨[], 0⟩ []
  have : ext (norm l) ≤ (l.foldl Mk.piece ⟨[], 0⟩).ext := by unfold Mk.ext norm; omega
  simp [Mk.ext, ext] at h1; unfold Mk.ext at this; omega
def rowPut : List Piece → Str × List Piece
  | [] => ([], [])
  | p :: r => if p.keep = 0 then (p.put, { p with put := [] } :: r) else ([], p :: r)
def rowRun : List Piece → List Piece × Option (Nat × Bool)
  | [] => ([], none)
  | p :: r => if 0 < p.keep then (p :: r, some (p.keep, false)) else if 0 < p.drop then (p :: r, some (p.drop, true)) else rowRun r
def rowTake (n : Nat) : List Piece → List Piece
  | [] => []
  | p :: r => if 0 < p.keep then { p with keep := p.keep - n } :: r else { p with drop := p.drop - n } :: r
structure Tf where
  p : List Piece
  q : List Piece
  x : Mk
  y : Mk
def puts (f : Bool) (s : Tf) : Tf :=
  let a := rowPut s.p; let b := rowPut s.q
  if f then ⟨a.2, b.2, (s.x.put a.1).kept b.1.length, (s.y.kept a.1.length).put b.1⟩
  else ⟨a.2, b.2, (s.x.kept b.1.length).put a.1, (s.y.put b.1).kept a.1.length⟩
def runs (s : Tf) : Option Tf :=
  let a := rowRun s.p; let b := rowRun s.q
  let go (n : Nat) (x y : Bool) : Tf := ⟨rowTake n a.1, rowTake n b.1, if x && y then s.x else if x then s.x.drop n else if y then s.x else s.x.kept n, if x && y then s.y else if x then s.y else if y then s.y.drop n else s.y.kept n⟩
  match a.2, b.2 with
  | none, none => none
  | some (n, x), none => some (go n x false)
  | none, some (m, y) => some (go m false y)
  | some (n, x), some (m, y) => some (go (min n m) x y)
inductive Loops (f : Bool) : Tf → Mk → Mk → Prop
  | stop {s : Tf} : runs (puts f s) = none → Loops f s (puts f s).x (puts f s).y
  | next {s s' : Tf} {x y : Mk} : runs (puts f s) = some s' → Loops f s' x y → Loops f s x y
theorem rowPut_edit (r : List Piece) (t : Str) : edit r t = (rowPut r).1 ++ edit (rowPut r).2 t := by
  cases r with
  | nil => rfl
  | cons p r => simp only [rowPut]; split <;> simp [edit_cons, *]
theorem rowPut_ext (r : List Piece) : ext (rowPut r).2 = ext r := by
  cases r with
  | nil => rfl
  | cons p r => simp only [rowPut]; split <;> simp [ext]
theorem rowRun_ext (r : List Piece) : ext (rowRun r).1 = ext r := by
  induction r with
  | nil => rfl
  | cons p r ih =>
    simp only [rowRun]; split
    · rfl
    · split
      · rfl
      · rw [ih]; simp only [ext]; omega
def Bare0 : List Piece → Prop
  | [] => True
  | p :: r => (p.keep = 0 → p.put = []) ∧ ∀ q ∈ r, 0 < q.keep
theorem rowPut_bare {r : List Piece} (h : Mk.Nrm r) : Bare0 (rowPut r).2 := by
  cases r with
  | nil => trivial
  | cons p r => simp only [rowPut]; split <;> exact ⟨by simp_all, by simpa [Mk.Nrm] using h⟩
theorem rowRun_bare : ∀ {r : List Piece}, Bare0 r → Bare0 (rowRun r).1 ∧ ∀ t, edit (rowRun r).1 t = edit r t
  | [], _ => ⟨trivial, fun _ => rfl⟩
  | p :: r, h => by
    simp only [rowRun]
    split
    · exact ⟨h, fun _ => rfl⟩
    · split
      · exact ⟨h, fun _ => rfl⟩
      · have hb : Bare0 r := by
          cases r with
          | nil => trivial
          | cons q r => exact ⟨fun e => by have := h.2 q (by simp); omega, fun x hx => h.2 x (by simp [hx])⟩
        obtain ⟨h1, h2⟩ := rowRun_bare hb
        have hk : p.keep = 0 := by omega
        have hd : p.drop = 0 := by omega
        refine ⟨h1, fun t => ?_⟩
        rw [h2, edit_cons, h.1 hk, hk, hd]; simp
theorem rowRun_some {r : List Piece} {n : Nat} {x : Bool} (h : (rowRun r).2 = some (n, x)) : ∃ p r', (rowRun r).1 = p :: r' ∧ ((x = false ∧ 0 < p.keep ∧ n = p.keep) ∨ (x = true ∧ p.keep = 0 ∧ 0 < p.drop ∧ n = p.drop)) := by
  induction r with
  | nil => simp [rowRun] at h
  | cons p r ih =>
    simp only [rowRun] at h ⊢
    split at h
    · cases h; rename_i hk; rw [if_pos hk]; exact ⟨p, r, rfl, .inl ⟨rfl, hk, rfl⟩⟩
    · rename_i hk; rw [if_neg hk]
      split at h
      · cases h; rename_i hd; rw [if_pos hd]; exact ⟨p, r, rfl, .inr ⟨rfl, by omega, hd, rfl⟩⟩
      · rename_i hd; rw [if_neg hd]; exact ih h
theorem rowRun_none {r : List Piece} (h : (rowRun r).2 = none) : (rowRun r).1 = [] := by
  induction r with
  | nil => rfl
  | cons p r ih =>
    simp only [rowRun] at h ⊢
    split at h
    · cases h
    · rename_i hk; rw [if_neg hk]
      split at h
      · cases h
      · rename_i hd; rw [if_neg hd]; exact ih h
theorem take_run {r : List Piece} (hb : Bare0 r) {n m : Nat} {x : Bool} (h : (rowRun r).2 = some (n, x)) (hm : m ≤ n) (t : Str) :
    edit (rowRun r).1 t = (if x then [] else t.take m) ++ edit (rowTake m (rowRun r).1) (t.drop m) ∧ Mk.Nrm (rowTake m (rowRun r).1) ∧ m + ext (rowTake m (rowRun r).1) = ext r := by
  obtain ⟨hb', _⟩ := rowRun_bare hb
  obtain ⟨p, r', e, h'⟩ := rowRun_some h
  have hext := rowRun_ext r
  rw [e] at hb' hext ⊢
  rcases h' with ⟨rfl, hk, rfl⟩ | ⟨rfl, hk, hd, rfl⟩
  · simp only [rowTake, if_pos hk, Bool.false_eq_true, if_false]
    refine ⟨?_, fun q hq => hb'.2 q (by simpa using hq), by rw [← hext]; simp only [ext]; omega⟩
    have e1 : p.keep = m + (p.keep - m) := by omega
    rw [edit_cons, edit_cons]
    simp only
    rw [List.drop_drop, show m + (p.keep - m + p.drop) = p.keep + p.drop by omega]
    conv => lhs; rw [e1, List.take_add]
    simp only [List.append_assoc]
    rw [← e1]
  · simp only [rowTake, hk, Nat.lt_irrefl, if_false, if_true]
    refine ⟨?_, fun q hq => hb'.2 q (by simpa using hq), by rw [← hext]; simp only [ext]; omega⟩
    rw [edit_cons, edit_cons]
    simp only [hk, hb'.1 hk, List.take_zero, List.nil_append, Nat.zero_add, List.append_nil, List.drop_drop]
    congr 2; omega
theorem take_end {r : List Piece} (h : (rowRun r).2 = none) (m : Nat) (t : Str) : edit (rowRun r).1 t = t.take m ++ edit (rowTake m (rowRun r).1) (t.drop m) ∧ Mk.Nrm (rowTake m (rowRun r).1) := by
  rw [rowRun_none h]
  exact ⟨by simp [rowTake, edit_nil], fun q hq => by simp [rowTake] at hq⟩
structure Inv (TA TB t : Str) (s : Tf) (A B C : Str) (c : Nat) : Prop where
  np : Mk.Nrm s.p
  nq : Mk.Nrm s.q
  a : TA = A ++ edit s.p (t.drop c)
  b : TB = B ++ edit s.q (t.drop c)
  xe : s.x.ext = B.length
  ye : s.y.ext = A.length
  xo : s.x.out TB = C
  yo : s.y.out TA = C
  fp : c + ext s.p ≤ t.length
  fq : c + ext s.q ≤ t.length
theorem Loops.ok {f : Bool} {s : Tf} {x y : Mk} (h : Loops f s x y) : ∀ {TA TB t A B C : Str} {c : Nat}, Inv TA TB t s A B C c →
    edit x.l TB = edit y.l TA ∧ ext x.l ≤ TB.length ∧ ext y.l ≤ TA.length := by
  have putsInv : ∀ {s : Tf} {TA TB t A B C : Str} {c : Nat}, Inv TA TB t s A B C c → ∃ A B C, TA = A ++ edit (puts f s).p (t.drop c) ∧ TB = B ++ edit (puts f s).q (t.drop c) ∧
      (puts f s).x.ext = B.length ∧ (puts f s).y.ext = A.length ∧ (puts f s).x.out TB = C ∧ (puts f s).y.out TA = C ∧ Bare0 (puts f s).p ∧ Bare0 (puts f s).q ∧ c + ext (puts f s).p ≤ t.length ∧ c + ext (puts f s).q ≤ t.length := by
    intro s TA TB t A B C c hv
    have hb := rowPut_bare hv.np; have hb' := rowPut_bare hv.nq
    refine ⟨A ++ (rowPut s.p).1, B ++ (rowPut s.q).1, C ++ (if f then (rowPut s.p).1 ++ (rowPut s.q).1 else (rowPut s.q).1 ++ (rowPut s.p).1), ?_⟩
    have ea : TA = A ++ (rowPut s.p).1 ++ edit (rowPut s.p).2 (t.drop c) := by rw [hv.a, List.append_assoc]; congr 1; exact rowPut_edit _ _
    have eb : TB = B ++ (rowPut s.q).1 ++ edit (rowPut s.q).2 (t.drop c) := by rw [hv.b, List.append_assoc]; congr 1; exact rowPut_edit _ _
    have hp1 : c + ext (rowPut s.p).2 ≤ t.length := by rw [rowPut_ext]; exact hv.fp
    have hq1 : c + ext (rowPut s.q).2 ≤ t.length := by rw [rowPut_ext]; exact hv.fq
    have da : (TA.drop A.length).take (rowPut s.p).1.length = (rowPut s.p).1 := by rw [ea, List.append_assoc, List.drop_left, List.take_left]
    have db : (TB.drop B.length).take (rowPut s.q).1.length = (rowPut s.q).1 := by rw [eb, List.append_assoc, List.drop_left, List.take_left]
    cases f
    · simp only [puts, Bool.false_eq_true, if_false, Mk.kept_ext, Mk.put_ext, Mk.kept_out, Mk.put_out, hv.xe, hv.ye, hv.xo, hv.yo, da, db, List.length_append, List.append_assoc]
      exact ⟨by rw [← List.append_assoc]; exact ea, by rw [← List.append_assoc]; exact eb, by simp, by simp, by simp, by simp, hb, hb', hp1, hq1⟩
    · simp only [puts, if_true, Mk.kept_ext, Mk.put_ext, Mk.kept_out, Mk.put_out, hv.xe, hv.ye, hv.xo, hv.yo, da, db, List.length_append, List.append_assoc]
      exact ⟨by rw [← List.append_assoc]; exact ea, by rw [← List.append_assoc]; exact eb, by simp, by simp, by simp, by simp, hb, hb', hp1, hq1⟩
  induction h with
  | @stop s hs =>
    intro TA TB t A B C c hi
    obtain ⟨A, B, C, ea, eb, xe, ye, xo, yo, b1, b2, fp, fq⟩ := putsInv hi
    have hn : (rowRun (puts f s).p).2 = none ∧ (rowRun (puts f s).q).2 = none := by
      unfold runs at hs
      cases h1 : (rowRun (puts f s).p).2 <;> cases h2 : (rowRun (puts f s).q).2 <;> simp [h1, h2] at hs ⊢
    rw [← (rowRun_bare b1).2, rowRun_none hn.1, edit_nil] at ea
    rw [← (rowRun_bare b2).2, rowRun_none hn.2, edit_nil] at eb
    refine ⟨?_, ?_, ?_⟩
    · rw [Mk.edit_l, Mk.edit_l, xo, yo, xe, ye, ea, eb, List.drop_left, List.drop_left]
    · have : ext (puts f s).x.l ≤ (puts f s).x.ext := by unfold Mk.ext; omega
      rw [eb, List.length_append]; omega
    · have : ext (puts f s).y.l ≤ (puts f s).y.ext := by unfold Mk.ext; omega
      rw [ea, List.length_append]; omega
  | @next s s' x y hs _ ih =>
    intro TA TB t A B C c hi
    obtain ⟨A, B, C, ea, eb, xe, ye, xo, yo, b1, b2, fp, fq⟩ := putsInv hi
    rw [← (rowRun_bare b1).2] at ea
    rw [← (rowRun_bare b2).2] at eb
    generalize puts f s = s1 at *
    have key : ∀ (n : Nat) (u v : Bool), edit (rowRun s1.p).1 (t.drop c) = (if u then [] else (t.drop c).take n) ++ edit (rowTake n (rowRun s1.p).1) ((t.drop c).drop n) → Mk.Nrm (rowTake n (rowRun s1.p).1) →
        edit (rowRun s1.q).1 (t.drop c) = (if v then [] else (t.drop c).take n) ++ edit (rowTake n (rowRun s1.q).1) ((t.drop c).drop n) → Mk.Nrm (rowTake n (rowRun s1.q).1) →
        c + n + ext (rowTake n (rowRun s1.p).1) ≤ t.length → c + n + ext (rowTake n (rowRun s1.q).1) ≤ t.length →
        s' = ⟨rowTake n (rowRun s1.p).1, rowTake n (rowRun s1.q).1, if u && v then s1.x else if u then s1.x.drop n else if v then s1.x else s1.x.kept n, if u && v then s1.y else if u then s1.y else if v then s1.y.drop n else s1.y.kept n⟩ →
        edit x.l TB = edit y.l TA ∧ ext x.l ≤ TB.length ∧ ext y.l ≤ TA.length := by
      intro n u v e1 n1 e2 n2 g1 g2 es
      subst es
      rw [e1, List.drop_drop] at ea; rw [e2, List.drop_drop] at eb
      have hl : ((t.drop c).take n).length = n := by rw [List.length_take, List.length_drop]; omega
      cases u <;> cases v <;> simp only [Bool.false_eq_true, if_false, if_true, Bool.and_false, Bool.and_true, List.nil_append] at ea eb ih ⊢
      · rw [← List.append_assoc] at ea eb
        have da : (TA.drop A.length).take n = (t.drop c).take n := by
          rw [ea, List.append_assoc, List.drop_left, List.take_left' (hl)]
        have db : (TB.drop B.length).take n = (t.drop c).take n := by
          rw [eb, List.append_assoc, List.drop_left, List.take_left' (hl)]
        exact ih ⟨n1, n2, ea, eb, by rw [Mk.kept_ext, xe, List.length_append, hl], by rw [Mk.kept_ext, ye, List.length_append, hl], rfl, by rw [Mk.kept_out, yo, ye, da, Mk.kept_out, xo, xe, db], g1, g2⟩
      · rw [← List.append_assoc] at ea
        exact ih ⟨n1, n2, ea, eb, xe, by rw [Mk.drop_ext, ye, List.length_append, hl], xo, by rw [Mk.drop_out, yo], g1, g2⟩
      · rw [← List.append_assoc] at eb
        exact ih ⟨n1, n2, ea, eb, by rw [Mk.drop_ext, xe, List.length_append, hl], ye, by rw [Mk.drop_out, xo], yo, g1, g2⟩
      · exact ih ⟨n1, n2, ea, eb, xe, ye, xo, yo, g1, g2⟩
    have te : ∀ {r : List Piece} (n : Nat), (rowRun r).2 = none → c + n ≤ t.length → c + n + ext (rowTake n (rowRun r).1) ≤ t.length := fun n h hc => by rw [rowRun_none h]; exact hc
    unfold runs at hs
    cases h1 : (rowRun s1.p).2 with
    | none =>
      cases h2 : (rowRun s1.q).2 with
      | none => simp [h1, h2] at hs
      | some b =>
        obtain ⟨m, v⟩ := b
        obtain ⟨k1, k2, k3⟩ := take_run b2 h2 (Nat.le_refl m) (t.drop c)
        obtain ⟨k4, k5⟩ := take_end h1 m (t.drop c)
        simp only [h1, h2, Option.some.injEq] at hs
        exact key m false v k4 k5 k1 k2 (te m h1 (by omega)) (by omega) hs.symm
    | some a =>
      obtain ⟨n, u⟩ := a
      cases h2 : (rowRun s1.q).2 with
      | none =>
        obtain ⟨k1, k2, k3⟩ := take_run b1 h1 (Nat.le_refl n) (t.drop c)
        obtain ⟨k4, k5⟩ := take_end h2 n (t.drop c)
        simp only [h1, h2, Option.some.injEq] at hs
        exact key n u false k1 k2 k4 k5 (by omega) (te n h2 (by omega)) hs.symm
      | some b =>
        obtain ⟨m, v⟩ := b
        obtain ⟨k1, k2, k3⟩ := take_run b1 h1 (Nat.min_le_left n m) (t.drop c)
        obtain ⟨k4, k5, k6⟩ := take_run b2 h2 (Nat.min_le_right n m) (t.drop c)
        simp only [h1, h2, Option.some.injEq] at hs
        exact key (min n m) u v k1 k2 k4 k5 (by omega) (by omega) hs.symm
theorem transform_ok {a b : List Piece} {t : Str} (ha : ext a ≤ t.length) (hb : ext b ≤ t.length) {f : Bool} {x y : Mk} (h : Loops f ⟨norm a, norm b, ⟨[], 0⟩, ⟨[], 0⟩⟩ x y) :
    edit x.l (edit b t) = edit y.l (edit a t) ∧ ext x.l ≤ (edit b t).length ∧ ext y.l ≤ (edit a t).length :=
  h.ok (TA := edit a t) (TB := edit b t) (t := t) (A := []) (B := []) (C := []) (c := 0)
    ⟨norm_nrm a, norm_nrm b, by simp [norm_edit], by simp [norm_edit], rfl, rfl, by simp [Mk.out, outP], by simp [Mk.out, outP], by have := norm_ext a; show 0 + ext (norm a) ≤ _; omega, by have := norm_ext b; show 0 + ext (norm b) ≤ _; omega⟩
end TP
namespace TP
open Tree
def blt : Str → Str → Bool
  | _, [] => false
  | [], _ :: _ => true
  | a :: x, b :: y => a < b || (a == b && blt x y)
theorem blt_irrefl : ∀ x : Str, blt x x = false
  | [] => rfl
  | a :: x => by simp [blt, blt_irrefl x]
theorem blt_trans : ∀ {x y z : Str}, blt x y = true → blt y z = true → blt x z = true
  | _, [], _, h, _ => by simp [blt] at h
  | _, _ :: _, [], _, h => by simp [blt] at h
  | [], _ :: _, _ :: _, _, _ => rfl
  | a :: x, b :: y, c :: z, h, h' => by
    simp only [blt, Bool.or_eq_true, Bool.and_eq_true, decide_eq_true_eq, beq_iff_eq] at h h' ⊢
    rcases h with h | ⟨rfl, h⟩ <;> rcases h' with h' | ⟨rfl, h'⟩
    · exact .inl (UInt8.lt_trans h h')
    · exact .inl h
    · exact .inl h'
    · exact .inr ⟨rfl, blt_trans h h'⟩
theorem blt_total : ∀ x y : Str, blt x y = true ∨ x = y ∨ blt y x = true
  | [], [] => .inr (.inl rfl)
  | [], _ :: _ => .inl rfl
  | _ :: _, [] => .inr (.inr rfl)
  | a :: x, b :: y => by
    simp only [blt, Bool.or_eq_true, Bool.and_eq_true, decide_eq_true_eq, beq_iff_eq]
    by_cases h : a < b
    · exact .inl (.inl h)
    · by_cases h' : b < a
      · exact .inr (.inr (.inl h'))
      · have e : a = b := UInt8.le_antisymm (UInt8.not_lt.1 h') (UInt8.not_lt.1 h)
        subst e
        rcases blt_total x y with h1 | rfl | h1
        · exact .inl (.inr ⟨rfl, h1⟩)
        · exact .inr (.inl rfl)
        · exact .inr (.inr (.inr ⟨rfl, h1⟩))
theorem blt_ne {x y : Str} (h : blt x y = true) : x ≠ y := fun e => by rw [e, blt_irrefl] at h; cases h
theorem blt_asymm {x y : Str} (h : blt x y = true) : blt y x = false := by
  cases h' : blt y x with
  | false => rfl
  | true => have := blt_trans h h'; rw [blt_irrefl] at this; cases this
abbrev Attrs := List (Str × Str)
def Sorted (l : Attrs) : Prop := l.Pairwise fun a b => blt a.1 b.1 = true
def setA (k : Str) (o : Option Str) : Attrs → Attrs
  | [] => (o.map fun v => (k, v)).toList
  | a :: l => if blt a.1 k then a :: setA k o l else if a.1 = k then (o.map fun v => (k, v)).toList ++ l else (o.map fun v => (k, v)).toList ++ a :: l
def look (k : Str) (l : Attrs) : Option Str := (l.find? fun a => a.1 = k).map (·.2)
theorem look_none {k : Str} {l : Attrs} (h : ∀ a ∈ l, blt k a.1 = true) : look k l = none := by
  unfold look
  rw [List.find?_eq_none.2]
  · rfl
  · intro a ha e
    have := blt_ne (h a ha)
    simp at e; exact this e.symm
theorem look_cons (k' : Str) (a : Str × Str) (l : Attrs) : look k' (a :: l) = if a.1 = k' then some a.2 else look k' l := by
  unfold look; rw [List.find?_cons]; by_cases h : a.1 = k' <;> simp [h]
theorem look_top {k k' : Str} {o : Option Str} {l : Attrs} (hl : ∀ a ∈ l, blt k a.1 = true) : look k' ((o.map fun v => (k, v)).toList ++ l) = if k' = k then o else look k' l := by
  cases o with
  | none =>
    simp only [Option.map_none, Option.toList_none, List.nil_append]
    split
    · rename_i h; rw [h, look_none hl]
    · rfl
  | some v =>
    simp only [Option.map_some, Option.toList_some, List.singleton_append]
    rw [look_cons]
    by_cases h : k' = k
    · rw [if_pos h.symm, if_pos h]
    · rw [if_neg (fun e => h e.symm), if_neg h]
theorem look_setA {k k' : Str} {o : Option Str} {l : Attrs} (hs : Sorted l) : look k' (setA k o l) = if k' = k then o else look k' l := by
  induction l with
  | nil => have := look_top (k := k) (k' := k') (o := o) (l := []) (by simp); rw [List.append_nil] at this; exact this
  | cons a l ih =>
    have hs' : Sorted l := (List.pairwise_cons.1 hs).2
    have hal := (List.pairwise_cons.1 hs).1
    simp only [setA]
    split
    · rename_i h
      rw [look_cons, look_cons, ih hs']
      by_cases h1 : a.1 = k'
      · rw [if_pos h1, if_neg (fun e => blt_ne h (h1.trans e)), if_pos h1]
      · rw [if_neg h1, if_neg h1]
    · split
      · rename_i h1 h2
        subst h2
        rw [look_top hal, look_cons]
        by_cases h : k' = a.1
        · rw [if_pos h, if_pos h]
        · rw [if_neg h, if_neg h, if_neg (fun e => h e.symm)]
      · rename_i h1 h2
        have hlt : blt k a.1 = true := by
          rcases blt_total k a.1 with h | h | h
          · exact h
          · exact absurd h.symm h2
          · exact absurd h h1
        exact look_top fun b hb => by
          rcases List.mem_cons.1 hb with rfl | hb
          · exact hlt
          · exact blt_trans hlt (hal b hb)
theorem mem_setA {k : Str} {o : Option Str} {l : Attrs} {a : Str × Str} (h : a ∈ setA k o l) : (∃ v, o = some v ∧ a = (k, v)) ∨ a ∈ l := by
  induction l with
  | nil => cases o <;> simp [setA] at h; exact .inl ⟨_, rfl, h⟩
  | cons b l ih =>
    simp only [setA] at h
    split at h
    · rcases List.mem_cons.1 h with rfl | h
      · exact .inr (by simp)
      · rcases ih h with h | h
        · exact .inl h
        · exact .inr (by simp [h])
    · split at h
      · rcases List.mem_append.1 h with h | h
        · cases o <;> simp at h; exact .inl ⟨_, rfl, h⟩
        · exact .inr (by simp [h])
      · rcases List.mem_append.1 h with h | h
        · cases o <;> simp at h; exact .inl ⟨_, rfl, h⟩
        · exact .inr h
theorem sorted_setA {k : Str} {o : Option Str} {l : Attrs} (hs : Sorted l) : Sorted (setA k o l) := by
  induction l with
  | nil => cases o <;> simp [setA, Sorted]
  | cons b l ih =>
    have hs' : Sorted l := (List.pairwise_cons.1 hs).2
    have hbl := (List.pairwise_cons.1 hs).1
    simp only [setA]
    split
    · rename_i h
      refine List.pairwise_cons.2 ⟨fun a ha => ?_, ih hs'⟩
      rcases mem_setA ha with ⟨v, _, rfl⟩ | ha
      · exact h
      · exact hbl a ha
    · split
      · rename_i h1 h2
        cases o with
        | none => exact hs'
        | some v => exact List.pairwise_cons.2 ⟨fun a ha => h2 ▸ hbl a ha, hs'⟩
      · rename_i h1 h2
        have hlt : blt k b.1 = true := by
          rcases blt_total k b.1 with h | h | h
          · exact h
          · exact absurd h.symm h2
          · exact absurd h h1
        cases o with
        | none => exact hs
        | some v => exact List.pairwise_cons.2 ⟨fun a ha => by
            rcases List.mem_cons.1 ha with rfl | ha
            · exact hlt
            · exact blt_trans hlt (hbl a ha), hs⟩
theorem sorted_ext : ∀ {l m : Attrs}, Sorted l → Sorted m → (∀ k, look k l = look k m) → l = m
  | [], [], _, _, _ => rfl
  | [], b :: m, _, _, h => by have := h b.1; simp [look] at this
  | a :: l, [], _, _, h => by have := h a.1; simp [look] at this
  | a :: l, b :: m, hl, hm, h => by
    have hal := (List.pairwise_cons.1 hl).1; have hbm := (List.pairwise_cons.1 hm).1
    have cons := look_cons
    have hk : a.1 = b.1 := by
      rcases blt_total a.1 b.1 with h1 | h1 | h1
      · have := h a.1
        rw [cons, cons, if_pos rfl, if_neg (fun e => blt_ne h1 e.symm), look_none (fun c hc => blt_trans h1 (hbm c hc))] at this; cases this
      · exact h1
      · have := h b.1
        rw [cons, cons, if_pos rfl, if_neg (fun e => blt_ne h1 e.symm), look_none (fun c hc => blt_trans h1 (hal c hc))] at this; cases this
    have hv : a.2 = b.2 := by have := h a.1; rw [cons, cons, if_pos rfl, if_pos hk.symm] at this; exact Option.some.inj this
    have hr : l = m := sorted_ext (List.pairwise_cons.1 hl).2 (List.pairwise_cons.1 hm).2 fun k => by
      by_cases e : k = a.1
      · subst e
        rw [look_none hal, look_none (fun c hc => hk ▸ hbm c hc)]
      · have := h k
        rw [cons, cons, if_neg (fun e' => e e'.symm), if_neg (fun e' => e (hk.trans e').symm)] at this; exact this
    rw [hr, Prod.ext hk hv]
theorem setA_comm {k k' : Str} {o o' : Option Str} {l : Attrs} (hs : Sorted l) (h : k ≠ k') : setA k o (setA k' o' l) = setA k' o' (setA k o l) :=
  sorted_ext (sorted_setA (sorted_setA hs)) (sorted_setA (sorted_setA hs)) fun x => by
    rw [look_setA (sorted_setA hs), look_setA hs, look_setA (sorted_setA hs), look_setA hs]
    by_cases h1 : x = k
    · subst h1; simp [h]
    · simp [h1]
theorem setA_twice {k : Str} {o o' : Option Str} {l : Attrs} (hs : Sorted l) : setA k o (setA k o' l) = setA k o l :=
  sorted_ext (sorted_setA (sorted_setA hs)) (sorted_setA hs) fun x => by
    rw [look_setA (sorted_setA hs), look_setA hs, look_setA hs]
    by_cases h1 : x = k <;> simp [h1]
structure Nd where
  id : Int
  leaf : Bool
  label : Str
  attrs : Attrs
  text : Str
inductive Dop where
  | set (k : Str) (o : Option Str)
  | rel (l : Str)
  | edt (l : List Piece)
def RightP (l : List Piece) : Prop := l.length ≤ 4096 ∧ (∀ p ∈ l, p.keep ≤ 1048576 ∧ p.drop ≤ 1048576) ∧ (l.map fun p => p.put.length).sum ≤ 1048576
def dok : Dop → Nd → Prop
  | .set _ _, x => Sorted x.attrs
  | .rel _, _ => True
  | .edt l, x => x.leaf = true ∧ ext l ≤ x.text.length
def dapp : Dop → Nd → Nd
  | .set k o, x => { x with attrs := setA k o x.attrs }
  | .rel l, x => { x with label := l }
  | .edt l, x => { x with text := edit l x.text }
def Both (f : Bool) (a b x y : List Piece) : Prop := ∃ X Y, Loops f ⟨norm a, norm b, ⟨[], 0⟩, ⟨[], 0⟩⟩ X Y ∧ x = X.l ∧ y = Y.l ∧ RightP x ∧ RightP y
def Tf.swap (s : Tf) : Tf := ⟨s.q, s.p, s.y, s.x⟩
theorem puts_swap (f : Bool) (s : Tf) : puts (!f) s.swap = (puts f s).swap := by cases f <;> rfl
theorem runs_swap (s : Tf) : runs s.swap = (runs s).map Tf.swap := by
  obtain ⟨p, q, X, Y⟩ := s
  simp only [runs, Tf.swap]
  cases h1 : (rowRun p).2 with
  | none => cases h2 : (rowRun q).2 with
    | none => rfl
    | some b => obtain ⟨n, y⟩ := b; cases y <;> rfl
  | some a => obtain ⟨n, x⟩ := a; cases h2 : (rowRun q).2 with
    | none => cases x <;> rfl
    | some b => obtain ⟨m, y⟩ := b; cases x <;> cases y <;> simp [Tf.swap, Nat.min_comm]
theorem Loops.swap {f : Bool} {s : Tf} {x y : Mk} (h : Loops f s x y) : Loops (!f) s.swap y x := by
  induction h with
  | @stop s hs =>
    have := Loops.stop (f := !f) (s := s.swap) (by rw [puts_swap, runs_swap, hs]; rfl)
    rw [puts_swap] at this; exact this
  | @next s s' x y hs _ ih => exact .next (by rw [puts_swap, runs_swap, hs]; rfl) ih
theorem Loops.det {f : Bool} {s : Tf} {x y : Mk} (h : Loops f s x y) : ∀ {x' y' : Mk}, Loops f s x' y' → x = x' ∧ y = y' := by
  induction h with
  | stop hs => intro x' y' h; cases h with
    | stop => exact ⟨rfl, rfl⟩
    | next hs' => rw [hs] at hs'; cases hs'
  | next hs _ ih => intro x' y' h; cases h with
    | stop hs' => rw [hs] at hs'; cases hs'
    | next hs' h' => rw [hs] at hs'; cases hs'; exact ih h'
theorem Both.swap {f : Bool} {a b x y : List Piece} (h : Both f a b x y) : Both (!f) b a y x := by
  obtain ⟨X, Y, h, rfl, rfl, r, s⟩ := h; exact ⟨Y, X, h.swap, rfl, rfl, s, r⟩
theorem Both.det {f : Bool} {a b x y x' y' : List Piece} (h : Both f a b x y) (h' : Both f a b x' y') : x = x' ∧ y = y' := by
  obtain ⟨X, Y, h, rfl, rfl, _, _⟩ := h; obtain ⟨X', Y', h', rfl, rfl, _, _⟩ := h'
  obtain ⟨rfl, rfl⟩ := h.det h'; exact ⟨rfl, rfl⟩
open Classical in
noncomputable def dtr : Dop → Dop → Bool → Option (Option Dop)
  | .set k o, .set k' _, f => if k = k' then some (if f then some (.set k o) else none) else some (some (.set k o))
  | .rel l, .rel _, f => some (if f then some (.rel l) else none)
  | .edt l, .edt m, f => if h : ∃ x y, Both f l m x y then some (some (.edt h.choose)) else none
  | b, _, _ => some (some b)
theorem dtr_edt {f : Bool} {l m x y : List Piece} (h : Both f l m x y) : dtr (.edt l) (.edt m) f = some (some (.edt x)) := by
  have h' : ∃ x y, Both f l m x y := ⟨x, y, h⟩
  simp only [dtr, dif_pos h']
  obtain ⟨y', hy'⟩ := h'.choose_spec
  rw [(h.det hy').1]
noncomputable def E0 : Edits Nd Dop where
  leaf := Nd.leaf
  ok := dok
  app := dapp
  leaf_app e x := by cases e <;> rfl
  tr := dtr
  tr_ok a b x f la lb h1 h2 h3 h4 := by
    cases a with
    | set k o =>
      cases b with
      | set k' o' =>
        simp only [dtr] at h3 h4
        by_cases h : k = k'
        · subst h
          simp only [if_true, Option.some.injEq] at h3 h4
          cases f
          · simp only [Bool.not_false, if_true, Bool.false_eq_true, if_false] at h3 h4; subst h3; subst h4
            exact ⟨(fun _ e => by cases e), (fun _ e => by cases e; exact sorted_setA h1), by simp [dapp, setA_twice (show Sorted x.attrs from h1)]⟩
          · simp only [Bool.not_true, if_true, Bool.false_eq_true, if_false] at h3 h4; subst h3; subst h4
            exact ⟨(fun _ e => by cases e; exact sorted_setA h1), (fun _ e => by cases e), by simp [dapp, setA_twice (show Sorted x.attrs from h1)]⟩
        · rw [if_neg (fun e => h e.symm)] at h3; rw [if_neg h] at h4
          cases h3; cases h4
          exact ⟨(fun _ e => by cases e; exact sorted_setA h1), (fun _ e => by cases e; exact sorted_setA h1), by simp [dapp, setA_comm (show Sorted x.attrs from h1) h]⟩
      | _ => cases h3; cases h4; exact ⟨(fun _ e => by cases e; exact h2), (fun _ e => by cases e; exact h1), rfl⟩
    | rel l =>
      cases b with
      | rel l' =>
        simp only [dtr, Option.some.injEq] at h3 h4
        cases f
        · simp only [Bool.not_false, if_true, Bool.false_eq_true, if_false] at h3 h4; subst h3; subst h4
          exact ⟨(fun _ e => by cases e), (fun _ e => by cases e; trivial), rfl⟩
        · simp only [Bool.not_true, if_true, Bool.false_eq_true, if_false] at h3 h4; subst h3; subst h4
          exact ⟨(fun _ e => by cases e; trivial), (fun _ e => by cases e), rfl⟩
      | _ => cases h3; cases h4; exact ⟨(fun _ e => by cases e; exact h2), (fun _ e => by cases e; exact h1), rfl⟩
    | edt l =>
      cases b with
      | edt m =>
        simp only [dtr] at h3
        split at h3
        · rename_i h
          obtain ⟨x', y, hB⟩ := h
          have e3 : lb = some (.edt x') := by have := dtr_edt hB; simp only [dtr] at this; rw [← Option.some.injEq, ← this, ← h3, dif_pos ⟨x', y, hB⟩]
          have e4 : la = some (.edt y) := by have := dtr_edt hB.swap; rw [h4] at this; exact Option.some.inj this
          subst e3; subst e4
          obtain ⟨X, Y, hL, rfl, rfl, _, _⟩ := hB
          obtain ⟨k1, k2, k3⟩ := transform_ok (t := x.text) h2.2 h1.2 hL
          exact ⟨(fun _ e => by cases e; exact ⟨h1.1, k2⟩), (fun _ e => by cases e; exact ⟨h2.1, k3⟩), by simp [dapp, k1]⟩
        · cases h3
      | _ => cases h3; cases h4; exact ⟨(fun _ e => by cases e; exact h2), (fun _ e => by cases e; exact h1), rfl⟩
def RightD (x : Nd) : Prop := x.label.length ≤ 64 ∧ (x.leaf = false → x.text = []) ∧ Sorted x.attrs ∧ ∀ a ∈ x.attrs, 1 ≤ a.1.length ∧ a.1.length ≤ 64 ∧ a.2.length ≤ 256
def RightT (T : Tree Nd) : Prop := T.d.leaf = false ∧ ∀ p X, at? p T = some X → RightD X.d ∧ (X.d.leaf = true → X.kids = [])
def FormP (p : Path) : Prop := p.length ≤ 64 ∧ ∀ n ∈ p, n < 1048576
def Form : Op Nd Dop → Prop
  | .ins P g x => FormP P ∧ g ≤ 1048576 ∧ x.label.length ≤ 64 ∧ x.attrs = [] ∧ x.text = []
  | .del q => FormP q
  | .mov q t g => FormP q ∧ FormP t ∧ g ≤ 1048576
  | .dat p (.set k o) => FormP p ∧ 1 ≤ k.length ∧ k.length ≤ 64 ∧ ∀ v, o = some v → v.length ≤ 256
  | .dat p (.rel l) => FormP p ∧ l.length ≤ 64
  | .dat p (.edt l) => FormP p ∧ RightP l
theorem RightT.wf {T : Tree Nd} (h : RightT T) : Wf E0.toData T := fun p X hX => (h.2 p X hX).2
theorem kids_nil {α : Type} {X Y : Tree α} (h : knm (fun _ => ()) X = knm (fun _ => ()) Y) (e : Y.kids = []) : X.kids = [] := by
  have := congrArg List.length h
  simp [knm, e] at this; exact this
theorem Ap.wf {α ε : Type} {D : Data α ε} {T T' : Tree α} {o : Op α ε} (hw : Wf D T) (h : Ap D T o T') : Wf D T' := by
  cases h with
  | @ins P g x Z hZ hl hg =>
    intro p X' hX' hl'
    rcases ins_back (fun _ => ()) hZ hg hX' with ⟨q, X, h1, _, h3, h4⟩ | ⟨r, _, h1⟩
    · by_cases e : q = P
      · subst e; rw [hZ] at h1; cases h1; rw [h3, hl] at hl'; cases hl'
      · rw [if_neg e] at h4; exact kids_nil h4 (hw _ _ h1 (h3 ▸ hl'))
    · cases r with
      | nil => cases h1; rfl
      | cons i r => simp [at?] at h1
  | @del P c U hU =>
    intro p X' hX' hl'
    obtain ⟨Z, hZ⟩ := at?_up hU
    obtain ⟨q, X, h1, _, _, h3, h4⟩ := del_back (fun _ => ()) hZ hX'
    have := hw _ _ h1 (h3 ▸ hl')
    have hlen := congrArg List.length h4
    split at hlen <;> simp [knm, this] at hlen <;> exact hlen
  | @mov P c t g U Z hU hn hZ hl hg =>
    obtain ⟨S, hS⟩ := at?_up hU
    intro p X' hX' hl'
    obtain ⟨Z', hZ', hZd, hZk⟩ := del_fwd (fun _ => ()) (p := t) hS hn hZ
    have hg' : landG P c t g ≤ Z'.kids.length := by
      have hlen := congrArg List.length hZk
      have hc : c < S.kids.length := by
        rw [at?_append, hS] at hU
        obtain ⟨k, hk, _⟩ := at?_cons.1 hU
        exact (List.getElem?_eq_some_iff.1 hk).1
      unfold landG
      split at hlen
      · rename_i e; subst e; rw [hS] at hZ; cases hZ
        simp only [knm, List.length_map, List.length_eraseIdx, hc, if_true] at hlen
        simp only [true_and]; split <;> omega
      · simp only [knm, List.length_map] at hlen
        split <;> omega
    rcases ins_back (fun _ => ()) hZ' hg' hX' with ⟨q, X, h1, _, h3, h4⟩ | ⟨r, _, h1⟩
    · obtain ⟨q', Y, h5, _, _, h6, h7⟩ := del_back (fun _ => ()) hS h1
      by_cases e : q = landT P c t
      · subst e
        have : X = Z' := by rw [show at? (landT P c t) (TP.del P c T) = some Z' from hZ'] at h1; cases h1; rfl
        subst this
        rw [h3, hZd, hl] at hl'; cases hl'
      · replace h4 := h4.trans (if_neg e)
        have hY := hw _ _ h5 (by rw [← h6, ← h3]; exact hl')
        refine kids_nil h4 ?_
        have hlen := congrArg List.length h7
        split at hlen <;> simp [knm, hY] at hlen <;> exact hlen
    · exact hw (P ++ [c] ++ r) X' (by rw [at?_append, hU]; exact h1) hl'
  | @dat P e Z hZ ho =>
    intro p X' hX' hl'
    obtain ⟨X, h1, h2, h3⟩ := dat_back (fun _ => ()) (f := D.app e) (fun _ => rfl) hZ hX'
    refine kids_nil h3 (hw _ _ h1 ?_)
    rw [h2] at hl'
    split at hl'
    · rw [D.leaf_app] at hl'; exact hl'
    · exact hl'
theorem Ap.data {α ε : Type} {D : Data α ε} {T T' X' : Tree α} {o : Op α ε} (h : Ap D T o T') {p : Path} (hX : at? p T' = some X') :
    (∃ q X, at? q T = some X ∧ (X'.d = X.d ∨ ∃ e p', o = .dat p' e ∧ D.ok e X.d ∧ X'.d = D.app e X.d)) ∨ ∃ P g, o = .ins P g X'.d := by
  cases h with
  | @ins P g x Z hZ hl hg =>
    rcases ins_back (fun _ => ()) hZ hg hX with ⟨q, X, h1, _, h3, h4⟩ | ⟨r, _, h1⟩
    · exact .inl ⟨q, X, h1, .inl h3⟩
    · cases r with
      | nil => cases h1; exact .inr ⟨_, _, rfl⟩
      | cons i r => simp [at?] at h1
  | @del P c U hU =>
    obtain ⟨Z, hZ⟩ := at?_up hU
    obtain ⟨q, X, h1, _, _, h3, h4⟩ := del_back (fun _ => ()) hZ hX
    exact .inl ⟨q, X, h1, .inl h3⟩
  | @mov P c t g U Z hU hn hZ hl hg =>
    obtain ⟨S, hS⟩ := at?_up hU
    obtain ⟨Z', hZ', _, hZk⟩ := del_fwd (fun _ => ()) (p := t) hS hn hZ
    have hg' : landG P c t g ≤ Z'.kids.length := by
      have hlen := congrArg List.length hZk
      have hc : c < S.kids.length := by
        rw [at?_append, hS] at hU
        obtain ⟨k, hk, _⟩ := at?_cons.1 hU
        exact (List.getElem?_eq_some_iff.1 hk).1
      unfold landG
      split at hlen
      · rename_i e; subst e; rw [hS] at hZ; cases hZ
        simp only [knm, List.length_map, List.length_eraseIdx, hc, if_true] at hlen
        simp only [true_and]; split <;> omega
      · simp only [knm, List.length_map] at hlen
        split <;> omega
    rcases ins_back (fun _ => ()) hZ' hg' hX with ⟨q, X, h1, _, h3, h4⟩ | ⟨r, _, h1⟩
    · obtain ⟨q', Y, h5, _, _, h6, h7⟩ := del_back (fun _ => ()) hS h1
      exact .inl ⟨q', Y, h5, .inl (h3.trans h6)⟩
    · exact .inl ⟨P ++ [c] ++ r, X', by rw [at?_append, hU]; exact h1, .inl rfl⟩
  | @dat P e Z hZ ho =>
    obtain ⟨X, h1, h2, h3⟩ := dat_back (fun _ => ()) (f := D.app e) (fun _ => rfl) hZ hX
    by_cases hp : p = P
    · subst hp
      rw [hZ] at h1; cases h1
      exact .inl ⟨p, Z, hZ, .inr ⟨e, p, rfl, ho, by rw [h2, if_pos rfl]⟩⟩
    · exact .inl ⟨p, X, h1, .inl (by rw [h2, if_neg hp])⟩
theorem rightD_app {e : Dop} {p : Path} {x : Nd} (hf : Form (.dat p e)) (ho : dok e x) (hx : RightD x) : RightD (dapp e x) := by
  cases e with
  | set k o =>
    refine ⟨hx.1, hx.2.1, sorted_setA hx.2.2.1, fun a ha => ?_⟩
    rcases mem_setA ha with ⟨v, hv, rfl⟩ | ha
    · exact ⟨hf.2.1, hf.2.2.1, hf.2.2.2 v hv⟩
    · exact hx.2.2.2 a ha
  | rel l => exact ⟨hf.2, hx.2⟩
  | edt l => exact ⟨hx.1, (fun h => by have := ho.1; rw [show x.leaf = false from h] at this; cases this), hx.2.2⟩
theorem RightT.ap {T T' : Tree Nd} {o : Op Nd Dop} (h : RightT T) (ha : Ap E0.toData T o T') (hf : Form o) : RightT T' := by
  have root : ∀ X', at? [] T' = some X' → X'.d.leaf = false := by
    intro X' hX'
    have hX : at? [] T = some T := rfl
    cases ha with
    | @ins P g x Z hZ hl hg =>
      obtain ⟨Y, h1, h2, _⟩ := ins_fwd (fun _ => ()) (Y := .mk x []) hZ hg hX
      have : nIns g P [] = [] := by cases P <;> rfl
      rw [this, hX'] at h1; cases h1; rw [h2]; exact h.1
    | @del P c U hU =>
      obtain ⟨Z, hZ⟩ := at?_up hU
      obtain ⟨Y, h1, h2, _⟩ := del_fwd (fun _ => ()) (p := []) (c := c) hZ (fun h => by have := h.length_le; simp at this) hX
      have : nDel c P [] = [] := by cases P <;> rfl
      rw [this, hX'] at h1; cases h1; rw [h2]; exact h.1
    | @mov P c t g U Z hU hn hZ hl hg =>
      have hX'' : X' = mov P c t g U T := by cases hX'; rfl
      subst hX''
      have d0 : ∀ (p : Path) (f : Tree Nd → Tree Nd) (T : Tree Nd), (∀ X, (f X).d = X.d) → (upd f p T).d = T.d := fun p f T hf => by cases p <;> simp [upd, hf]
      show (mov P c t g U T).d.leaf = false
      unfold mov ins del
      rw [d0 _ (insK (landG P c t g) U) _ (fun _ => rfl), d0 _ (delK c) _ (fun _ => rfl)]; exact h.1
    | @dat P e Z hZ ho =>
      obtain ⟨Y, h1, h2, _⟩ := dat_fwd (fun _ => ()) (P := P) (f := E0.app e) (fun _ => rfl) hX
      rw [hX'] at h1; cases h1; rw [h2]
      split
      · have := E0.leaf_app e T.d; exact this.trans h.1
      · exact h.1
  refine ⟨root _ rfl, fun p X' hX' => ⟨?_, ha.wf h.wf p X' hX'⟩⟩
  rcases ha.data hX' with ⟨q, X, h1, h2 | ⟨e, p', rfl, ho, h2⟩⟩ | ⟨P, g, rfl⟩
  · rw [h2]; exact (h.2 _ _ h1).1
  · rw [h2]; exact rightD_app hf ho (h.2 _ _ h1).1
  · exact ⟨hf.2.2.1, fun _ => hf.2.2.2.2, by rw [hf.2.2.2.1]; exact .nil, fun a ha => by rw [hf.2.2.2.1] at ha; cases ha⟩
end TP
namespace TP
open Tree
variable {α : Type}
theorem upd_const {f : Tree α → Tree α} : ∀ {p : Path} {T Z : Tree α}, at? p T = some Z → upd (fun _ => f Z) p T = upd f p T
  | [], T, Z, h => by cases h; rfl
  | i :: p, T, Z, h => by
    obtain ⟨k, hk, h2⟩ := at?_cons.1 h
    simp only [upd]
    congr 1
    apply List.ext_getElem?
    intro n
    simp only [List.getElem?_modify]
    by_cases e : i = n
    · subst e; simp [hk, upd_const h2]
    · simp [e]
theorem ins_del {g : Nat} {X : Tree α} : ∀ {t P : Path} {c : Nat} {T Z U : Tree α}, at? t T = some Z → g ≤ Z.kids.length → at? (P ++ [c]) T = some U → ¬ (P ++ [c]) <+: t →
    ∃ P' c', nIns g t (P ++ [c]) = P' ++ [c'] ∧ upd (delK c') P' (upd (insK g X) t T) = upd (insK (landG P c t g) X) (landT P c t) (upd (delK c) P T)
  | [], [], c, T, Z, U, hZ, hg, hU, hn => by
    cases hZ
    refine ⟨[], if g ≤ c then c + 1 else c, rfl, ?_⟩
    simp only [upd, landT, nDel, delK, insK, kids_mk, d_mk, landG, true_and]
    congr 1
    have hc : c < T.kids.length := by
      obtain ⟨k, hk, _⟩ := at?_cons.1 hU
      exact (List.getElem?_eq_some_iff.1 hk).1
    apply List.ext_getElem?
    intro n
    have hl : (T.kids.eraseIdx c).length = T.kids.length - 1 := by rw [List.length_eraseIdx, if_pos hc]
    rw [getElem?_ins _ _ _ _ (by rw [hl]; split <;> omega), List.getElem?_eraseIdx, getElem?_ins _ _ _ _ hg, getElem?_ins _ _ _ _ hg]
    simp only [List.getElem?_eraseIdx]
    grind
  | [], i :: P, c, T, Z, U, hZ, hg, hU, hn => by
    cases hZ
    refine ⟨(if g ≤ i then i + 1 else i) :: P, c, rfl, ?_⟩
    simp only [upd, landT, nDel, insK, kids_mk, d_mk, landG]
    congr 1
    rw [if_neg (show ¬ (i :: P = [] ∧ c < g) by simp)]
    apply List.ext_getElem?
    intro n
    rw [getElem?_ins _ _ _ _ (by simpa using hg), List.getElem?_modify, getElem?_ins _ _ _ _ hg]
    simp only [List.getElem?_modify]
    grind
  | j :: t, [], c, T, Z, U, hZ, hg, hU, hn => by
    have hcj : c ≠ j := fun e => hn (by subst e; exact ⟨t, rfl⟩)
    refine ⟨[], c, by simp [nIns, Ne.symm hcj], ?_⟩
    simp only [upd, landT, nDel, delK, kids_mk, d_mk, landG]
    congr 1
    rw [if_neg (show ¬ ([] = j :: t ∧ c < g) by simp)]
    apply List.ext_getElem?
    intro n
    simp only [List.getElem?_eraseIdx, List.getElem?_modify]
    grind
  | j :: t, i :: P, c, T, Z, U, hZ, hg, hU, hn => by
    by_cases e : j = i
    · subst e
      obtain ⟨k, hk, hZ⟩ := at?_cons.1 hZ
      obtain ⟨k', hk', hU⟩ := at?_cons.1 (show at? (j :: (P ++ [c])) T = some U from hU)
      rw [hk] at hk'; cases hk'
      obtain ⟨P', c', h1, h2⟩ := ins_del (X := X) hZ hg hU fun h => hn (by simpa using h)
      refine ⟨j :: P', c', by simp [nIns, h1], ?_⟩
      simp only [upd, landT, nDel, kids_mk, d_mk, if_true] at h2 ⊢
      congr 1
      have hland : landG (j :: P) c (j :: t) g = landG P c t g := by simp [landG]
      rw [hland]
      apply List.ext_getElem?
      intro n
      simp only [List.getElem?_modify]
      by_cases e : j = n
      · subst e; simp [hk, h2]
      · simp [e]
    · refine ⟨i :: P, c, by simp [nIns, e], ?_⟩
      simp only [upd, landT, nDel, kids_mk, d_mk, if_neg (fun h : i = j => e h.symm)]
      congr 1
      have hland : landG (i :: P) c (j :: t) g = g := by simp only [landG]; rw [if_neg (fun h => e (List.cons.inj h.1).1.symm)]
      rw [hland]
      apply List.ext_getElem?
      intro n
      simp only [List.getElem?_modify]
      grind
def attrS (k v : Str) (r : Attrs × Bool) (a : Str × Str) : Attrs × Bool :=
  (if a.1 = k then (if r.2 = false ∧ blt a.1 k = false then r.1 ++ [(k, v)] else r.1) else (if r.2 = false ∧ blt a.1 k = false then r.1 ++ [(k, v)] else r.1) ++ [a], if r.2 = false ∧ blt a.1 k = false then true else r.2)
def attrF (k v : Str) (gone : Bool) (l : Attrs) : Attrs × Bool := l.foldl (attrS k v) ([], gone)
def attrE (k v : Str) (r : Attrs × Bool) : Attrs := if r.2 = false then r.1 ++ [(k, v)] else r.1
theorem attr_done (k v : Str) : ∀ (l acc : Attrs), l.foldl (attrS k v) (acc, true) = (acc ++ l.filter (fun a => a.1 ≠ k), true)
  | [], acc => by simp
  | a :: l, acc => by
    rw [List.foldl_cons]
    by_cases h : a.1 = k
    · have : attrS k v (acc, true) a = (acc, true) := by simp [attrS, h]
      rw [this, attr_done k v l]; simp [h]
    · have : attrS k v (acc, true) a = (acc ++ [a], true) := by simp [attrS, h]
      rw [this, attr_done k v l]; simp [h]
theorem filter_gt {k : Str} {l : Attrs} (h : ∀ a ∈ l, blt k a.1 = true) : l.filter (fun a => a.1 ≠ k) = l := List.filter_eq_self.2 fun a ha => by simpa using Ne.symm (blt_ne (h a ha))
theorem filter_setA {k : Str} : ∀ {l : Attrs}, Sorted l → l.filter (fun a => a.1 ≠ k) = setA k none l
  | [], _ => rfl
  | a :: l, hs => by
    unfold Sorted at hs
    rw [List.pairwise_cons] at hs
    obtain ⟨h1, h2⟩ := hs
    rw [setA]
    by_cases hlt : blt a.1 k = true
    · rw [if_pos hlt, List.filter_cons_of_pos (by simpa using blt_ne hlt), filter_setA h2]
    · rw [if_neg hlt]
      by_cases e : a.1 = k
      · rw [if_pos e, List.filter_cons_of_neg (by simpa using e), filter_gt (by rw [← e]; exact h1)]; rfl
      · have hk : blt k a.1 = true := by
          rcases blt_total a.1 k with h | h | h
          · exact absurd h hlt
          · exact absurd h e
          · exact h
        rw [if_neg e, List.filter_cons_of_pos (by simpa using e), filter_gt (fun b hb => blt_trans hk (h1 b hb))]; rfl
theorem attr_open (k v : Str) : ∀ (l acc : Attrs), Sorted l → attrE k v (l.foldl (attrS k v) (acc, false)) = acc ++ setA k (some v) l
  | [], acc, _ => by simp [attrE, setA]
  | a :: l, acc, hs => by
    unfold Sorted at hs
    rw [List.pairwise_cons] at hs
    obtain ⟨h1, h2⟩ := hs
    rw [List.foldl_cons, setA]
    by_cases hlt : blt a.1 k = true
    · have : attrS k v (acc, false) a = (acc ++ [a], false) := by simp [attrS, hlt, blt_ne hlt]
      rw [this, attr_open k v l _ h2, if_pos hlt]; simp
    · have hf : blt a.1 k = false := by simpa using hlt
      rw [if_neg hlt]
      by_cases e : a.1 = k
      · have : attrS k v (acc, false) a = (acc ++ [(k, v)], true) := by simp [attrS, e, blt_irrefl]
        rw [this, attr_done, if_pos e, filter_gt (by rw [← e]; exact h1)]; simp [attrE]
      · have hk : blt k a.1 = true := by
          rcases blt_total a.1 k with h | h | h
          · exact absurd h hlt
          · exact absurd h e
          · exact h
        have : attrS k v (acc, false) a = (acc ++ [(k, v)] ++ [a], true) := by simp [attrS, e, hf]
        rw [this, attr_done, if_neg e, filter_gt (fun b hb => blt_trans hk (h1 b hb))]; simp [attrE]
theorem attr_setA {k v : Str} {gone : Bool} {l : Attrs} (hs : Sorted l) : attrE k v (attrF k v gone l) = setA k (if gone = true then none else some v) l := by
  unfold attrF
  cases gone
  · rw [attr_open k v l [] hs]; simp
  · rw [attr_done]; simp only [if_true, ← filter_setA hs]; simp [attrE]
end TP
namespace Go.Ev
inductive Trie (α : Type) where
  | nil
  | node (l : Trie α) (v : Option α) (r : Trie α)
namespace Trie
variable {α : Type}
def get : Trie α → Nat → Option α
  | .nil, _ => none
  | .node l v r, n => bif n == 0 then v else bif n % 2 == 1 then l.get (n / 2) else r.get (n / 2 - 1)
def set : Nat → Trie α → Nat → α → Trie α
  | 0, t, _, _ => t
  | f + 1, .nil, n, x => bif n == 0 then .node .nil (some x) .nil else bif n % 2 == 1 then .node (set f .nil (n / 2) x) none .nil else .node .nil none (set f .nil (n / 2 - 1) x)
  | f + 1, .node l v r, n, x => bif n == 0 then .node l (some x) r else bif n % 2 == 1 then .node (set f l (n / 2) x) v r else .node l v (set f r (n / 2 - 1) x)
theorem get_nil (m : Nat) : (nil : Trie α).get m = none := rfl
theorem get_node (l : Trie α) (v : Option α) (r : Trie α) (m : Nat) : (node l v r).get m = if m = 0 then v else if m % 2 = 1 then l.get (m / 2) else r.get (m / 2 - 1) := by
  simp only [get, Bool.cond_eq_ite, beq_iff_eq]
theorem set_nil (f : Nat) (n : Nat) (x : α) : set (f + 1) nil n x = if n = 0 then node nil (some x) nil else if n % 2 = 1 then node (set f nil (n / 2) x) none nil else node nil none (set f nil (n / 2 - 1) x) := by
  simp only [set, Bool.cond_eq_ite, beq_iff_eq]
theorem set_node (f : Nat) (l : Trie α) (v : Option α) (r : Trie α) (n : Nat) (x : α) : set (f + 1) (node l v r) n x = if n = 0 then node l (some x) r else if n % 2 = 1 then node (set f l (n / 2) x) v r else node l v (set f r (n / 2 - 1) x) := by
  simp only [set, Bool.cond_eq_ite, beq_iff_eq]
theorem get_set_same (f : Nat) (t : Trie α) (n : Nat) (x : α) (h : n + 1 < 2 ^ f) : (set f t n x).get n = some x := by
  induction f generalizing t n with
  | zero => simp at h
  | succ f ih =>
    rw [Nat.pow_succ] at h
    cases t with
    | nil =>
      rw [set_nil]
      by_cases h0 : n = 0
      · rw [if_pos h0, get_node, if_pos h0]
      · by_cases h1 : n % 2 = 1
        · rw [if_neg h0, if_pos h1, get_node, if_neg h0, if_pos h1]; exact ih _ _ (by omega)
        · rw [if_neg h0, if_neg h1, get_node, if_neg h0, if_neg h1]; exact ih _ _ (by omega)
    | node l v r =>
      rw [set_node]
      by_cases h0 : n = 0
      · rw [if_pos h0, get_node, if_pos h0]
      · by_cases h1 : n % 2 = 1
        · rw [if_neg h0, if_pos h1, get_node, if_neg h0, if_pos h1]; exact ih _ _ (by omega)
        · rw [if_neg h0, if_neg h1, get_node, if_neg h0, if_neg h1]; exact ih _ _ (by omega)
theorem get_set_other (f : Nat) (t : Trie α) (n m : Nat) (x : α) (h : n ≠ m) : (set f t n x).get m = t.get m := by
  induction f generalizing t n m with
  | zero => rfl
  | succ f ih =>
    cases t with
    | nil =>
      rw [set_nil, get_nil]
      by_cases h0 : n = 0
      · rw [if_pos h0, get_node, if_neg (by omega)]; split <;> rfl
      · by_cases h1 : n % 2 = 1
        · rw [if_neg h0, if_pos h1, get_node]
          split
          · rfl
          · split
            · exact ih .nil _ _ (by omega)
            · rfl
        · rw [if_neg h0, if_neg h1, get_node]
          split
          · rfl
          · split
            · rfl
            · exact ih .nil _ _ (by omega)
    | node l v r =>
      rw [set_node]
      by_cases h0 : n = 0
      · have hm : m ≠ 0 := by omega
        rw [if_pos h0, get_node, get_node, if_neg hm, if_neg hm]
      · by_cases h1 : n % 2 = 1
        · rw [if_neg h0, if_pos h1, get_node, get_node]
          split
          · rfl
          · split
            · exact ih _ _ _ (by omega)
            · rfl
        · rw [if_neg h0, if_neg h1, get_node, get_node]
          split
          · rfl
          · split
            · rfl
            · exact ih _ _ _ (by omega)
def all (p : α → Bool) : Trie α → Bool
  | .nil => true
  | .node l v r => l.all p && ((match v with | some x => p x | none => true) && r.all p)
theorem all_get {p : α → Bool} {t : Trie α} (h : t.all p = true) {n : Nat} {x : α} (hx : t.get n = some x) : p x = true := by
  induction t generalizing n with
  | nil => cases hx
  | node l v r ihl ihr =>
    simp only [all, Bool.and_eq_true] at h
    rw [get_node] at hx
    split at hx
    · subst hx; exact h.2.1
    · split at hx
      · exact ihl h.1 hx
      · exact ihr h.2.2 hx
theorem all_of {p : α → Bool} {t : Trie α} (h : ∀ n x, t.get n = some x → p x = true) : t.all p = true := by
  induction t with
  | nil => rfl
  | node l v r ihl ihr =>
    simp only [all, Bool.and_eq_true]
    refine ⟨ihl fun n x hx => h (2 * n + 1) x ?_, ?_, ihr fun n x hx => h (2 * n + 2) x ?_⟩
    · rw [get_node, if_neg (by omega), if_pos (by omega), show (2 * n + 1) / 2 = n by omega]; exact hx
    · cases v with
      | none => rfl
      | some x => exact h 0 x (by rw [get_node, if_pos rfl])
    · rw [get_node, if_neg (by omega), if_neg (by omega), show (2 * n + 2) / 2 - 1 = n by omega]; exact hx
end Trie
def big : Nat := 4611686018427387904
def rowN : Nat := 4611686018427387905
def ptrN : Nat := 4611686018427387906
mutual
def vok (ok : Nat → Bool) : Value → Bool
  | .pointer (some a) => ok a.block
  | .slice (some a) _ _ => ok a.block
  | .map (some r) => ok r
  | .chan (some _) => false
  | .func fn first captured => (match fn with | .yield l => ok l | _ => true) && (vokA ok first && vokA ok captured)
  | .iface _ v => vok ok v
  | .agg cells => vokA ok cells
  | .tuple vs => vokA ok vs
  | _ => true
def vokA (ok : Nat → Bool) : Array Value → Bool
  | ⟨l⟩ => vokL ok l
def vokL (ok : Nat → Bool) : List Value → Bool
  | [] => true
  | v :: l => vok ok v && vokL ok l
end
theorem vokL_eq (ok : Nat → Bool) (l : List Value) : vokL ok l = l.all (vok ok) := by
  induction l with
  | nil => rfl
  | cons v l ih => simp [vokL, ih]
mutual
theorem vok_mono {ok ok' : Nat → Bool} (h : ∀ n, ok n = true → ok' n = true) : ∀ v : Value, vok ok v = true → vok ok' v = true
  | .pointer (some a), hv => h _ hv
  | .pointer none, _ => rfl
  | .slice (some a) len cap, hv => h _ hv
  | .slice none _ _, _ => rfl
  | .map (some r), hv => h _ hv
  | .map none, _ => rfl
  | .chan (some _), hv => by simp [vok] at hv
  | .chan none, _ => rfl
  | .func fn first captured, hv => by
    simp only [vok, Bool.and_eq_true] at hv ⊢
    refine ⟨?_, vokA_mono h first hv.2.1, vokA_mono h captured hv.2.2⟩
    cases fn with
    | yield l => exact h _ hv.1
    | _ => rfl
  | .iface t v, hv => by simp only [vok] at hv ⊢; exact vok_mono h v hv
  | .agg cells, hv => by simp only [vok] at hv ⊢; exact vokA_mono h cells hv
  | .tuple vs, hv => by simp only [vok] at hv ⊢; exact vokA_mono h vs hv
  | .bool _, _ => rfl
  | .int _ _, _ => rfl
  | .float _ _, _ => rfl
  | .complex _ _ _, _ => rfl
  | .string _, _ => rfl
  | .nilFunc, _ => rfl
  | .nilIface, _ => rfl
theorem vokA_mono {ok ok' : Nat → Bool} (h : ∀ n, ok n = true → ok' n = true) : ∀ a : Array Value, vokA ok a = true → vokA ok' a = true
  | ⟨l⟩, hv => by simp only [vokA] at hv ⊢; exact vokL_mono h l hv
theorem vokL_mono {ok ok' : Nat → Bool} (h : ∀ n, ok n = true → ok' n = true) : ∀ l : List Value, vokL ok l = true → vokL ok' l = true
  | [], _ => rfl
  | v :: l, hv => by simp only [vokL, Bool.and_eq_true] at hv ⊢; exact ⟨vok_mono h v hv.1, vokL_mono h l hv.2⟩
end
def bare (v : Value) : Bool := vok (fun _ => false) v
def frow (n : Nat) (cs : List Value) : Value := .func (.yield rowN) ⟨cs⟩ ⟨[.int .i64 n]⟩
def fptr (off : Nat) (cs : List Value) : Value := .func (.yield ptrN) ⟨cs⟩ ⟨[.int .i64 off]⟩
inductive AB where
  | cells (cs : List Value) (elem : TypeId) (fz : Nat × Nat)
  | grown (cs : List Value) (elem : TypeId) (size : Nat)
  | map (es : List MapEntry) (clock : Nat)
  | loop (st : LoopState) (pending : Option Code) (fn : FuncId) (ns : Nat) (tm : Trie Value) (params : Array Tmp) (assign body : Code) (defers : Nat)
  | deferred (calls : Option (List Deferred))
  | dead
def tget (tm : Trie Value) (t : Nat) : Value := (tm.get t).getD undef
def dok (ok : Nat → Bool) (d : Deferred) : Bool :=
  (match d.target with | .fn f c => (match f with | .yield l => ok l | _ => true) && vokL ok c.toList | .collected r => ok r | _ => true) && vokL ok d.args.toList
def abok (ok : Nat → Bool) : AB → Bool
  | .cells cs _ _ | .grown cs _ _ => vokL ok cs
  | .map es _ => es.all fun e => vok ok e.key && vok ok e.val
  | .loop _ _ _ _ tm _ _ _ df => tm.all (vok ok) && ok df
  | .deferred c => (c.getD []).all (dok ok)
  | .dead => true
def AB.live : AB → Bool
  | .dead => false
  | _ => true
structure AS where
  h : Trie AB
  next : Nat
  pend : List Nat
def AS.ok (A : AS) (n : Nat) : Bool := (Nat.blt n A.next && !A.pend.contains n) || Nat.ble big n
end Go.Ev
namespace Go.Ev
structure Rn where
  b : Nat → Nat
  x : Nat → Nat
  F : Nat → Prop
def renA (φ : Rn) (a : Addr) : Addr := { a with block := φ.b a.block }
def renCap (φ : Rn) (n cap : Nat) : Nat := if cap < big then cap else cap - big + φ.x n
def lenOf (c : Array Value) : Nat := match c with | ⟨[.int _ n]⟩ => n.toNat | _ => 0
structure FroAt (φ : Rn) (w : World) (a : Addr) (C : Array Value) : Prop where
  spot : a.spot = none
  fro : φ.F a.block
  at_ : ∃ (c : Array Value) (e : TypeId) (fz : Nat × Nat), w.heap[a.block]? = some (.cells c e fz) ∧ ∀ i, i < C.size → c[a.off + i]? = C[i]?
def isRow (φ : Rn) (w : World) (C : Array Value) (n : Nat) (V : Value) : Prop :=
  (V = .slice none 0 0 ∧ n = 0 ∧ C.size = 0) ∨ ∃ a cap, V = .slice (some a) n cap ∧ n ≤ cap ∧ (FroAt φ w a C ∨ (C.size = 0 ∧ n = 0 ∧ True))
def isPtr (φ : Rn) (w : World) (C : Array Value) (off : Nat) (V : Value) : Prop :=
  ∃ a, V = .pointer (some ⟨a.block, a.off + off, none⟩) ∧ FroAt φ w a C
def funRel (φ : Rn) (w : World) (fn : Fn) (F C : Array Value) (n : Nat) (V : Value) : Prop :=
  match fn with
  | .yield l => if l = rowN then isRow φ w F n V else if l = ptrN then isPtr φ w F n V else V = .func (.yield (φ.b l)) F C
  | fn => V = .func fn F C
mutual
def RV (φ : Rn) (w : World) : Value → Value → Prop
  | .pointer (some a), V => V = .pointer (some (renA φ a))
  | .slice (some a) len cap, V => V = .slice (some (renA φ a)) len (renCap φ a.block cap)
  | .map (some r), V => V = .map (some (φ.b r))
  | .func fn first captured, V => ∃ F C, RVA φ w first F ∧ RVA φ w captured C ∧ funRel φ w fn F C (lenOf captured) V
  | .iface t v, V => ∃ u, V = .iface t u ∧ RV φ w v u
  | .agg cells, V => ∃ C, V = .agg C ∧ RVA φ w cells C
  | .tuple vs, V => ∃ C, V = .tuple C ∧ RVA φ w vs C
  | v, V => V = v
def RVA (φ : Rn) (w : World) : Array Value → Array Value → Prop
  | ⟨l⟩, A => RVL φ w l A.toList
def RVL (φ : Rn) (w : World) : List Value → List Value → Prop
  | [], L => L = []
  | v :: l, L => ∃ V M, L = V :: M ∧ RV φ w v V ∧ RVL φ w l M
end
structure Ext (ok : Nat → Bool) (φ : Rn) (w : World) (ψ : Rn) (w' : World) : Prop where
  b : ∀ n, ok n = true → ψ.b n = φ.b n ∧ ψ.x n = φ.x n
  F : ∀ b, φ.F b → ψ.F b
  keep : ∀ b, φ.F b → w'.heap[b]? = w.heap[b]?
variable {φ ψ : Rn} {w w' : World} {ok : Nat → Bool}
theorem FroAt.ext (h : Ext ok φ w ψ w') {a : Addr} {C : Array Value} (ha : FroAt φ w a C) : FroAt ψ w' a C := by
  obtain ⟨h1, h2, c, e, fz, h3, h4⟩ := ha
  exact ⟨h1, h.F _ h2, c, e, fz, by rw [h.keep _ h2]; exact h3, h4⟩
theorem funRel.ext (h : Ext ok φ w ψ w') {fn : Fn} {F C : Array Value} {n : Nat} {V : Value} (hf : (match fn with | .yield l => ok l | _ => true) = true) (hr : funRel φ w fn F C n V) : funRel ψ w' fn F C n V := by
  cases fn with
  | yield l =>
    simp only [funRel] at hr ⊢
    split
    · rename_i e
      rw [if_pos e] at hr
      rcases hr with hr | ⟨a, cap, h1, h2, h3⟩
      · exact .inl hr
      · exact .inr ⟨a, cap, h1, h2, h3.imp (fun h3 => h3.ext h) id⟩
    · rename_i e
      rw [if_neg e] at hr
      split
      · rename_i e
        rw [if_pos e] at hr
        obtain ⟨a, h1, h2⟩ := hr
        exact ⟨a, h1, h2.ext h⟩
      · rename_i e
        rw [if_neg e] at hr
        rw [(h.b l hf).1]; exact hr
  | _ => exact hr
mutual
theorem RV.ext (h : Ext ok φ w ψ w') : ∀ (v V : Value), vok ok v = true → RV φ w v V → RV ψ w' v V
  | .pointer (some a), V, hv, hr => by simp only [vok] at hv; simp only [RV, renA] at hr ⊢; rw [(h.b _ hv).1]; exact hr
  | .pointer none, V, _, hr => hr
  | .slice (some a) len cap, V, hv, hr => by simp only [vok] at hv; simp only [RV, renA, renCap] at hr ⊢; rw [(h.b _ hv).1, (h.b _ hv).2]; exact hr
  | .slice none _ _, V, _, hr => hr
  | .map (some r), V, hv, hr => by simp only [vok] at hv; simp only [RV] at hr ⊢; rw [(h.b _ hv).1]; exact hr
  | .map none, V, _, hr => hr
  | .chan (some _), V, hv, hr => by simp [vok] at hv
  | .chan none, V, _, hr => hr
  | .func fn first captured, V, hv, hr => by
    simp only [vok, Bool.and_eq_true] at hv
    simp only [RV] at hr ⊢
    obtain ⟨F, C, h1, h2, h3⟩ := hr
    exact ⟨F, C, RVA.ext h first F hv.2.1 h1, RVA.ext h captured C hv.2.2 h2, h3.ext h hv.1⟩
  | .iface t v, V, hv, hr => by
    simp only [vok] at hv; simp only [RV] at hr ⊢
    obtain ⟨u, h1, h2⟩ := hr
    exact ⟨u, h1, RV.ext h v u hv h2⟩
  | .agg cells, V, hv, hr => by
    simp only [vok] at hv; simp only [RV] at hr ⊢
    obtain ⟨u, h1, h2⟩ := hr
    exact ⟨u, h1, RVA.ext h cells u hv h2⟩
  | .tuple cells, V, hv, hr => by
    simp only [vok] at hv; simp only [RV] at hr ⊢
    obtain ⟨u, h1, h2⟩ := hr
    exact ⟨u, h1, RVA.ext h cells u hv h2⟩
  | .bool _, _, _, hr => hr
  | .int _ _, _, _, hr => hr
  | .float _ _, _, _, hr => hr
  | .complex _ _ _, _, _, hr => hr
  | .string _, _, _, hr => hr
  | .nilFunc, _, _, hr => hr
  | .nilIface, _, _, hr => hr
theorem RVA.ext (h : Ext ok φ w ψ w') : ∀ (v V : Array Value), vokA ok v = true → RVA φ w v V → RVA ψ w' v V
  | ⟨l⟩, V, hv, hr => by simp only [vokA] at hv; simp only [RVA] at hr ⊢; exact RVL.ext h l _ hv hr
theorem RVL.ext (h : Ext ok φ w ψ w') : ∀ (v V : List Value), vokL ok v = true → RVL φ w v V → RVL ψ w' v V
  | [], V, _, hr => hr
  | v :: l, V, hv, hr => by
    simp only [vokL, Bool.and_eq_true] at hv; simp only [RVL] at hr ⊢
    obtain ⟨u, m, h1, h2, h3⟩ := hr
    exact ⟨u, m, h1, RV.ext h v u hv.1 h2, RVL.ext h l m hv.2 h3⟩
end
mutual
theorem RV.bare : ∀ (v V : Value), bare v = true → (RV φ w v V ↔ V = v)
  | .pointer (some a), V, hv => by simp [Ev.bare, vok] at hv
  | .pointer none, V, _ => Iff.rfl
  | .slice (some a) len cap, V, hv => by simp [Ev.bare, vok] at hv
  | .slice none _ _, V, _ => Iff.rfl
  | .map (some r), V, hv => by simp [Ev.bare, vok] at hv
  | .map none, V, _ => Iff.rfl
  | .chan (some _), V, hv => by simp [Ev.bare, vok] at hv
  | .chan none, V, _ => Iff.rfl
  | .func fn first captured, V, hv => by
    simp only [Ev.bare, vok, Bool.and_eq_true] at hv
    simp only [RV]
    cases fn with
    | yield l => simp at hv
    | _ =>
      constructor
      · rintro ⟨F, C, h1, h2, h3⟩
        rw [(RVA.bare first F hv.2.1).1 h1, (RVA.bare captured C hv.2.2).1 h2] at h3; exact h3
      · rintro rfl
        exact ⟨first, captured, (RVA.bare first _ hv.2.1).2 rfl, (RVA.bare captured _ hv.2.2).2 rfl, rfl⟩
  | .iface t v, V, hv => by
    simp only [Ev.bare, vok] at hv
    simp only [RV]
    constructor
    · rintro ⟨u, h1, h2⟩; rw [(RV.bare v u hv).1 h2] at h1; exact h1
    · rintro rfl; exact ⟨v, rfl, (RV.bare v v hv).2 rfl⟩
  | .agg cells, V, hv => by
    simp only [Ev.bare, vok] at hv
    simp only [RV]
    constructor
    · rintro ⟨u, h1, h2⟩; rw [(RVA.bare cells u hv).1 h2] at h1; exact h1
    · rintro rfl; exact ⟨cells, rfl, (RVA.bare cells _ hv).2 rfl⟩
  | .tuple cells, V, hv => by
    simp only [Ev.bare, vok] at hv
    simp only [RV]
    constructor
    · rintro ⟨u, h1, h2⟩; rw [(RVA.bare cells u hv).1 h2] at h1; exact h1
    · rintro rfl; exact ⟨cells, rfl, (RVA.bare cells _ hv).2 rfl⟩
  | .bool _, _, _ => Iff.rfl
  | .int _ _, _, _ => Iff.rfl
  | .float _ _, _, _ => Iff.rfl
  | .complex _ _ _, _, _ => Iff.rfl
  | .string _, _, _ => Iff.rfl
  | .nilFunc, _, _ => Iff.rfl
  | .nilIface, _, _ => Iff.rfl
theorem RVA.bare : ∀ (v V : Array Value), vokA (fun _ => false) v = true → (RVA φ w v V ↔ V = v)
  | ⟨l⟩, ⟨V⟩, hv => by simp only [vokA] at hv; simp only [RVA]; rw [RVL.bare l _ hv, Array.mk.injEq]
theorem RVL.bare : ∀ (v V : List Value), vokL (fun _ => false) v = true → (RVL φ w v V ↔ V = v)
  | [], V, _ => Iff.rfl
  | v :: l, V, hv => by
    simp only [vokL, Bool.and_eq_true] at hv
    simp only [RVL]
    constructor
    · rintro ⟨u, m, h1, h2, h3⟩; rw [(RV.bare v u hv.1).1 h2, (RVL.bare l m hv.2).1 h3] at h1; exact h1
    · rintro rfl; exact ⟨v, l, rfl, (RV.bare v v hv.1).2 rfl, (RVL.bare l l hv.2).2 rfl⟩
end
theorem RVL_iff (l L : List Value) : RVL φ w l L ↔ l.length = L.length ∧ ∀ (i : Nat) (v V : Value), l[i]? = some v → L[i]? = some V → RV φ w v V := by
  induction l generalizing L with
  | nil =>
    simp only [RVL, List.length_nil]
    constructor
    · rintro rfl; exact ⟨rfl, by simp⟩
    · rintro ⟨h, _⟩; exact List.eq_nil_of_length_eq_zero h.symm
  | cons v l ih =>
    simp only [RVL]
    constructor
    · rintro ⟨V, M, rfl, h1, h2⟩
      have := (ih M).1 h2
      refine ⟨by simp [this.1], fun i u U hu hU => ?_⟩
      cases i with
      | zero => simp at hu hU; subst hu hU; exact h1
      | succ i => simp at hu hU; exact this.2 i u U hu hU
    · rintro ⟨h1, h2⟩
      cases L with
      | nil => simp at h1
      | cons V M =>
        refine ⟨V, M, rfl, h2 0 v V (by simp) (by simp), (ih M).2 ⟨by simpa using h1, fun i u U hu hU => h2 (i + 1) u U (by simpa using hu) (by simpa using hU)⟩⟩
theorem RVL.length {l L : List Value} (h : RVL φ w l L) : l.length = L.length := ((RVL_iff l L).1 h).1
theorem RVL.get {l L : List Value} (h : RVL φ w l L) {i : Nat} {v : Value} (hv : l[i]? = some v) : ∃ V, L[i]? = some V ∧ RV φ w v V := by
  have hi : i < L.length := by rw [← h.length]; exact (List.getElem?_eq_some_iff.1 hv).1
  exact ⟨L[i], List.getElem?_eq_getElem hi, ((RVL_iff l L).1 h).2 i v _ hv (List.getElem?_eq_getElem hi)⟩
theorem RVL.take {l L : List Value} (h : RVL φ w l L) (k : Nat) : RVL φ w (l.take k) (L.take k) := by
  rw [RVL_iff] at h ⊢
  refine ⟨by simp [h.1], fun i v V hv hV => ?_⟩
  rw [List.getElem?_take] at hv hV
  split at hv
  · rename_i e; rw [if_pos e] at hV; exact h.2 i v V hv hV
  · cases hv
theorem RVL.drop {l L : List Value} (h : RVL φ w l L) (k : Nat) : RVL φ w (l.drop k) (L.drop k) := by
  rw [RVL_iff] at h ⊢
  refine ⟨by simp [h.1], fun i v V hv hV => ?_⟩
  rw [List.getElem?_drop] at hv hV
  exact h.2 _ v V hv hV
theorem RVL.append {l L m M : List Value} (h : RVL φ w l L) (k : RVL φ w m M) : RVL φ w (l ++ m) (L ++ M) := by
  rw [RVL_iff] at h k ⊢
  refine ⟨by simp [h.1, k.1], fun i v V hv hV => ?_⟩
  rw [List.getElem?_append] at hv hV
  split at hv
  · rename_i e; rw [if_pos (by omega)] at hV; exact h.2 i v V hv hV
  · rename_i e; rw [if_neg (by omega), ← h.1] at hV; exact k.2 _ v V hv hV
theorem RVL.nil_iff {L : List Value} : RVL φ w [] L ↔ L = [] := Iff.rfl
theorem RVL.cons_iff {v : Value} {l L : List Value} : RVL φ w (v :: l) L ↔ ∃ V M, L = V :: M ∧ RV φ w v V ∧ RVL φ w l M := Iff.rfl
theorem RVL.one {v V : Value} (h : RV φ w v V) : RVL φ w [v] [V] := ⟨V, [], rfl, h, rfl⟩
theorem RVL.of_map {α : Type} (f g : α → Value) (xs : List α) (h : ∀ x ∈ xs, RV φ w (f x) (g x)) : RVL φ w (xs.map f) (xs.map g) := by
  induction xs with
  | nil => rfl
  | cons x xs ih => exact ⟨_, _, rfl, h x (by simp), ih fun y hy => h y (by simp [hy])⟩
theorem RVL.splice {cs C vs V : List Value} (h : RVL φ w cs C) (k : RVL φ w vs V) (off : Nat) : RVL φ w (cs.take off ++ vs ++ cs.drop (off + vs.length)) (C.take off ++ V ++ C.drop (off + V.length)) := by
  rw [← k.length]
  exact ((h.take off).append k).append (h.drop _)
theorem RVA_iff {a B : Array Value} : RVA φ w a B ↔ RVL φ w a.toList B.toList := by cases a; rfl
def TmRel (φ : Rn) (w : World) (ns : Nat) (tm : Trie Value) (a : Array Value) : Prop := a.size = ns ∧ (∀ t, RV φ w (tget tm t) (a.getD t undef)) ∧ ns < 65535 ∧ ∀ t, ns ≤ t → tm.get t = none
def renFn (φ : Rn) : Fn → Fn
  | .yield l => .yield (φ.b l)
  | f => f
def TgRel (φ : Rn) (w : World) : Target → Target → Prop
  | .fn f c, T => ∃ C, T = .fn (renFn φ f) C ∧ RVL φ w c.toList C.toList
  | .collected r, T => T = .collected (φ.b r)
  | t, T => T = t
def RD (φ : Rn) (w : World) (d D : Deferred) : Prop := TgRel φ w d.target D.target ∧ RVL φ w d.args.toList D.args.toList
def RDL (φ : Rn) (w : World) : List Deferred → List Deferred → Prop
  | [], L => L = []
  | d :: l, L => ∃ D M, L = D :: M ∧ RD φ w d D ∧ RDL φ w l M
def RE (φ : Rn) (w : World) (e E : MapEntry) : Prop := RV φ w e.key E.key ∧ RV φ w e.val E.val ∧ E.born = e.born
def REL (φ : Rn) (w : World) : List MapEntry → List MapEntry → Prop
  | [], L => L = []
  | d :: l, L => ∃ D M, L = D :: M ∧ RE φ w d D ∧ REL φ w l M
def ABRel (φ : Rn) (w : World) (x : Nat) : AB → Option Obj → Prop
  | .cells cs e fz, o => ∃ c : Array Value, o = some (.cells c e fz) ∧ RVL φ w cs c.toList
  | .grown cs e s, o => ∃ c : Array Value, o = some (.cells c e (0, 0)) ∧ RVL φ w cs (c.toList.take cs.length) ∧ c.size = cs.length + x * s
  | .map es clock, o => ∃ E : Array MapEntry, o = some (.map E clock) ∧ REL φ w es E.toList
  | .loop st p fn ns tm ps as bd df, o => ∃ a : Array Value, o = some (.loop { state := st, pending := p, fn, tmps := a, params := ps, assign := as, body := bd, defers := φ.b df }) ∧ TmRel φ w ns tm a
  | .deferred c, o => match c with
    | none => o = some (.deferred none)
    | some l => ∃ L, o = some (.deferred (some L)) ∧ RDL φ w l L
  | .dead, _ => True
structure Rel (φ : Rn) (A : AS) (w : World) : Prop where
  obj : ∀ n ab, A.h.get n = some ab → n ∉ A.pend → ABRel φ w (φ.x n) ab w.heap[φ.b n]?
  lt : ∀ n ab, A.h.get n = some ab → n < A.next
  inj : ∀ n m a b, A.h.get n = some a → a.live = true → n ∉ A.pend → A.h.get m = some b → b.live = true → m ∉ A.pend → φ.b n = φ.b m → n = m
  wf : ∀ n ab, A.h.get n = some ab → n ∉ A.pend → abok A.ok ab = true
  fro : ∀ b, φ.F b → b < w.heap.size ∧ ∀ n ab, A.h.get n = some ab → ab.live = true → n ∉ A.pend → φ.b n ≠ b
  room : A.next + 1 < 2 ^ 24
structure Runs (φ : Rn) (A : AS) (w : World) (φ' : Rn) (A' : AS) (w' : World) : Prop where
  agree : ∀ n, n < A.next ∨ big ≤ n → φ'.b n = φ.b n ∧ φ'.x n = φ.x n
  next : A.next ≤ A'.next
  pend : A'.pend = A.pend
  size : w.heap.size ≤ w'.heap.size
  keep : ∀ b, b < w.heap.size → (∀ n ab, A.h.get n = some ab → ab.live = true → n ∉ A.pend → φ.b n ≠ b) → w'.heap[b]? = w.heap[b]?
  img : ∀ n ab, A'.h.get n = some ab → ab.live = true → n ∉ A.pend → w.heap.size ≤ φ'.b n ∨ ∃ m b, A.h.get m = some b ∧ b.live = true ∧ m ∉ A.pend ∧ φ.b m = φ'.b n
  pnd : ∀ n, n ∈ A.pend → A'.h.get n = A.h.get n
  fro : ∀ b, φ.F b → φ'.F b
  new : ∀ b, φ'.F b → φ.F b ∨ w.heap.size ≤ b ∨ ∃ m ab, A.h.get m = some ab ∧ ab.live = true ∧ m ∉ A.pend ∧ φ.b m = b
  os : w'.os = w.os
  tape : w'.tape = w.tape
  out : w'.output = w.output
theorem Runs.refl (φ : Rn) (A : AS) (w : World) : Runs φ A w φ A w :=
  ⟨fun _ _ => ⟨rfl, rfl⟩, Nat.le_refl _, rfl, Nat.le_refl _, fun _ _ _ => rfl, fun n ab h l p => .inr ⟨n, ab, h, l, p, rfl⟩, fun _ _ => rfl, fun _ h => h, fun _ h => .inl h, rfl, rfl, rfl⟩
theorem Runs.trans {φ φ' φ'' : Rn} {A A' A'' : AS} {w w' w'' : World} (h : Runs φ A w φ' A' w') (k : Runs φ' A' w' φ'' A'' w'') : Runs φ A w φ'' A'' w'' where
  agree n hn := ⟨(k.agree n (by have := h.next; omega)).1.trans (h.agree n hn).1, (k.agree n (by have := h.next; omega)).2.trans (h.agree n hn).2⟩
  next := Nat.le_trans h.next k.next
  pend := k.pend.trans h.pend
  size := Nat.le_trans h.size k.size
  keep b hb hn := by
    refine (k.keep b (by have := h.size; omega) fun n ab hg hl hp e => ?_).trans (h.keep b hb hn)
    rw [h.pend] at hp
    rcases h.img n ab hg hl hp with h1 | ⟨m, c, h1, h2, h3, h4⟩
    · omega
    · exact hn m c h1 h2 h3 (h4.trans e)
  img n ab hg hl hp := by
    rcases k.img n ab hg hl (by rw [h.pend]; exact hp) with h1 | ⟨m, c, h1, h2, h3, h4⟩
    · exact .inl (by have := h.size; omega)
    · rw [h.pend] at h3
      rcases h.img m c h1 h2 h3 with h5 | ⟨m', c', h5, h6, h7, h8⟩
      · exact .inl (by omega)
      · exact .inr ⟨m', c', h5, h6, h7, h8.trans h4⟩
  pnd n hn := (k.pnd n (by rw [h.pend]; exact hn)).trans (h.pnd n hn)
  fro b hb := k.fro b (h.fro b hb)
  new b hb := by
    rcases k.new b hb with h1 | h1 | ⟨m, ab, h1, h2, h3, h4⟩
    · exact h.new b h1
    · exact .inr (.inl (by have := h.size; omega))
    · rw [h.pend] at h3
      rcases h.img m ab h1 h2 h3 with h5 | ⟨m', c', h5, h6, h7, h8⟩
      · exact .inr (.inl (by omega))
      · exact .inr (.inr ⟨m', c', h5, h6, h7, h8.trans h4⟩)
  os := k.os.trans h.os
  tape := k.tape.trans h.tape
  out := k.out.trans h.out
end Go.Ev
namespace Go.Ev
def upd (φ : Rn) (n b x : Nat) : Rn := ⟨fun m => if m = n then b else φ.b m, fun m => if m = n then x else φ.x m, φ.F⟩
theorem upd_same (φ : Rn) (n b x : Nat) : (upd φ n b x).b n = b := by simp [upd]
theorem upd_same' (φ : Rn) (n b x : Nat) : (upd φ n b x).x n = x := by simp [upd]
theorem upd_other (φ : Rn) {n m : Nat} (b x : Nat) (h : m ≠ n) : (upd φ n b x).b m = φ.b m ∧ (upd φ n b x).x m = φ.x m := by simp [upd, h]
theorem AS.ok_iff (A : AS) (n : Nat) : A.ok n = true ↔ (n < A.next ∧ n ∉ A.pend) ∨ big ≤ n := by
  simp [AS.ok, Nat.blt_eq]
variable {φ ψ : Rn} {w w' : World} {ok ok' : Nat → Bool}
theorem dok_mono (h : ∀ n, ok n = true → ok' n = true) (d : Deferred) (hd : dok ok d = true) : dok ok' d = true := by
  unfold dok at *
  simp only [Bool.and_eq_true] at hd ⊢
  refine ⟨?_, vokL_mono h _ hd.2⟩
  have h1 := hd.1
  cases ht : d.target with
  | fn f c =>
    rw [ht] at h1
    simp only [Bool.and_eq_true] at h1 ⊢
    refine ⟨?_, vokL_mono h _ h1.2⟩
    cases f with
    | yield l => exact h _ h1.1
    | _ => rfl
  | collected r => rw [ht] at h1; exact h _ h1
  | _ => rfl
theorem abok_mono (h : ∀ n, ok n = true → ok' n = true) (ab : AB) (ha : abok ok ab = true) : abok ok' ab = true := by
  cases ab with
  | cells cs e fz => exact vokL_mono h _ ha
  | grown cs e s => exact vokL_mono h _ ha
  | map es c => simp only [abok, List.all_eq_true, Bool.and_eq_true] at ha ⊢; exact fun x hx => ⟨vok_mono h _ (ha x hx).1, vok_mono h _ (ha x hx).2⟩
  | loop st p fn ns tm ps as bd df => simp only [abok, Bool.and_eq_true] at ha ⊢; exact ⟨Trie.all_of fun n x hx => vok_mono h x (Trie.all_get ha.1 hx), h _ ha.2⟩
  | deferred c => simp only [abok, List.all_eq_true] at ha ⊢; exact fun x hx => dok_mono h x (ha x hx)
  | dead => rfl
theorem RD.ext (h : Ext ok φ w ψ w') {d D : Deferred} (hd : dok ok d = true) (hr : RD φ w d D) : RD ψ w' d D := by
  unfold dok at hd
  simp only [Bool.and_eq_true] at hd
  refine ⟨?_, RVL.ext h _ _ hd.2 hr.2⟩
  have h1 := hd.1
  have h2 := hr.1
  cases ht : d.target with
  | fn f c =>
    rw [ht] at h1 h2
    simp only [Bool.and_eq_true] at h1
    simp only [TgRel] at h2 ⊢
    obtain ⟨C, h3, h4⟩ := h2
    refine ⟨C, ?_, RVL.ext h _ _ h1.2 h4⟩
    rw [h3]
    cases f with
    | yield l => simp only [renFn, (h.b _ h1.1).1]
    | _ => rfl
  | collected r => rw [ht] at h1 h2; simp only [TgRel] at h2 ⊢; rw [h2, (h.b _ h1).1]
  | nil => rw [ht] at h2; exact h2
  | builtin b x y z => rw [ht] at h2; exact h2
  | coroexit c => rw [ht] at h2; exact h2
theorem RDL.ext (h : Ext ok φ w ψ w') : ∀ (l L : List Deferred), l.all (dok ok) = true → RDL φ w l L → RDL ψ w' l L
  | [], L, _, hr => hr
  | d :: l, L, hl, hr => by
    simp only [List.all_cons, Bool.and_eq_true] at hl
    obtain ⟨D, M, h1, h2, h3⟩ := hr
    exact ⟨D, M, h1, h2.ext h hl.1, RDL.ext h l M hl.2 h3⟩
theorem REL.ext (h : Ext ok φ w ψ w') : ∀ (l L : List MapEntry), (l.all fun e => vok ok e.key && vok ok e.val) = true → REL φ w l L → REL ψ w' l L
  | [], L, _, hr => hr
  | d :: l, L, hl, hr => by
    simp only [List.all_cons, Bool.and_eq_true] at hl
    obtain ⟨D, M, h1, h2, h3⟩ := hr
    exact ⟨D, M, h1, ⟨h2.1.ext h _ _ hl.1.1, h2.2.1.ext h _ _ hl.1.2, h2.2.2⟩, REL.ext h l M hl.2 h3⟩
theorem RV_undef {V : Value} : RV φ w undef V ↔ V = undef := RV.bare _ _ rfl
theorem TmRel.ext (h : Ext ok φ w ψ w') {ns : Nat} {tm : Trie Value} {a : Array Value} (hm : tm.all (vok ok) = true) (hr : TmRel φ w ns tm a) : TmRel ψ w' ns tm a := by
  obtain ⟨h1, h2, h3⟩ := hr
  refine ⟨h1, fun t => ?_, h3⟩
  have := h2 t
  unfold tget at *
  cases ht : tm.get t with
  | none => rw [ht] at this; exact RV_undef.2 (RV_undef.1 this)
  | some v => rw [ht] at this; exact this.ext h _ _ (Trie.all_get hm ht)
theorem ABRel.ext (h : Ext ok φ w ψ w') {ab : AB} {x : Nat} (ha : abok ok ab = true) {o : Option Obj} (hr : ABRel φ w x ab o) : ABRel ψ w' x ab o := by
  cases ab with
  | cells cs e fz => obtain ⟨c, h1, h2⟩ := hr; exact ⟨c, h1, h2.ext h _ _ ha⟩
  | grown cs e s => obtain ⟨c, h1, h2, h3⟩ := hr; exact ⟨c, h1, h2.ext h _ _ ha, h3⟩
  | map es c => obtain ⟨E, h1, h2⟩ := hr; exact ⟨E, h1, h2.ext h _ _ ha⟩
  | loop st p fn ns tm ps as bd df =>
    simp only [abok, Bool.and_eq_true] at ha
    obtain ⟨a, h1, h2⟩ := hr
    exact ⟨a, by rw [h1, (h.b _ ha.2).1], h2.ext h ha.1⟩
  | deferred c =>
    cases c with
    | none => exact hr
    | some l => obtain ⟨L, h1, h2⟩ := hr; exact ⟨L, h1, h2.ext h _ _ ha⟩
  | dead => trivial
theorem ABRel.some {ab : AB} {x : Nat} {o : Option Obj} (h : ABRel φ w x ab o) (hl : ab.live = true) : o.isSome = true := by
  cases ab with
  | cells cs e fz => obtain ⟨c, h, _⟩ := h; rw [h]; rfl
  | grown cs e s => obtain ⟨c, h, _⟩ := h; rw [h]; rfl
  | map es c => obtain ⟨c, h, _⟩ := h; rw [h]; rfl
  | loop st p fn ns tm ps as bd df => obtain ⟨c, h, _⟩ := h; rw [h]; rfl
  | deferred c =>
    cases c with
    | none => simp only [ABRel] at h; rw [h]; rfl
    | some l => obtain ⟨L, h, _⟩ := h; rw [h]; rfl
  | dead => simp [AB.live] at hl
theorem ABRel.dead_of {ab : AB} {x : Nat} {o : Option Obj} (hl : ab.live = false) : ABRel φ w x ab o := by
  cases ab <;> first | trivial | (simp [AB.live] at hl)
variable {A : AS}
theorem Rel.lt_heap (h : Rel φ A w) {n : Nat} {ab : AB} (hn : A.h.get n = some ab) (hl : ab.live = true) (hp : n ∉ A.pend) : φ.b n < w.heap.size := by
  have := (h.obj n ab hn hp).some hl
  rcases Nat.lt_or_ge (φ.b n) w.heap.size with h | h
  · exact h
  · rw [Array.getElem?_eq_none h] at this; cases this
theorem Rel.ext {φ' : Rn} {A' : AS} (h : Rel φ A w) (k : Runs φ A w φ' A' w') : Ext A.ok φ w φ' w' where
  b n hn := k.agree n (by rw [AS.ok_iff] at hn; omega)
  F := k.fro
  keep b hb := k.keep b (h.fro b hb).1 fun n ab h1 h2 h3 => (h.fro b hb).2 n ab h1 h2 h3
theorem Rel.heap_eq (h : Rel φ A w) (e : w'.heap = w.heap) : Rel φ A w' := by
  have x : Ext A.ok φ w φ w' := ⟨fun _ _ => ⟨rfl, rfl⟩, fun _ h => h, fun b _ => by rw [e]⟩
  exact ⟨fun n ab h1 h2 => by rw [e]; exact (h.obj n ab h1 h2).ext x (h.wf n ab h1 h2), h.lt, h.inj, h.wf, fun b hb => by rw [e]; exact h.fro b hb, h.room⟩
theorem Rel.drew (h : Rel φ A w) (k : Nat) : Rel φ A { w with drawn := k } := h.heap_eq rfl
theorem Runs.drew (φ : Rn) (A : AS) (w : World) (k : Nat) : Runs φ A w φ A { w with drawn := k } := { Runs.refl φ A w with keep := fun _ _ _ => rfl, os := rfl, tape := rfl, out := rfl }
def AS.put (A : AS) (ab : AB) : AS := { A with h := A.h.set 24 A.next ab, next := A.next + 1 }
def AS.set (A : AS) (n : Nat) (ab : AB) : AS := { A with h := A.h.set 24 n ab }
theorem put_get (A : AS) (ab : AB) (h : A.next + 1 < 2 ^ 24) (n : Nat) : (A.put ab).h.get n = if n = A.next then some ab else A.h.get n := by
  unfold AS.put
  split
  · rename_i e; subst e; exact Trie.get_set_same _ _ _ _ h
  · rename_i e; exact Trie.get_set_other _ _ _ _ _ (fun h => e h.symm)
theorem set_get (A : AS) (k : Nat) (ab : AB) (h : k + 1 < 2 ^ 24) (n : Nat) : (A.set k ab).h.get n = if n = k then some ab else A.h.get n := by
  unfold AS.set
  split
  · rename_i e; subst e; exact Trie.get_set_same _ _ _ _ h
  · rename_i e; exact Trie.get_set_other _ _ _ _ _ (fun h => e h.symm)
theorem put_ok (A : AS) (ab : AB) (n : Nat) (h : A.ok n = true) : (A.put ab).ok n = true := by
  rw [AS.ok_iff] at h ⊢
  rcases h with h | h
  · exact .inl ⟨by show n < A.next + 1; omega, h.2⟩
  · exact .inr h
theorem ext_upd (h : Rel φ A w) (b x : Nat) (hs : ∀ b, φ.F b → w'.heap[b]? = w.heap[b]?) : Ext A.ok φ w (upd φ A.next b x) w' :=
  ⟨fun n hn => upd_other φ b x (by have := (A.ok_iff n).1 hn; have := h.room; unfold big at *; omega), fun _ h => h, hs⟩
theorem Rel.alloc (h : Rel φ A w) {ab : AB} {o : Obj} (x : Nat) (hr : A.next + 2 < 2 ^ 24) (hp : A.next ∉ A.pend) (hw : abok (A.put ab).ok ab = true)
    (ho : ABRel (upd φ A.next w.heap.size x) (w.alloc o) x ab (some o)) :
    Rel (upd φ A.next w.heap.size x) (A.put ab) (w.alloc o) ∧ Runs φ A w (upd φ A.next w.heap.size x) (A.put ab) (w.alloc o) := by
  have hg := put_get A ab h.room
  have heap : ∀ b, (w.alloc o).heap[b]? = if b = w.heap.size then some o else w.heap[b]? := fun b => by
    show (w.heap.push o)[b]? = _
    rw [Array.getElem?_push]
  have ag : Ext A.ok φ w (upd φ A.next w.heap.size x) (w.alloc o) := ext_upd h _ _ fun b hb => by rw [heap, if_neg (by have := (h.fro b hb).1; omega)]
  constructor
  · refine ⟨fun n a hn hpn => ?_, fun n a hn => ?_, fun n m a b hn hl hpn hm hl' hpm e => ?_, fun n a hn hpn => ?_, fun b hb => ⟨?_, fun n a hn hl hpn e => ?_⟩, hr⟩
    · rw [hg] at hn
      split at hn
      · rename_i e; subst e; cases hn
        rw [upd_same, upd_same', heap, if_pos rfl]; exact ho
      · rename_i e
        rw [(upd_other φ _ _ e).1, (upd_other φ _ _ e).2, heap]
        cases hl : a.live with
        | false => exact ABRel.dead_of hl
        | true =>
          rw [if_neg (by have := h.lt_heap hn hl hpn; omega)]
          exact (h.obj n a hn hpn).ext ag (h.wf n a hn hpn)
    · rw [hg] at hn
      show n < A.next + 1
      split at hn
      · omega
      · have := h.lt n a hn; omega
    · rw [hg] at hn hm
      split at hn <;> split at hm
      · rename_i e1 e2; rw [e1, e2]
      · rename_i e1 e2
        subst e1
        rw [upd_same, (upd_other φ _ _ e2).1] at e
        have := h.lt_heap hm hl' hpm; omega
      · rename_i e1 e2
        subst e2
        rw [upd_same, (upd_other φ _ _ e1).1] at e
        have := h.lt_heap hn hl hpn; omega
      · rename_i e1 e2
        rw [(upd_other φ _ _ e1).1, (upd_other φ _ _ e2).1] at e
        exact h.inj n m a b hn hl hpn hm hl' hpm e
    · rw [hg] at hn
      split at hn
      · cases hn; exact hw
      · exact abok_mono (put_ok A ab) a (h.wf n a hn hpn)
    · have := (h.fro b hb).1; simp; omega
    · rw [hg] at hn
      split at hn
      · rename_i e1; subst e1
        rw [upd_same] at e
        have := (h.fro b hb).1; omega
      · rename_i e1
        rw [(upd_other φ _ _ e1).1] at e
        exact (h.fro b hb).2 n a hn hl hpn e
  · refine ⟨fun n hn => upd_other φ _ _ (by have := h.room; unfold big at *; omega), by show A.next ≤ A.next + 1; omega, rfl, by simp, fun b hb _ => by rw [heap, if_neg (by omega)], fun n a hn hl hpn => ?_, fun n hn => ?_, fun _ h => h, fun _ h => .inl h, rfl, rfl, rfl⟩
    · rw [hg] at hn
      split at hn
      · rename_i e; subst e; rw [upd_same]; exact .inl (Nat.le_refl _)
      · rename_i e; rw [(upd_other φ _ _ e).1]; exact .inr ⟨n, a, hn, hl, hpn, rfl⟩
    · have e : n ≠ A.next := fun e => hp (by rw [← e]; exact hn)
      rw [hg, if_neg e]
theorem Rel.write (h : Rel φ A w) {n : Nat} {ab ab' : AB} (hn : A.h.get n = some ab) (hl : ab.live = true) (hp : n ∉ A.pend) (hw : abok A.ok ab' = true)
    (hs : w'.heap.size = w.heap.size) (ho : ABRel φ w (φ.x n) ab' w'.heap[φ.b n]?) (hk : ∀ b, b ≠ φ.b n → w'.heap[b]? = w.heap[b]?) (h1 : w'.os = w.os) (h2 : w'.tape = w.tape) (h3 : w'.output = w.output) :
    Rel φ (A.set n ab') w' ∧ Runs φ A w φ (A.set n ab') w' := by
  have hlt := h.lt n ab hn
  have hg := set_get A n ab' (by have := h.room; omega)
  have ag : Ext A.ok φ w φ w' := ⟨fun _ _ => ⟨rfl, rfl⟩, fun _ h => h, fun b hb => hk b fun e => (h.fro b hb).2 n ab hn hl hp e.symm⟩
  have live' : ∀ m c, (A.set n ab').h.get m = some c → c.live = true → ∃ d, A.h.get m = some d ∧ d.live = true := by
    intro m c hm hc
    rw [hg] at hm
    split at hm
    · rename_i e; subst e; exact ⟨ab, hn, hl⟩
    · exact ⟨c, hm, hc⟩
  constructor
  · refine ⟨fun m a hm hpm => ?_, fun m a hm => ?_, fun m k a b hm hla hpm hk' hlb hpk e => ?_, fun m a hm hpm => ?_, fun b hb => ⟨by rw [hs]; exact (h.fro b hb).1, fun m a hm hla hpm e => ?_⟩, h.room⟩
    · rw [hg] at hm
      split at hm
      · rename_i e; subst e; cases hm; exact ho.ext ag hw
      · rename_i e
        cases hla : a.live with
        | false => exact ABRel.dead_of hla
        | true =>
          rw [hk _ (fun e' => e (h.inj m n a ab hm hla hpm hn hl hp e'))]
          exact (h.obj m a hm hpm).ext ag (h.wf m a hm hpm)
    · rw [hg] at hm
      split at hm
      · rename_i e; rw [e]; exact hlt
      · exact h.lt m a hm
    · obtain ⟨a1, g1, l1⟩ := live' m a hm hla
      obtain ⟨b1, g2, l2⟩ := live' k b hk' hlb
      exact h.inj m k a1 b1 g1 l1 hpm g2 l2 hpk e
    · rw [hg] at hm
      split at hm
      · cases hm; exact hw
      · exact h.wf m a hm hpm
    · obtain ⟨a1, g1, l1⟩ := live' m a hm hla
      exact (h.fro b hb).2 m a1 g1 l1 hpm e
  · refine ⟨fun _ _ => ⟨rfl, rfl⟩, Nat.le_refl _, rfl, by omega, fun b _ hb => hk b (fun e => hb n ab hn hl hp e.symm), fun m a hm hla hpm => ?_, fun m hm => ?_, fun _ h => h, fun _ h => .inl h, h1, h2, h3⟩
    · obtain ⟨a1, g1, l1⟩ := live' m a hm hla
      exact .inr ⟨m, a1, g1, l1, hpm, rfl⟩
    · have e : m ≠ n := fun e => hp (by rw [← e]; exact hm)
      rw [hg, if_neg e]
theorem Rel.less (h : Rel φ A w) {B : AS} {F' : Nat → Prop} (hn : B.next = A.next) (hp : B.pend = A.pend) (hB : ∀ n ab, B.h.get n = some ab → ab.live = true → n ∉ A.pend → A.h.get n = some ab) (hlt : ∀ n ab, B.h.get n = some ab → n < A.next)
    (hpd : ∀ n, n ∈ A.pend → B.h.get n = A.h.get n) (hF : ∀ b, φ.F b → F' b)
    (hnew : ∀ b, F' b → φ.F b ∨ ∃ m ab, A.h.get m = some ab ∧ ab.live = true ∧ m ∉ A.pend ∧ φ.b m = b ∧ ∀ ab', B.h.get m = some ab' → ab'.live = false) :
    Rel ⟨φ.b, φ.x, F'⟩ B w ∧ Runs φ A w ⟨φ.b, φ.x, F'⟩ B w := by
  have ag : Ext A.ok φ w ⟨φ.b, φ.x, F'⟩ w := ⟨fun _ _ => ⟨rfl, rfl⟩, hF, fun _ _ => rfl⟩
  constructor
  · refine ⟨fun n ab hb hpn => ?_, fun n ab hb => by rw [hn]; exact hlt n ab hb, fun n m a b h1 h2 h3 h4 h5 h6 e => ?_, fun n ab hb hpn => ?_, fun b hb => ⟨?_, fun n ab h1 h2 h3 e => ?_⟩, by rw [hn]; exact h.room⟩
    · rw [hp] at hpn
      cases hl : ab.live with
      | false => exact ABRel.dead_of hl
      | true =>
        have := hB n ab hb hl hpn
        exact (h.obj n ab this hpn).ext ag (h.wf n ab this hpn)
    · rw [hp] at h3 h6
      exact h.inj n m a b (hB _ _ h1 h2 h3) h2 h3 (hB _ _ h4 h5 h6) h5 h6 e
    · rw [hp] at hpn
      cases hl : ab.live with
      | false => cases ab <;> first | rfl | (simp [AB.live] at hl)
      | true =>
        have := h.wf n ab (hB n ab hb hl hpn) hpn
        refine abok_mono (fun k hk => ?_) ab this
        rw [AS.ok_iff] at hk ⊢
        rw [hn, hp]; exact hk
    · rcases hnew b hb with h1 | ⟨m, ab, h1, h2, h3, h4, _⟩
      · exact (h.fro b h1).1
      · rw [← h4]; exact h.lt_heap h1 h2 h3
    · rw [hp] at h3
      have h1' := hB n ab h1 h2 h3
      rcases hnew b hb with h5 | ⟨m, ab', h5, h6, h7, h8, h9⟩
      · exact (h.fro b h5).2 n ab h1' h2 h3 e
      · have := h.inj n m ab ab' h1' h2 h3 h5 h6 h7 (e.trans h8.symm)
        subst this
        have := h9 ab h1
        rw [h2] at this; cases this
  · refine ⟨fun _ _ => ⟨rfl, rfl⟩, by omega, hp, Nat.le_refl _, fun b _ _ => rfl, fun n ab h1 h2 h3 => .inr ⟨n, ab, hB n ab h1 h2 h3, h2, h3, rfl⟩, hpd, hF, fun b hb => ?_, rfl, rfl, rfl⟩
    rcases hnew b hb with h1 | ⟨m, ab, h1, h2, h3, h4, _⟩
    · exact .inl h1
    · exact .inr (.inr ⟨m, ab, h1, h2, h3, h4⟩)
theorem Rel.kill (h : Rel φ A w) {n : Nat} (hn : n < A.next) (hp : n ∉ A.pend) : Rel φ (A.set n .dead) w ∧ Runs φ A w φ (A.set n .dead) w := by
  have hg := set_get A n .dead (by have := h.room; omega)
  refine h.less rfl rfl (fun m ab h1 h2 _ => ?_) (fun m ab h1 => ?_) (fun m hm => ?_) (fun _ h => h) (fun _ h => .inl h)
  · rw [hg] at h1
    split at h1
    · cases h1; cases h2
    · exact h1
  · rw [hg] at h1
    split at h1
    · omega
    · exact h.lt m ab h1
  · rw [hg, if_neg fun e => hp (by rw [← e]; exact hm)]
theorem Rel.grow (h : Rel φ A w) {n : Nat} {ab ab' : AB} (x : Nat) (hn : A.h.get n = some ab) (hl : ab.live = true) (hp : n ∉ A.pend) (hr : A.next + 2 < 2 ^ 24) (hpn : A.next ∉ A.pend)
    (hw : abok (A.put ab').ok ab' = true) (hs : w'.heap.size = w.heap.size) (ho : ABRel (upd φ A.next (φ.b n) x) w' x ab' w'.heap[φ.b n]?) (hk : ∀ b, b ≠ φ.b n → w'.heap[b]? = w.heap[b]?)
    (h1 : w'.os = w.os) (h2 : w'.tape = w.tape) (h3 : w'.output = w.output) :
    Rel (upd φ A.next (φ.b n) x) ((A.set n .dead).put ab') w' ∧ Runs φ A w (upd φ A.next (φ.b n) x) ((A.set n .dead).put ab') w' := by
  have hlt := h.lt n ab hn
  have hg : ∀ m, ((A.set n .dead).put ab').h.get m = if m = A.next then some ab' else if m = n then some .dead else A.h.get m := fun m => by
    rw [put_get _ _ (show (A.set n .dead).next + 1 < 2 ^ 24 from h.room), set_get A n .dead (by have := h.room; omega)]; rfl
  have ag : Ext A.ok φ w (upd φ A.next (φ.b n) x) w' := ext_upd h _ _ fun b hb => hk b fun e => (h.fro b hb).2 n ab hn hl hp e.symm
  have okk : ∀ m, A.ok m = true → ((A.set n .dead).put ab').ok m = true := fun m hm => by
    rw [AS.ok_iff] at hm ⊢
    rcases hm with hm | hm
    · exact .inl ⟨by show m < A.next + 1; omega, hm.2⟩
    · exact .inr hm
  constructor
  · refine ⟨fun m a hm hpm => ?_, fun m a hm => ?_, fun m k a b hm hla hpm hk' hlb hpk e => ?_, fun m a hm hpm => ?_, fun b hb => ⟨by rw [hs]; exact (h.fro b hb).1, fun m a hm hla hpm e => ?_⟩, hr⟩
    · rw [hg] at hm
      split at hm
      · rename_i e; subst e; cases hm; rw [upd_same, upd_same']; exact ho
      · rename_i e
        split at hm
        · cases hm; trivial
        · rename_i e2
          rw [(upd_other φ _ _ e).1, (upd_other φ _ _ e).2]
          cases hla : a.live with
          | false => exact ABRel.dead_of hla
          | true =>
            rw [hk _ (fun e' => e2 (h.inj m n a ab hm hla hpm hn hl hp e'))]
            exact (h.obj m a hm hpm).ext ag (h.wf m a hm hpm)
    · rw [hg] at hm
      show m < A.next + 1
      split at hm
      · omega
      · split at hm
        · omega
        · have := h.lt m a hm; omega
    · rw [hg] at hm hk'
      split at hm
      · rename_i e1
        split at hk'
        · rename_i e2; rw [e1, e2]
        · rename_i e2
          split at hk'
          · cases hk'; cases hlb
          · rename_i e3
            rw [e1, upd_same, (upd_other φ _ _ e2).1] at e
            exact absurd (h.inj k n b ab hk' hlb hpk hn hl hp e.symm) e3
      · rename_i e1
        split at hm
        · cases hm; cases hla
        · rename_i e3
          split at hk'
          · rename_i e2
            rw [e2, upd_same, (upd_other φ _ _ e1).1] at e
            exact absurd (h.inj m n a ab hm hla hpm hn hl hp e) e3
          · rename_i e2
            split at hk'
            · cases hk'; cases hlb
            · rw [(upd_other φ _ _ e1).1, (upd_other φ _ _ e2).1] at e
              exact h.inj m k a b hm hla hpm hk' hlb hpk e
    · rw [hg] at hm
      split at hm
      · cases hm; exact hw
      · split at hm
        · cases hm; rfl
        · exact abok_mono okk a (h.wf m a hm hpm)
    · rw [hg] at hm
      split at hm
      · rename_i e1; subst e1
        rw [upd_same] at e
        exact (h.fro b hb).2 n ab hn hl hp e
      · split at hm
        · cases hm; cases hla
        · rename_i e1 _
          rw [(upd_other φ _ _ e1).1] at e
          exact (h.fro b hb).2 m a hm hla hpm e
  · refine ⟨fun m hm => upd_other φ _ _ (by have := h.room; unfold big at *; omega), by show A.next ≤ A.next + 1; omega, rfl, by omega, fun b _ hb => hk b (fun e => hb n ab hn hl hp e.symm), fun m a hm hla hpm => ?_, fun m hm => ?_, fun _ h => h, fun _ h => .inl h, h1, h2, h3⟩
    · rw [hg] at hm
      split at hm
      · rename_i e; rw [e, upd_same]; exact .inr ⟨n, ab, hn, hl, hp, rfl⟩
      · rename_i e
        split at hm
        · cases hm; cases hla
        · rw [(upd_other φ _ _ e).1]; exact .inr ⟨m, a, hm, hla, hpm, rfl⟩
    · have e1 : m ≠ A.next := fun e => hpn (by rw [← e]; exact hm)
      have e2 : m ≠ n := fun e => hp (by rw [← e]; exact hm)
      rw [hg, if_neg e1, if_neg e2]
end Go.Ev
