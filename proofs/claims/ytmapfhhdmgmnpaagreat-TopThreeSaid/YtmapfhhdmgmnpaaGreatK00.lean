namespace TP
abbrev Path := List Nat
inductive Tree (α : Type) where
  | mk (d : α) (kids : List (Tree α))
namespace Tree
variable {α β : Type}
def d : Tree α → α | mk d _ => d
def kids : Tree α → List (Tree α) | mk _ k => k
theorem eta (T : Tree α) : mk T.d T.kids = T := by cases T; rfl
theorem ext' {T U : Tree α} (h : T.d = U.d) (h' : T.kids = U.kids) : T = U := by cases T; cases U; simp_all [d, kids]
@[simp] theorem d_mk (d : α) (k : List (Tree α)) : (mk d k).d = d := rfl
@[simp] theorem kids_mk (d : α) (k : List (Tree α)) : (mk d k).kids = k := rfl
end Tree
open Tree
variable {α : Type}
def at? : Path → Tree α → Option (Tree α)
  | [], T => some T
  | i :: p, T => (T.kids[i]?).bind (at? p)
def upd (f : Tree α → Tree α) : Path → Tree α → Tree α
  | [], T => f T
  | i :: p, T => .mk T.d (T.kids.modify i (upd f p))
def insK (g : Nat) (X T : Tree α) : Tree α := .mk T.d (T.kids.take g ++ X :: T.kids.drop g)
def delK (i : Nat) (T : Tree α) : Tree α := .mk T.d (T.kids.eraseIdx i)
def datK (f : α → α) (T : Tree α) : Tree α := .mk (f T.d) T.kids
def nIns (g : Nat) : Path → Path → Path
  | [], k :: r => (if g ≤ k then k + 1 else k) :: r
  | i :: P, k :: r => if i = k then k :: nIns g P r else k :: r
  | _, [] => []
def nDel (c : Nat) : Path → Path → Path
  | [], k :: r => (if c < k then k - 1 else k) :: r
  | i :: P, k :: r => if i = k then k :: nDel c P r else k :: r
  | _, [] => []
theorem at?_append (p q : Path) (T : Tree α) : at? (p ++ q) T = (at? p T).bind (at? q) := by
  induction p generalizing T with
  | nil => rfl
  | cons i p ih =>
    simp only [List.cons_append, at?]
    cases T.kids[i]? with
    | none => rfl
    | some k => exact ih k
theorem at?_cons {i : Nat} {p : Path} {T X : Tree α} : at? (i :: p) T = some X ↔ ∃ k, T.kids[i]? = some k ∧ at? p k = some X := by
  simp only [at?]; cases T.kids[i]? <;> simp
theorem getElem?_ins (l : List (Tree α)) (g k : Nat) (X : Tree α) (hg : g ≤ l.length) :
    (l.take g ++ X :: l.drop g)[k]? = if k < g then l[k]? else if k = g then some X else l[k - 1]? := by
  have h1 : (l.take g).length = g := by simp; omega
  rw [List.getElem?_append, h1]
  split
  · rw [List.getElem?_take]; simp [*]
  · by_cases h : k = g
    · subst h; simp
    · have : k - g = (k - 1 - g) + 1 := by omega
      rw [this]; simp only [List.getElem?_cons_succ, List.getElem?_drop, h, if_false]
      congr 1; omega
theorem getElem?_del (l : List (Tree α)) (c k : Nat) : (l.eraseIdx c)[k]? = if k < c then l[k]? else l[k + 1]? := List.getElem?_eraseIdx
theorem at?_upd_self {f : Tree α → Tree α} {p : Path} {T X : Tree α} (h : at? p T = some X) (q : Path) : at? (p ++ q) (upd f p T) = at? q (f X) := by
  induction p generalizing T with
  | nil => cases h; rfl
  | cons i p ih =>
    obtain ⟨k, hk, h'⟩ := at?_cons.1 h
    simp only [List.cons_append, at?, upd, kids_mk, List.getElem?_modify_eq, hk]
    simp only [Option.map_eq_map, Option.map_some, Option.bind_some]
    exact ih h'
def knm {ν : Type} (π : α → ν) (T : Tree α) : List ν := T.kids.map fun k => π k.d
theorem at?_upd_other {ν : Type} (π : α → ν) {f : Tree α → Tree α} {P : Path} {T X : Tree α} (hf : ∀ Z, at? P T = some Z → π (f Z).d = π Z.d) {p : Path} (hp : ¬ P <+: p) (h : at? p T = some X) :
    ∃ X', at? p (upd f P T) = some X' ∧ X'.d = X.d ∧ knm π X' = knm π X := by
  induction P generalizing p T with
  | nil => exact absurd (List.nil_prefix) hp
  | cons i P ih =>
    cases p with
    | nil =>
      cases h
      refine ⟨_, rfl, rfl, ?_⟩
      apply List.ext_getElem?
      intro n
      simp only [upd, knm, kids_mk, List.getElem?_map]
      rw [List.getElem?_modify]
      cases hn : X.kids[n]? with
      | none => simp
      | some k =>
        simp only [Option.map_eq_map, Option.map_some, Option.some.injEq]
        split
        · rename_i e
          subst e
          cases P with
          | nil => exact hf k (by simp [at?, hn])
          | cons j P => rfl
        · rfl
    | cons k p =>
      obtain ⟨c, hc, h'⟩ := at?_cons.1 h
      by_cases e : i = k
      · subst e
        have hp' : ¬ P <+: p := fun hh => hp (by simpa using hh)
        obtain ⟨X', h1, h2, h3⟩ := ih (T := c) (fun Z hZ => hf Z (at?_cons.2 ⟨c, hc, hZ⟩)) hp' h'
        exact ⟨X', at?_cons.2 ⟨upd f P c, by simp [upd, hc], h1⟩, h2, h3⟩
      · refine ⟨X, at?_cons.2 ⟨c, ?_, h'⟩, rfl, rfl⟩
        simp [upd, e, hc]
theorem at?_upd_back {ν : Type} (π : α → ν) {f : Tree α → Tree α} {P : Path} {T X' Z : Tree α} (hZ : at? P T = some Z) (hf : π (f Z).d = π Z.d) {p : Path} (hp : ¬ P <+: p) (h : at? p (upd f P T) = some X') :
    ∃ X, at? p T = some X ∧ X'.d = X.d ∧ knm π X' = knm π X := by
  cases hx : at? p T with
  | some X =>
    obtain ⟨X'', h1, h2, h3⟩ := at?_upd_other π (f := f) (P := P) (fun Z' hZ' => by rw [hZ] at hZ'; cases hZ'; exact hf) hp hx
    rw [h] at h1; cases h1
    exact ⟨X, rfl, h2, h3⟩
  | none =>
    exfalso
    induction P generalizing p T with
    | nil => exact hp List.nil_prefix
    | cons i P ih =>
      cases p with
      | nil => simp [at?] at hx
      | cons k p =>
        obtain ⟨c', hc', h'⟩ := at?_cons.1 h
        simp only [upd, kids_mk, List.getElem?_modify] at hc'
        cases hc : T.kids[k]? with
        | none => simp [hc] at hc'
        | some c =>
          simp only [at?, hc, Option.bind_some] at hx
          obtain ⟨c2, hc2, hZ'⟩ := at?_cons.1 hZ
          by_cases e : i = k
          · subst e
            rw [hc] at hc2; cases hc2
            simp [hc] at hc'
            subst hc'
            exact ih hZ' (fun hh => hp (by simpa using hh)) h' hx
          · simp [hc, e] at hc'
            subst hc'
            rw [h'] at hx; cases hx
theorem nIns_out {g : Nat} {P p : Path} (h : ¬ P <+: p) : nIns g P p = p := by
  induction P generalizing p with
  | nil => exact absurd List.nil_prefix h
  | cons i P ih =>
    cases p with
    | nil => rfl
    | cons k r =>
      simp only [nIns]; split
      · rename_i e; subst e; rw [ih (fun hh => h (by simpa using hh))]
      · rfl
theorem nIns_in {g : Nat} {P : Path} {k : Nat} {r : Path} : nIns g P (P ++ k :: r) = P ++ (if g ≤ k then k + 1 else k) :: r := by
  induction P with
  | nil => rfl
  | cons i P ih => simp [nIns, ih]
theorem nIns_self {g : Nat} {P : Path} : nIns g P P = P := by
  induction P with
  | nil => rfl
  | cons i P ih => simp [nIns, ih]
theorem nDel_out {c : Nat} {P p : Path} (h : ¬ P <+: p) : nDel c P p = p := by
  induction P generalizing p with
  | nil => exact absurd List.nil_prefix h
  | cons i P ih =>
    cases p with
    | nil => rfl
    | cons k r =>
      simp only [nDel]; split
      · rename_i e; subst e; rw [ih (fun hh => h (by simpa using hh))]
      · rfl
theorem nDel_in {c : Nat} {P : Path} {k : Nat} {r : Path} : nDel c P (P ++ k :: r) = P ++ (if c < k then k - 1 else k) :: r := by
  induction P with
  | nil => rfl
  | cons i P ih => simp [nDel, ih]
theorem nDel_self {c : Nat} {P : Path} : nDel c P P = P := by
  induction P with
  | nil => rfl
  | cons i P ih => simp [nDel, ih]
theorem place (P p : Path) : (¬ P <+: p) ∨ p = P ∨ ∃ k r, p = P ++ k :: r := by
  by_cases h : P <+: p
  · obtain ⟨s, rfl⟩ := h
    cases s with
    | nil => exact .inr (.inl (by simp))
    | cons k r => exact .inr (.inr ⟨k, r, rfl⟩)
  · exact .inl h
theorem ns {P p : Path} (h : ¬ P <+: p) : p ≠ P := fun e => h (by rw [e]; exact List.prefix_refl _)
def insL {ν : Type} (g : Nat) (y : ν) (l : List ν) : List ν := l.take g ++ y :: l.drop g
def ins (P : Path) (g : Nat) (Y T : Tree α) : Tree α := upd (insK g Y) P T
def del (P : Path) (c : Nat) (T : Tree α) : Tree α := upd (delK c) P T
def dat (P : Path) (f : α → α) (T : Tree α) : Tree α := upd (datK f) P T
section
variable {ν : Type} (π : α → ν) {P : Path} {g c : Nat} {Y T Z X X' : Tree α} {p : Path}
theorem knm_insK : knm π (insK g Y Z) = insL g (π Y.d) (knm π Z) := by simp [knm, insK, insL, List.map_take, List.map_drop]
theorem knm_delK : knm π (delK c Z) = (knm π Z).eraseIdx c := by unfold knm; apply List.ext_getElem?; intro n; simp only [delK, kids_mk, List.getElem?_map, List.getElem?_eraseIdx]; split <;> rfl
theorem ne_append_cons {P : Path} {k : Nat} {r : Path} : P ++ k :: r ≠ P := fun h => by have := congrArg List.length h; simp at this
theorem ins_fwd (hZ : at? P T = some Z) (hg : g ≤ Z.kids.length) (h : at? p T = some X) :
    ∃ X', at? (nIns g P p) (ins P g Y T) = some X' ∧ X'.d = X.d ∧ knm π X' = if p = P then insL g (π Y.d) (knm π X) else knm π X := by
  rcases place P p with hp | rfl | ⟨k, r, rfl⟩
  · rw [nIns_out hp]
    obtain ⟨X', h1, h2, h3⟩ := at?_upd_other π (f := insK g Y) (fun _ _ => rfl) hp h
    exact ⟨X', h1, h2, by rw [h3, if_neg (ns hp)]⟩
  · rw [nIns_self, if_pos rfl]
    rw [hZ] at h; cases h
    refine ⟨insK g Y Z, ?_, rfl, knm_insK π⟩
    have := at?_upd_self (f := insK g Y) hZ []
    rw [List.append_nil] at this
    exact this
  · rw [nIns_in, if_neg ne_append_cons]
    refine ⟨X, ?_, rfl, rfl⟩
    rw [ins, at?_upd_self hZ]
    rw [at?_append, hZ, Option.bind_some] at h
    obtain ⟨k', hk', h'⟩ := at?_cons.1 h
    refine at?_cons.2 ⟨k', ?_, h'⟩
    simp only [insK, kids_mk]
    rw [getElem?_ins _ _ _ _ hg]
    split
    · rw [if_neg (by omega), if_neg (by omega)]; exact hk'
    · rw [if_pos (by omega)]; exact hk'
theorem ins_back (hZ : at? P T = some Z) (hg : g ≤ Z.kids.length) (h : at? p (ins P g Y T) = some X') :
    (∃ q X, at? q T = some X ∧ nIns g P q = p ∧ X'.d = X.d ∧ knm π X' = if q = P then insL g (π Y.d) (knm π X) else knm π X) ∨
    (∃ r, p = P ++ g :: r ∧ at? r Y = some X') := by
  rcases place P p with hp | rfl | ⟨k, r, rfl⟩
  · obtain ⟨X, h1, h2, h3⟩ := at?_upd_back π hZ (f := insK g Y) rfl hp h
    exact .inl ⟨p, X, h1, nIns_out hp, h2, by rw [h3, if_neg (ns hp)]⟩
  · have := at?_upd_self (f := insK g Y) hZ []
    rw [List.append_nil] at this
    rw [ins, this] at h; cases h
    exact .inl ⟨p, Z, hZ, nIns_self, rfl, by rw [if_pos rfl, knm_insK]⟩
  · rw [ins, at?_upd_self hZ] at h
    obtain ⟨k', hk', h'⟩ := at?_cons.1 h
    simp only [insK, kids_mk] at hk'
    rw [getElem?_ins _ _ _ _ hg] at hk'
    split at hk'
    · refine .inl ⟨P ++ k :: r, X', ?_, ?_, rfl, by rw [if_neg ne_append_cons]⟩
      · rw [at?_append, hZ]; exact at?_cons.2 ⟨k', hk', h'⟩
      · rw [nIns_in, if_neg (by omega)]
    · split at hk'
      · rename_i e; subst e; cases hk'
        exact .inr ⟨r, rfl, h'⟩
      · refine .inl ⟨P ++ (k - 1) :: r, X', ?_, ?_, rfl, by rw [if_neg ne_append_cons]⟩
        · rw [at?_append, hZ]; exact at?_cons.2 ⟨k', hk', h'⟩
        · rw [nIns_in, if_pos (by omega)]; congr 2; omega
theorem del_fwd (hZ : at? P T = some Z) (hn : ¬ (P ++ [c]) <+: p) (h : at? p T = some X) :
    ∃ X', at? (nDel c P p) (del P c T) = some X' ∧ X'.d = X.d ∧ knm π X' = if p = P then (knm π X).eraseIdx c else knm π X := by
  rcases place P p with hp | rfl | ⟨k, r, rfl⟩
  · rw [nDel_out hp]
    obtain ⟨X', h1, h2, h3⟩ := at?_upd_other π (f := delK c) (fun _ _ => rfl) hp h
    exact ⟨X', h1, h2, by rw [h3, if_neg (ns hp)]⟩
  · rw [nDel_self, if_pos rfl]
    rw [hZ] at h; cases h
    refine ⟨delK c Z, ?_, rfl, knm_delK π⟩
    have := at?_upd_self (f := delK c) hZ []
    rw [List.append_nil] at this
    exact this
  · rw [nDel_in, if_neg ne_append_cons]
    refine ⟨X, ?_, rfl, rfl⟩
    rw [del, at?_upd_self hZ]
    rw [at?_append, hZ, Option.bind_some] at h
    obtain ⟨k', hk', h'⟩ := at?_cons.1 h
    have hkc : k ≠ c := fun e => hn (by subst e; exact ⟨r, by simp⟩)
    refine at?_cons.2 ⟨k', ?_, h'⟩
    simp only [delK, kids_mk]
    rw [getElem?_del]
    split
    · rw [if_neg (by omega)]; rw [show k - 1 + 1 = k by omega]; exact hk'
    · rw [if_pos (by omega)]; exact hk'
theorem del_back (hZ : at? P T = some Z) (h : at? p (del P c T) = some X') :
    ∃ q X, at? q T = some X ∧ ¬ (P ++ [c]) <+: q ∧ nDel c P q = p ∧ X'.d = X.d ∧ knm π X' = if q = P then (knm π X).eraseIdx c else knm π X := by
  have hpc : ¬ (P ++ [c]) <+: P := fun hh => by have := hh.length_le; simp at this; omega
  rcases place P p with hp | rfl | ⟨k, r, rfl⟩
  · obtain ⟨X, h1, h2, h3⟩ := at?_upd_back π hZ (f := delK c) rfl hp h
    exact ⟨p, X, h1, fun hh => hp ((List.prefix_append _ _).trans hh), nDel_out hp, h2, by rw [h3, if_neg (ns hp)]⟩
  · have := at?_upd_self (f := delK c) hZ []
    rw [List.append_nil] at this
    rw [del, this] at h; cases h
    exact ⟨p, Z, hZ, hpc, nDel_self, rfl, by rw [if_pos rfl, knm_delK]⟩
  · rw [del, at?_upd_self hZ] at h
    obtain ⟨k', hk', h'⟩ := at?_cons.1 h
    simp only [delK, kids_mk] at hk'
    rw [getElem?_del] at hk'
    have no : ∀ m, m ≠ c → ¬ (P ++ [c]) <+: (P ++ m :: r) := fun m hm hh => by
      rw [List.prefix_append_right_inj] at hh
      simp at hh; exact hm hh.symm
    split at hk'
    · refine ⟨P ++ k :: r, X', ?_, no k (by omega), ?_, rfl, by rw [if_neg ne_append_cons]⟩
      · rw [at?_append, hZ]; exact at?_cons.2 ⟨k', hk', h'⟩
      · rw [nDel_in, if_neg (by omega)]
    · refine ⟨P ++ (k + 1) :: r, X', ?_, no _ (by omega), ?_, rfl, by rw [if_neg ne_append_cons]⟩
      · rw [at?_append, hZ]; exact at?_cons.2 ⟨k', hk', h'⟩
      · rw [nDel_in, if_pos (by omega)]; simp
theorem dat_fwd {f : α → α} (hf : ∀ x, π (f x) = π x) (h : at? p T = some X) :
    ∃ X', at? p (dat P f T) = some X' ∧ X'.d = (if p = P then f X.d else X.d) ∧ knm π X' = knm π X := by
  rcases place P p with hp | rfl | ⟨k, r, rfl⟩
  · obtain ⟨X', h1, h2, h3⟩ := at?_upd_other π (f := datK f) (fun _ _ => hf _) hp h
    exact ⟨X', h1, by rw [h2, if_neg (ns hp)], h3⟩
  · refine ⟨datK f X, ?_, by rw [if_pos rfl]; rfl, rfl⟩
    have := at?_upd_self (f := datK f) h []
    rw [List.append_nil] at this
    exact this
  · rw [if_neg ne_append_cons]
    rw [at?_append] at h
    cases hZ : at? P T with
    | none => simp [hZ] at h
    | some Z =>
      rw [hZ, Option.bind_some] at h
      exact ⟨X, by rw [dat, at?_upd_self hZ]; exact h, rfl, rfl⟩
theorem dat_back {f : α → α} (hf : ∀ x, π (f x) = π x) (hZ : at? P T = some Z) (h : at? p (dat P f T) = some X') :
    ∃ X, at? p T = some X ∧ X'.d = (if p = P then f X.d else X.d) ∧ knm π X' = knm π X := by
  rcases place P p with hp | rfl | ⟨k, r, rfl⟩
  · obtain ⟨X, h1, h2, h3⟩ := at?_upd_back π hZ (f := datK f) (hf _) hp h
    exact ⟨X, h1, by rw [h2, if_neg (ns hp)], h3⟩
  · have := at?_upd_self (f := datK f) hZ []
    rw [List.append_nil] at this
    rw [dat, this] at h; cases h
    exact ⟨Z, hZ, by rw [if_pos rfl]; rfl, rfl⟩
  · rw [dat, at?_upd_self hZ] at h
    exact ⟨X', by rw [at?_append, hZ]; exact h, by rw [if_neg ne_append_cons], rfl⟩
end
theorem tree_ext {ν : Type} (π : α → ν) : ∀ (T U : Tree α), π T.d = π U.d →
    (∀ p q X Y, at? p T = some X → at? q U = some Y → π X.d = π Y.d → X.d = Y.d ∧ knm π X = knm π Y) → T = U
  | .mk d ks, U, hr, h => by
    obtain ⟨hd, hk⟩ := h [] [] _ _ rfl rfl hr
    refine Tree.ext' hd (List.ext_getElem? fun n => ?_)
    have hn : (knm π (mk d ks))[n]? = (knm π U)[n]? := by rw [hk]
    simp only [knm, List.getElem?_map, kids_mk] at hn ⊢
    cases h1 : ks[n]? with
    | none => cases h2 : U.kids[n]? with
      | none => rfl
      | some y => simp [h1, h2] at hn
    | some x => cases h2 : U.kids[n]? with
      | none => simp [h1, h2] at hn
      | some y =>
        simp only [h1, h2, Option.map_some, Option.some.injEq] at hn
        rw [tree_ext π x y hn fun p q X Y hX hY e => h (n :: p) (n :: q) X Y (at?_cons.2 ⟨x, h1, hX⟩) (at?_cons.2 ⟨y, h2, hY⟩) e]
termination_by T => sizeOf T
decreasing_by simp_wf; have := List.sizeOf_lt_of_mem (List.mem_of_getElem? h1); omega
end TP
namespace TP
open Tree
variable {α ν : Type} [DecidableEq ν]
def rmv (r : Option ν) (L : List ν) : List ν := L.filter fun x => some x ≠ r
theorem rmv_none (L : List ν) : rmv none L = L := by simp [rmv]
theorem rmv_append (r : Option ν) (L M : List ν) : rmv r (L ++ M) = rmv r L ++ rmv r M := List.filter_append ..
theorem rmv_cons_ne {r : Option ν} {y : ν} (h : some y ≠ r) (L : List ν) : rmv r (y :: L) = y :: rmv r L := by
  unfold rmv; rw [List.filter_cons_of_pos (by simpa using h)]
theorem rmv_cons_eq (y : ν) (L : List ν) : rmv (some y) (y :: L) = rmv (some y) L := by
  unfold rmv; rw [List.filter_cons_of_neg (by simp)]
theorem rmv_not {u : ν} {L : List ν} (h : u ∉ L) : rmv (some u) L = L := List.filter_eq_self.2 fun x hx => by simpa using fun e : x = u => h (e ▸ hx)
theorem rmv_comm (r s : Option ν) (L : List ν) : rmv r (rmv s L) = rmv s (rmv r L) := by
  unfold rmv; rw [List.filter_filter, List.filter_filter]; congr 1; funext x; exact Bool.and_comm _ _
theorem rmv_idem (r : Option ν) (L : List ν) : rmv r (rmv r L) = rmv r L := by
  unfold rmv; rw [List.filter_filter]; congr 1; funext x; exact Bool.and_self _
theorem mem_rmv {r : Option ν} {L : List ν} {x : ν} (h : x ∈ rmv r L) : x ∈ L := (List.mem_filter.1 h).1
def K (r : Option ν) (io : Option (ν × Nat × ν)) (v : ν) (L : List ν) : List ν :=
  match io with
  | some (t, g, y) => if v = t then rmv r (L.take g) ++ y :: rmv r (L.drop g) else rmv r L
  | none => rmv r L
theorem eraseIdx_eq_rmv {u : ν} : ∀ {L : List ν} {c : Nat}, L[c]? = some u → (∀ i, L[i]? = some u → i = c) → L.eraseIdx c = rmv (some u) L
  | [], c, h, _ => by simp at h
  | x :: L, 0, h, hu => by
    simp at h; subst h
    rw [rmv_cons_eq, rmv_not]; rfl
    intro hm
    obtain ⟨i, hi⟩ := List.mem_iff_getElem?.1 hm
    have := hu (i + 1) (by simpa using hi); omega
  | x :: L, c + 1, h, hu => by
    have hx : x ≠ u := fun e => by have := hu 0 (by simp [e]); omega
    rw [rmv_cons_ne (by simpa using hx), List.eraseIdx_cons_succ, eraseIdx_eq_rmv (by simpa using h) (fun i hi => by have := hu (i + 1) (by simpa using hi); omega)]
theorem length_rmv_take {u : ν} {L : List ν} {c g : Nat} (h : L[c]? = some u) (hu : ∀ i, L[i]? = some u → i = c) (hg : g ≤ L.length) :
    (rmv (some u) (L.take g)).length = if c < g then g - 1 else g := by
  split
  · rename_i hc
    rw [← eraseIdx_eq_rmv (c := c) (by rw [List.getElem?_take]; simp [hc, h]) (fun i hi => hu i (by rw [List.getElem?_take] at hi; split at hi <;> simp_all)),
      List.length_eraseIdx, List.length_take, Nat.min_eq_left hg, if_pos hc]
  · rename_i hc
    rw [rmv_not]
    · simp; omega
    · intro hm
      obtain ⟨i, hi⟩ := List.mem_iff_getElem?.1 hm
      rw [List.getElem?_take] at hi
      split at hi
      · have := hu i hi; omega
      · simp at hi
variable (π : α → ν)
def Uniq (T : Tree α) : Prop := ∀ p q X Y, at? p T = some X → at? q T = some Y → π X.d = π Y.d → p = q
omit [DecidableEq ν] in
theorem knm_get {p : Path} {T X : Tree α} (h : at? p T = some X) (i : Nat) : (knm π X)[i]? = (at? (p ++ [i]) T).map fun k => π k.d := by
  rw [at?_append, h]
  simp only [knm, List.getElem?_map, Option.bind_some, at?]
  cases X.kids[i]? <;> rfl
variable {π}
omit [DecidableEq ν] in
theorem Uniq.kid {T X U : Tree α} (hu : Uniq π T) {p P : Path} {c i : Nat} (h : at? p T = some X) (hU : at? (P ++ [c]) T = some U) (hi : (knm π X)[i]? = some (π U.d)) : p = P ∧ i = c := by
  rw [knm_get π h] at hi
  cases hk : at? (p ++ [i]) T with
  | none => simp [hk] at hi
  | some k =>
    simp only [hk, Option.map_some, Option.some.injEq] at hi
    have := hu _ _ _ _ hk hU hi
    simpa using this
theorem knm_del {T X U : Tree α} (hu : Uniq π T) {p P : Path} {c : Nat} (h : at? p T = some X) (hU : at? (P ++ [c]) T = some U) :
    (if p = P then (knm π X).eraseIdx c else knm π X) = rmv (some (π U.d)) (knm π X) := by
  split
  · rename_i e; subst e
    exact eraseIdx_eq_rmv (by rw [knm_get π h, hU]; rfl) (fun i hi => (hu.kid h hU hi).2)
  · rename_i e
    rw [rmv_not]
    intro hm
    obtain ⟨i, hi⟩ := List.mem_iff_getElem?.1 hm
    exact e (hu.kid h hU hi).1
structure Eff (π : α → ν) (T T' : Tree α) (N : Path → Path) (G : Path → Prop) (F : α → α) (k : ν → List ν → List ν) (new : Option (Path × α)) : Prop where
  nm : ∀ x, π (F x) = π x
  fwd : ∀ p X, ¬ G p → at? p T = some X → ∃ X', at? (N p) T' = some X' ∧ X'.d = F X.d ∧ knm π X' = k (π X.d) (knm π X)
  back : ∀ p' X', at? p' T' = some X' → (∃ p X, ¬ G p ∧ at? p T = some X ∧ N p = p' ∧ X'.d = F X.d ∧ knm π X' = k (π X.d) (knm π X)) ∨ (∃ d, new = some (p', d) ∧ X' = .mk d [])
  root : ¬ G [] ∧ N [] = []
  fresh : ∀ p d, new = some (p, d) → at? p T' = some (.mk d []) ∧ ∀ q X, at? q T = some X → π X.d ≠ π d
omit [DecidableEq ν] in
theorem Eff.uniq {T T' : Tree α} {N : Path → Path} {G : Path → Prop} {F : α → α} {k : ν → List ν → List ν} {new : Option (Path × α)} (h : Eff π T T' N G F k new) (hu : Uniq π T) : Uniq π T' := by
  intro p q X Y hX hY e
  rcases h.back _ _ hX with ⟨p1, X1, _, h1, rfl, hd, _⟩ | ⟨d, hn, rfl⟩ <;> rcases h.back _ _ hY with ⟨q1, Y1, _, h2, rfl, hd', _⟩ | ⟨d', hn', rfl⟩
  · rw [hd, hd', h.nm, h.nm] at e
    rw [hu _ _ _ _ h1 h2 e]
  · rw [hd, h.nm] at e
    exact absurd e ((h.fresh _ _ hn').2 _ _ h1)
  · rw [hd', h.nm] at e
    exact absurd e.symm ((h.fresh _ _ hn).2 _ _ h2)
  · rw [hn] at hn'; cases hn'; rfl
theorem eff_ins {T Z : Tree α} {P : Path} {g : Nat} {d : α} (hu : Uniq π T) (hZ : at? P T = some Z) (hg : g ≤ Z.kids.length) (hf : ∀ q X, at? q T = some X → π X.d ≠ π d) :
    Eff π T (ins P g (.mk d []) T) (nIns g P) (fun _ => False) id (K none (some (π Z.d, g, π d))) (some (P ++ [g], d)) := by
  have hK : ∀ q X, at? q T = some X → (if q = P then insL g (π d) (knm π X) else knm π X) = K none (some (π Z.d, g, π d)) (π X.d) (knm π X) := by
    intro q X hX
    simp only [K, rmv_none]
    by_cases e : q = P
    · subst e; rw [hZ] at hX; cases hX; simp [insL]
    · rw [if_neg e, if_neg (fun e' => e (hu _ _ _ _ hX hZ e'))]
  refine ⟨fun _ => rfl, fun p X _ hX => ?_, fun p' X' hX' => ?_, ⟨id, by cases P <;> rfl⟩, fun p d' e => ?_⟩
  · obtain ⟨X', h1, h2, h3⟩ := ins_fwd π (Y := .mk d []) hZ hg hX
    exact ⟨X', h1, h2, by rw [h3, ← hK _ _ hX]; rfl⟩
  · rcases ins_back π hZ hg hX' with ⟨q, X, h1, h2, h3, h4⟩ | ⟨r, rfl, h1⟩
    · exact .inl ⟨q, X, id, h1, h2, h3, by rw [h4, ← hK _ _ h1]; rfl⟩
    · cases r with
      | nil => cases h1; exact .inr ⟨d, rfl, rfl⟩
      | cons i r => simp [at?] at h1
  · cases e
    refine ⟨?_, hf⟩
    rw [ins, at?_upd_self hZ]
    refine at?_cons.2 ⟨.mk d [], ?_, rfl⟩
    simp only [insK, kids_mk]
    rw [getElem?_ins _ _ _ _ hg]; simp
theorem eff_del {T U : Tree α} {P : Path} {c : Nat} (hu : Uniq π T) (hU : at? (P ++ [c]) T = some U) :
    Eff π T (del P c T) (nDel c P) (fun q => (P ++ [c]) <+: q) id (K (some (π U.d)) none) none := by
  obtain ⟨Z, hZ⟩ : ∃ Z, at? P T = some Z := by
    rw [at?_append] at hU
    cases h : at? P T with
    | none => simp [h] at hU
    | some Z => exact ⟨Z, rfl⟩
  refine ⟨fun _ => rfl, fun p X hn hX => ?_, fun p' X' hX' => ?_, ⟨fun h => ?_, by cases P <;> rfl⟩, fun _ _ e => by cases e⟩
  · obtain ⟨X', h1, h2, h3⟩ := del_fwd π hZ hn hX
    exact ⟨X', h1, h2, by rw [h3, knm_del hu hX hU]; rfl⟩
  · obtain ⟨q, X, h1, h2, h3, h4, h5⟩ := del_back π hZ hX'
    exact .inl ⟨q, X, h2, h1, h3, h4, by rw [h5, knm_del hu h1 hU]; rfl⟩
  · have := h.length_le; simp at this
def landT (P : Path) (c : Nat) (t : Path) : Path := nDel c P t
def landG (P : Path) (c : Nat) (t : Path) (g : Nat) : Nat := if P = t ∧ c < g then g - 1 else g
def nMov (P : Path) (c : Nat) (t : Path) (g : Nat) (q : Path) : Path :=
  if (P ++ [c]) <+: q then landT P c t ++ landG P c t g :: q.drop (P.length + 1) else nIns (landG P c t g) (landT P c t) (nDel c P q)
def mov (P : Path) (c : Nat) (t : Path) (g : Nat) (X T : Tree α) : Tree α := ins (landT P c t) (landG P c t g) X (del P c T)
theorem eff_mov {T U Z : Tree α} {P : Path} {c : Nat} {t : Path} {g : Nat} (hu : Uniq π T) (hU : at? (P ++ [c]) T = some U) (hn : ¬ (P ++ [c]) <+: t) (hZ : at? t T = some Z) (hg : g ≤ Z.kids.length) :
    Eff π T (mov P c t g U T) (nMov P c t g) (fun _ => False) id (K (some (π U.d)) (some (π Z.d, g, π U.d))) none := by
  have hd := eff_del hu hU
  obtain ⟨Z', hZ', hZd, hZk⟩ := hd.fwd t Z hn hZ
  have hud := hd.uniq hu
  simp only [K] at hZk
  have hLlen : (knm π Z).length = Z.kids.length := by simp [knm]
  have hG : landG P c t g = (rmv (some (π U.d)) ((knm π Z).take g)).length := by
    unfold landG
    by_cases e : P = t
    · subst e
      rw [length_rmv_take (c := c) (by rw [knm_get π hZ, hU]; rfl) (fun i hi => (hu.kid hZ hU hi).2) (by omega)]
      simp
    · rw [if_neg (fun h => e h.1), rmv_not]
      · simp; omega
      · intro hm
        obtain ⟨i, hi⟩ := List.mem_iff_getElem?.1 (List.mem_of_mem_take hm)
        exact e (hu.kid hZ hU hi).1.symm
  have hgl : landG P c t g ≤ Z'.kids.length := by
    have : Z'.kids.length = (knm π Z').length := by simp [knm]
    rw [this, hZk, hG]
    conv => rhs; rw [← List.take_append_drop g (knm π Z), rmv_append]
    simp
  have hrest : ∀ q X X', at? q T = some X → X'.d = X.d → knm π X' = rmv (some (π U.d)) (knm π X) →
      (if π X'.d = π Z'.d then insL (landG P c t g) (π U.d) (knm π X') else knm π X') = K (some (π U.d)) (some (π Z.d, g, π U.d)) (π X.d) (knm π X) := by
    intro q X X' hX hd' hk
    simp only [K]
    have hzd : π Z'.d = π Z.d := by rw [hZd]; rfl
    rw [hd', hzd]
    split
    · rename_i e
      have e' := hu _ _ _ _ hX hZ e
      subst e'
      rw [hZ] at hX; cases hX
      rw [hk, hG, insL]
      have e : rmv (some (π U.d)) (knm π Z) = rmv (some (π U.d)) ((knm π Z).take g) ++ rmv (some (π U.d)) ((knm π Z).drop g) := by rw [← rmv_append, List.take_append_drop]
      rw [e, List.take_left, List.drop_left]
    · exact hk
  have hsub : ∀ r X, at? r U = some X → rmv (some (π U.d)) (knm π X) = knm π X ∧ π X.d ≠ π Z.d := by
    intro r X hX
    have hX' : at? (P ++ [c] ++ r) T = some X := by rw [at?_append, hU]; exact hX
    constructor
    · rw [rmv_not]
      intro hm
      obtain ⟨i, hi⟩ := List.mem_iff_getElem?.1 hm
      have := (hu.kid hX' hU hi).1
      have := congrArg List.length this; simp at this
    · intro e
      exact hn ⟨r, hu _ _ _ _ hX' hZ e⟩
  have hout : ∀ r X, at? r U = some X → K (some (π U.d)) (some (π Z.d, g, π U.d)) (π X.d) (knm π X) = knm π X := by
    intro r X hX
    simp only [K]
    rw [if_neg (hsub r X hX).2, (hsub r X hX).1]
  have hatU : at? (landT P c t ++ [landG P c t g]) (mov P c t g U T) = some U := by
    rw [mov, ins, at?_upd_self (show at? (landT P c t) (del P c T) = some Z' from hZ')]
    refine at?_cons.2 ⟨U, ?_, rfl⟩
    simp only [insK, kids_mk]
    rw [getElem?_ins _ _ _ _ hgl]; simp
  have hif : ∀ (q : Path) (X1 : Tree α), at? q (del P c T) = some X1 → ((if q = landT P c t then insL (landG P c t g) (π U.d) (knm π X1) else knm π X1) =
      if π X1.d = π Z'.d then insL (landG P c t g) (π U.d) (knm π X1) else knm π X1) := by
    intro q X1 h1
    by_cases e : q = landT P c t
    · subst e
      have : X1 = Z' := by rw [show at? (landT P c t) (del P c T) = some Z' from hZ'] at h1; cases h1; rfl
      subst this; simp
    · rw [if_neg e, if_neg (fun e' => e (hud _ _ _ _ h1 hZ' e'))]
  refine ⟨fun _ => rfl, fun p X _ hX => ?_, fun p' X' hX' => ?_, ⟨id, ?_⟩, fun _ _ e => by cases e⟩
  · unfold nMov
    by_cases hp : (P ++ [c]) <+: p
    · rw [if_pos hp]
      obtain ⟨r, rfl⟩ := hp
      have hX2 : at? r U = some X := by rw [at?_append, hU] at hX; exact hX
      refine ⟨X, ?_, rfl, (hout r X hX2).symm⟩
      have : (P ++ [c] ++ r).drop (P.length + 1) = r := by
        rw [List.drop_append_of_le_length (by simp)]; simp
      rw [this]
      have e : landT P c t ++ landG P c t g :: r = landT P c t ++ [landG P c t g] ++ r := by simp
      rw [e, at?_append, hatU]; exact hX2
    · rw [if_neg hp]
      obtain ⟨X1, h1, h2, h3⟩ := hd.fwd p X hp hX
      obtain ⟨X', h4, h5, h6⟩ := ins_fwd π (Y := U) hZ' hgl h1
      refine ⟨X', h4, by rw [h5, h2], ?_⟩
      exact h6.trans ((hif _ _ h1).trans (hrest p X X1 hX h2 h3))
  · rcases ins_back π hZ' hgl hX' with ⟨q, X1, h1, h2, h3, h4⟩ | ⟨r, rfl, h1⟩
    · rcases hd.back _ _ h1 with ⟨p, X, hp, h5, h6, h7, h8⟩ | ⟨d, h, _⟩
      · refine .inl ⟨p, X, id, h5, by unfold nMov; rw [if_neg hp, h6, ← h2]; rfl, by rw [h3, h7], ?_⟩
        exact h4.trans ((hif _ _ h1).trans (hrest p X X1 h5 h7 h8))
      · cases h
    · refine .inl ⟨P ++ [c] ++ r, X', id, by rw [at?_append, hU]; exact h1, ?_, rfl, (hout r X' h1).symm⟩
      unfold nMov
      rw [if_pos ⟨r, rfl⟩]
      have : (P ++ [c] ++ r).drop (P.length + 1) = r := by
        rw [List.drop_append_of_le_length (by simp)]; simp
      rw [this]; rfl
  · unfold nMov
    rw [if_neg (fun h => by have := h.length_le; simp at this)]
    have : nDel c P [] = [] := by cases P <;> rfl
    rw [this]; cases landT P c t <;> rfl
theorem eff_dat {T Z : Tree α} {P : Path} {f : α → α} (hu : Uniq π T) (hf : ∀ x, π (f x) = π x) (hZ : at? P T = some Z) :
    Eff π T (dat P f T) id (fun _ => False) (fun x => if π x = π Z.d then f x else x) (K none none) none := by
  have hK : ∀ q X, at? q T = some X → (if q = P then f X.d else X.d) = if π X.d = π Z.d then f X.d else X.d := by
    intro q X hX
    by_cases e : q = P
    · subst e; rw [hZ] at hX; cases hX; simp
    · rw [if_neg e, if_neg (fun e' => e (hu _ _ _ _ hX hZ e'))]
  refine ⟨fun x => by split <;> simp [hf], fun p X _ hX => ?_, fun p' X' hX' => ?_, ⟨id, rfl⟩, fun _ _ e => by cases e⟩
  · obtain ⟨X', h1, h2, h3⟩ := dat_fwd π hf (P := P) hX
    exact ⟨X', h1, by rw [h2, hK _ _ hX], by rw [h3]; simp [K, rmv_none]⟩
  · obtain ⟨X, h1, h2, h3⟩ := dat_back π hf hZ hX'
    exact .inl ⟨p', X, id, h1, rfl, by rw [h2, hK _ _ h1], by rw [h3]; simp [K, rmv_none]⟩
end TP
namespace TP
open Tree
variable {α ν : Type} [DecidableEq ν]
def sh (r : Option ν) (io : Option (ν × Nat × ν)) (v : ν) (L : List ν) (h : Nat) (first : Bool) : Nat :=
  (rmv r (L.take h)).length + match io with
    | some (t, g, _) => if v = t ∧ (g < h ∨ g = h ∧ first = false) then 1 else 0
    | none => 0
theorem K_two {r s : Option ν} {L : List ν} {g h : Nat} {y z : ν} (hgh : g ≤ h) (hh : h ≤ L.length) (hy : some y ≠ s) (hz : some z ≠ r) :
    (let M := rmv r (L.take g) ++ y :: rmv r (L.drop g); rmv s (M.take ((rmv r (L.take h)).length + 1)) ++ z :: rmv s (M.drop ((rmv r (L.take h)).length + 1))) =
    (let M := rmv s (L.take h) ++ z :: rmv s (L.drop h); rmv r (M.take (rmv s (L.take g)).length) ++ y :: rmv r (M.drop (rmv s (L.take g)).length)) := by
  obtain ⟨A, B, C, rfl, rfl, rfl⟩ : ∃ A B C : List ν, L = A ++ B ++ C ∧ A.length = g ∧ (A ++ B).length = h :=
    ⟨L.take g, (L.take h).drop g, L.drop h, by
      have : L.take g = (L.take h).take g := by rw [List.take_take, Nat.min_eq_left hgh]
      rw [this, List.take_append_drop, List.take_append_drop], by simp; omega, by simp; omega⟩
  have e1 : (A ++ B ++ C).take A.length = A := by rw [List.append_assoc, List.take_left]
  have e2 : (A ++ B ++ C).drop A.length = B ++ C := by rw [List.append_assoc, List.drop_left]
  dsimp only
  rw [e1, e2, List.take_left, List.drop_left]
  have f1 : rmv r A ++ y :: rmv r (B ++ C) = (rmv r A ++ y :: rmv r B) ++ rmv r C := by simp [rmv_append]
  have f2 : (rmv r (A ++ B)).length + 1 = (rmv r A ++ y :: rmv r B).length := by simp [rmv_append]; omega
  have f3 : rmv s (A ++ B) ++ z :: rmv s C = rmv s A ++ (rmv s B ++ z :: rmv s C) := by simp [rmv_append]
  rw [f1, f2, List.take_left, List.drop_left, f3, List.take_left, List.drop_left]
  simp only [rmv_append, rmv_cons_ne hy, rmv_cons_ne hz, List.append_assoc, List.cons_append]
  rw [rmv_comm s r A, rmv_comm s r B, rmv_comm s r C]
theorem rmv_take_drop (r s : Option ν) {L : List ν} {h : Nat} (z : ν) :
    rmv s ((rmv r L).take (rmv r (L.take h)).length) ++ z :: rmv s ((rmv r L).drop (rmv r (L.take h)).length) = rmv s (rmv r (L.take h)) ++ z :: rmv s (rmv r (L.drop h)) := by
  have : rmv r L = rmv r (L.take h) ++ rmv r (L.drop h) := by rw [← rmv_append, List.take_append_drop]
  rw [this, List.take_left, List.drop_left]
theorem K_comm {r s : Option ν} {io jo io' jo' : Option (ν × Nat × ν)} {v : ν} {L : List ν} {f : Bool}
    (hi : ∀ t g y, io = some (t, g, y) → some y ≠ s ∧ (v = t → g ≤ L.length) ∧ ∃ g', io' = some (t, g', y) ∧ (v = t → g' = sh s jo v L g (!f)))
    (hj : ∀ t h z, jo = some (t, h, z) → some z ≠ r ∧ (v = t → h ≤ L.length) ∧ ∃ h', jo' = some (t, h', z) ∧ (v = t → h' = sh r io v L h f))
    (hi0 : io = none → io' = none) (hj0 : jo = none → jo' = none) :
    K s jo' v (K r io v L) = K r io' v (K s jo v L) := by
  cases io with
  | none =>
    rw [hi0 rfl]
    cases jo with
    | none => rw [hj0 rfl]; simp only [K]; exact rmv_comm _ _ _
    | some b =>
      obtain ⟨t, h, z⟩ := b
      obtain ⟨hz, hl, h', rfl, hh⟩ := hj _ _ _ rfl
      simp only [K]
      split
      · rename_i e
        rw [hh e]; simp only [sh, Nat.add_zero]
        rw [rmv_take_drop, rmv_append, rmv_cons_ne hz, rmv_comm s r, rmv_comm s r]
      · exact rmv_comm _ _ _
  | some a =>
    obtain ⟨t, g, y⟩ := a
    obtain ⟨hy, hl, g', rfl, hg⟩ := hi _ _ _ rfl
    cases jo with
    | none =>
      rw [hj0 rfl]
      simp only [K]
      split
      · rename_i e
        rw [hg e]; simp only [sh, Nat.add_zero]
        rw [rmv_take_drop, rmv_append, rmv_cons_ne hy, rmv_comm s r, rmv_comm s r]
      · exact rmv_comm _ _ _
    | some b =>
      obtain ⟨t', h, z⟩ := b
      obtain ⟨hz, hl', h', rfl, hh⟩ := hj _ _ _ rfl
      simp only [K]
      by_cases e : v = t <;> by_cases e' : v = t'
      · rw [hg e, hh e']
        subst e; subst e'
        simp only [sh, true_and, if_true]
        by_cases hc : g < h ∨ g = h ∧ f = false
        · have hn : ¬ (h < g ∨ h = g ∧ (!f) = false) := by cases f <;> simp_all <;> omega
          rw [if_pos hc, if_neg hn, Nat.add_zero]
          exact K_two (by omega) (hl' rfl) hy hz
        · have hn : h < g ∨ h = g ∧ (!f) = false := by cases f <;> simp_all <;> omega
          rw [if_neg hc, if_pos hn, Nat.add_zero]
          exact (K_two (by omega) (hl rfl) hz hy).symm
      · simp only [if_pos e, if_neg e']
        rw [hg e]
        have : sh s (some (t', h, z)) v L g (!f) = (rmv s (L.take g)).length := by simp [sh, e']
        rw [this, rmv_take_drop, rmv_append, rmv_cons_ne hy, rmv_comm s r, rmv_comm s r]
      · simp only [if_neg e, if_pos e']
        rw [hh e']
        have : sh r (some (t, g, y)) v L h f = (rmv r (L.take h)).length := by simp [sh, e]
        rw [this, rmv_take_drop, rmv_append, rmv_cons_ne hz, rmv_comm s r, rmv_comm s r]
      · simp only [if_neg e, if_neg e']; exact rmv_comm _ _ _
theorem sh_le {r : Option ν} {io : Option (ν × Nat × ν)} {v : ν} {L : List ν} {h : Nat} {f : Bool} :
    sh r io v L h f ≤ (K r io v L).length := by
  have e : (rmv r L).length = (rmv r (L.take h)).length + (rmv r (L.drop h)).length := by rw [← List.length_append, ← rmv_append, List.take_append_drop]
  cases io with
  | none => simp only [sh, K]; omega
  | some a =>
    obtain ⟨t, g, y⟩ := a
    simp only [sh, K]
    by_cases e' : v = t
    · have e2 : (rmv r L).length = (rmv r (L.take g)).length + (rmv r (L.drop g)).length := by rw [← List.length_append, ← rmv_append, List.take_append_drop]
      rw [if_pos e']
      simp only [List.length_append, List.length_cons]
      split <;> omega
    · rw [if_neg e', if_neg (fun h => e' h.1)]; omega
end TP
namespace TP
open Tree
variable {α ν ε : Type} [DecidableEq ν]
inductive Op (α ε : Type) where
  | ins (P : Path) (g : Nat) (x : α)
  | del (q : Path)
  | mov (q t : Path) (g : Nat)
  | dat (p : Path) (e : ε)
structure Data (α ε : Type) where
  leaf : α → Bool
  ok : ε → α → Prop
  app : ε → α → α
  leaf_app : ∀ e x, leaf (app e x) = leaf x
inductive Ap (D : Data α ε) (T : Tree α) : Op α ε → Tree α → Prop
  | ins {P : Path} {g : Nat} {x : α} {Z : Tree α} : at? P T = some Z → D.leaf Z.d = false → g ≤ Z.kids.length → Ap D T (.ins P g x) (ins P g (.mk x []) T)
  | del {P : Path} {c : Nat} {U : Tree α} : at? (P ++ [c]) T = some U → Ap D T (.del (P ++ [c])) (del P c T)
  | mov {P : Path} {c : Nat} {t : Path} {g : Nat} {U Z : Tree α} : at? (P ++ [c]) T = some U → ¬ (P ++ [c]) <+: t → at? t T = some Z → D.leaf Z.d = false → g ≤ Z.kids.length →
      Ap D T (.mov (P ++ [c]) t g) (mov P c t g U T)
  | dat {p : Path} {e : ε} {Z : Tree α} : at? p T = some Z → D.ok e Z.d → Ap D T (.dat p e) (dat p (D.app e) T)
inductive Aps (D : Data α ε) : Tree α → List (Op α ε) → Tree α → Prop
  | nil {T : Tree α} : Aps D T [] T
  | cons {T T' T'' : Tree α} {o : Op α ε} {l : List (Op α ε)} : Ap D T o T' → Aps D T' l T'' → Aps D T (o :: l) T''
def up (q : Path) : Path := q.dropLast
def last (q : Path) : Nat := q.getLastD 0
@[simp] theorem up_snoc (P : Path) (c : Nat) : up (P ++ [c]) = P := by simp [up]
@[simp] theorem last_snoc (P : Path) (c : Nat) : last (P ++ [c]) = c := by simp [last]
theorem snoc_of_ne {q : Path} (h : q ≠ []) : q = up q ++ [last q] := by
  obtain ⟨P, c, rfl⟩ : ∃ P c, q = P ++ [c] := ⟨q.dropLast, q.getLast h, (List.dropLast_concat_getLast h).symm⟩
  simp
def node : Op α ε → Path → Path
  | .ins P g _, p => nIns g P p
  | .del q, p => nDel (last q) (up q) p
  | .mov q t g, p => nMov (up q) (last q) t g p
  | .dat _ _, p => p
def gone : Op α ε → Path → Prop
  | .del q, p => q <+: p
  | _, _ => False
def gap (o : Op α ε) (p : Path) (h : Nat) (first : Bool) : Nat :=
  match o with
  | .ins P g _ => if P = p ∧ (g < h ∨ g = h ∧ first = false) then h + 1 else h
  | .del q => if up q = p ∧ last q < h then h - 1 else h
  | .mov q t g => (if up q = p ∧ last q < h then h - 1 else h) + (if t = p ∧ (g < h ∨ g = h ∧ first = false) then 1 else 0)
  | .dat _ _ => h
def nameAt (π : α → ν) (T : Tree α) (p : Path) : Option ν := (at? p T).map fun X => π X.d
def rOf (π : α → ν) (T : Tree α) : Op α ε → Option ν
  | .del q | .mov q _ _ => nameAt π T q
  | _ => none
def ioOf (π : α → ν) (T : Tree α) : Op α ε → Option (ν × Nat × ν)
  | .ins P g x => (nameAt π T P).map fun v => (v, g, π x)
  | .mov q t g => (nameAt π T t).bind fun v => (nameAt π T q).map fun u => (v, g, u)
  | _ => none
def fOf (π : α → ν) (D : Data α ε) (T : Tree α) : Op α ε → α → α
  | .dat p e, x => if some (π x) = nameAt π T p then D.app e x else x
  | _, x => x
def newOf : Op α ε → Option (Path × α)
  | .ins P g x => some (P ++ [g], x)
  | _ => none
def Fresh (π : α → ν) (T : Tree α) (o : Op α ε) : Prop := ∀ p d, newOf o = some (p, d) → ∀ q X, at? q T = some X → π X.d ≠ π d
variable {π : α → ν} {D : Data α ε}
omit [DecidableEq ν] in
theorem nameAt_some {T X : Tree α} {p : Path} (h : at? p T = some X) : nameAt π T p = some (π X.d) := by simp [nameAt, h]
theorem Ap.eff (hD : ∀ e x, π (D.app e x) = π x) {T T' : Tree α} {o : Op α ε} (h : Ap D T o T') (hu : Uniq π T) (hf : Fresh π T o) :
    Eff π T T' (node o) (gone o) (fOf π D T o) (K (rOf π T o) (ioOf π T o)) (newOf o) := by
  cases h with
  | @ins P g x Z hZ hl hg =>
    have := eff_ins hu hZ hg (d := x) (hf _ _ rfl)
    simp only [rOf, ioOf, nameAt_some hZ, Option.map_some]
    exact this
  | @del P c U hU =>
    have := eff_del hu hU
    simp only [rOf, ioOf, nameAt_some hU]
    have e1 : node (.del (P ++ [c]) : Op α ε) = nDel c P := by funext p; simp [node]
    rw [e1]; exact this
  | @mov P c t g U Z hU hn hZ hl hg =>
    have := eff_mov hu hU hn hZ hg
    simp only [rOf, ioOf, nameAt_some hU, nameAt_some hZ, Option.map_some, Option.bind_some]
    have e1 : node (.mov (P ++ [c]) t g : Op α ε) = nMov P c t g := by funext p; simp [node]
    rw [e1]; exact this
  | @dat p e Z hZ he =>
    have := eff_dat (f := D.app e) hu (hD e) hZ
    simp only [rOf, ioOf]
    have e1 : fOf π D T (.dat p e : Op α ε) = fun x => if π x = π Z.d then D.app e x else x := by
      funext x; simp [fOf, nameAt_some hZ]
    rw [e1]; exact this
theorem gap_eq {T T' X : Tree α} {o : Op α ε} (h : Ap D T o T') (hu : Uniq π T) {p : Path} (hX : at? p T = some X) {k : Nat} (hk : k ≤ X.kids.length) (f : Bool) :
    gap o p k f = sh (rOf π T o) (ioOf π T o) (π X.d) (knm π X) k f := by
  have hl : (knm π X).length = X.kids.length := by simp [knm]
  have hr : ∀ {P : Path} {c : Nat} {U : Tree α}, at? (P ++ [c]) T = some U → (rmv (some (π U.d)) ((knm π X).take k)).length = if P = p ∧ c < k then k - 1 else k := by
    intro P c U hU
    by_cases e : P = p
    · subst e
      rw [length_rmv_take (c := c) (by rw [knm_get π hX, hU]; rfl) (fun i hi => (hu.kid hX hU hi).2) (by omega)]
      simp
    · rw [if_neg (fun h => e h.1), rmv_not]
      · simp; omega
      · intro hm
        obtain ⟨i, hi⟩ := List.mem_iff_getElem?.1 (List.mem_of_mem_take hm)
        exact e (hu.kid hX hU hi).1.symm
  have ht : ∀ {t : Path} {Z : Tree α}, at? t T = some Z → (π X.d = π Z.d ↔ t = p) := fun hZ => ⟨fun e => (hu _ _ _ _ hX hZ e).symm, fun e => by subst e; rw [hX] at hZ; cases hZ; rfl⟩
  have h0 : (rmv none ((knm π X).take k)).length = k := by rw [rmv_none]; simp; omega
  cases h with
  | @ins P g x Z hZ _ hg =>
    simp only [gap, rOf, ioOf, nameAt_some hZ, Option.map_some, sh, h0, ht hZ]
    split <;> omega
  | @del P c U hU => simp only [gap, rOf, ioOf, nameAt_some hU, sh, hr hU, up_snoc, last_snoc, Nat.add_zero]
  | @mov P c t g U Z hU hn hZ _ hg => simp only [gap, rOf, ioOf, nameAt_some hU, nameAt_some hZ, Option.map_some, Option.bind_some, sh, hr hU, up_snoc, last_snoc, ht hZ]
  | @dat p e Z hZ he => simp only [gap, rOf, ioOf, sh, h0, Nat.add_zero]
theorem nIns_snoc (g : Nat) (P q : Path) (k : Nat) : ∃ m, nIns g P (q ++ [k]) = nIns g P q ++ [m] := by
  induction P generalizing q with
  | nil => cases q with
    | nil => exact ⟨_, rfl⟩
    | cons j q => exact ⟨k, by simp [nIns]⟩
  | cons i P ih => cases q with
    | nil => simp only [nIns, List.nil_append]; split <;> exact ⟨k, by cases P <;> rfl⟩
    | cons j q =>
      simp only [nIns, List.cons_append]
      split
      · obtain ⟨m, hm⟩ := ih q; exact ⟨m, by rw [hm]; rfl⟩
      · exact ⟨k, rfl⟩
theorem nDel_snoc (c : Nat) (P q : Path) (k : Nat) : ∃ m, nDel c P (q ++ [k]) = nDel c P q ++ [m] := by
  induction P generalizing q with
  | nil => cases q with
    | nil => exact ⟨_, rfl⟩
    | cons j q => exact ⟨k, by simp [nDel]⟩
  | cons i P ih => cases q with
    | nil => simp only [nDel, List.nil_append]; split <;> exact ⟨k, by cases P <;> rfl⟩
    | cons j q =>
      simp only [nDel, List.cons_append]
      split
      · obtain ⟨m, hm⟩ := ih q; exact ⟨m, by rw [hm]; rfl⟩
      · exact ⟨k, rfl⟩
def Brought (o : Op α ε) (p q : Path) : Prop := match o with
  | .mov m t _ => m <+: q ∧ p <+: t
  | _ => False
theorem at?_up {T X : Tree α} {q : Path} {k : Nat} (h : at? (q ++ [k]) T = some X) : ∃ Z, at? q T = some Z := by
  rw [at?_append] at h
  cases h' : at? q T with
  | none => simp [h'] at h
  | some Z => exact ⟨Z, rfl⟩
theorem prefix_snoc {p q : Path} {m : Nat} (h : p <+: q ++ [m]) : p = q ++ [m] ∨ p <+: q := by
  rcases List.prefix_concat_iff.1 (by simpa using h) with h | h
  · exact .inl (by simpa using h)
  · exact .inr h
omit [DecidableEq ν] in
theorem within_back {T T' : Tree α} {N : Path → Path} {G : Path → Prop} {F : α → α} {k : ν → List ν → List ν} {new : Option (Path × α)} (h : Eff π T T' N G F k new) (hu : Uniq π T) {p : Path} {X : Tree α} (hp : at? p T = some X) (hGp : ¬ G p)
    (S : Path → Prop) (hS : ∀ q i, S (q ++ [i]) → S q) (hG : ∀ q, S q → ¬ G q) (hN : ∀ q i, S (q ++ [i]) → ∃ m, N (q ++ [i]) = N q ++ [m]) :
    ∀ (n : Nat) (q : Path) (Y : Tree α), q.length = n → at? q T = some Y → S q → N p <+: N q → p <+: q := by
  have inj : ∀ q Y, at? q T = some Y → ¬ G q → N p = N q → p = q := by
    intro q Y hY hGq e
    obtain ⟨X', h1, h2, _⟩ := h.fwd p X hGp hp
    obtain ⟨Y', h3, h4, _⟩ := h.fwd q Y hGq hY
    rw [e] at h1; rw [h1] at h3; cases h3
    refine hu _ _ _ _ hp hY ?_
    rw [← h.nm X.d, ← h.nm Y.d, ← h2, ← h4]
  intro n
  induction n with
  | zero =>
    intro q Y hq hY hSq hpre
    have : q = [] := List.length_eq_zero_iff.1 hq
    subst this
    rw [h.root.2] at hpre
    have := List.prefix_nil.1 hpre
    rw [inj [] Y hY h.root.1 (by rw [this, h.root.2])]; exact List.prefix_refl _
  | succ n ih =>
    intro q Y hq hY hSq hpre
    have hne : q ≠ [] := fun e => by rw [e] at hq; simp at hq
    obtain ⟨q0, i, rfl⟩ : ∃ q0 i, q = q0 ++ [i] := ⟨_, _, snoc_of_ne hne⟩
    obtain ⟨m, hm⟩ := hN _ _ hSq
    rw [hm] at hpre
    rcases prefix_snoc hpre with e | hpre
    · rw [inj _ Y hY (hG _ hSq) (by rw [hm, e])]; exact List.prefix_refl _
    · obtain ⟨Z, hZ⟩ := at?_up hY
      exact (ih q0 Z (by simpa using hq) hZ (hS _ _ hSq) hpre).trans (List.prefix_append _ _)
theorem node_within (hD : ∀ e x, π (D.app e x) = π x) {T T' X Y : Tree α} {o : Op α ε} (h : Ap D T o T') (hu : Uniq π T) (hf : Fresh π T o) {p q : Path} (hp : at? p T = some X) (hq : at? q T = some Y)
    (hgp : ¬ gone o p) (hgq : ¬ gone o q) (hpre : node o p <+: node o q) : p <+: q ∨ Brought o p q := by
  have he := h.eff hD hu hf
  cases h with
  | @ins P g x Z hZ _ hg => exact .inl (within_back he hu hp hgp (fun _ => True) (fun _ _ _ => trivial) (fun _ _ => id) (fun q i _ => nIns_snoc g P q i) _ q Y rfl hq trivial hpre)
  | @del P c U hU =>
    refine .inl (within_back he hu hp hgp (fun q => ¬ (P ++ [c]) <+: q) (fun q i hh hh' => hh (hh'.trans (List.prefix_append _ _))) (fun _ => id) (fun q i _ => ?_) _ q Y rfl hq hgq hpre)
    simp only [node, up_snoc, last_snoc]; exact nDel_snoc c P q i
  | @dat p' e Z hZ _ => exact .inl hpre
  | @mov P c t g U Z hU hn hZ _ hg =>
    have main : ∀ q Y, at? q T = some Y → ¬ (P ++ [c]) <+: q → nMov P c t g p <+: nMov P c t g q → p <+: q := by
      intro q Y hq hnq hpre
      refine within_back (N := node (.mov (P ++ [c]) t g : Op α ε)) he hu hp id (fun q => ¬ (P ++ [c]) <+: q) (fun q i hh hh' => hh (hh'.trans (List.prefix_append _ _))) (fun _ _ => id) (fun q i hS => ?_) _ q Y rfl hq hnq
        (by simpa [node] using hpre)
      have hS' : ¬ (P ++ [c]) <+: q := fun hh => hS (hh.trans (List.prefix_append _ _))
      simp only [node, up_snoc, last_snoc, nMov, if_neg hS, if_neg hS']
      obtain ⟨m, hm⟩ := nDel_snoc c P q i
      rw [hm]; exact nIns_snoc _ _ _ _
    simp only [node, up_snoc, last_snoc] at hpre
    by_cases hq' : (P ++ [c]) <+: q
    · obtain ⟨r, rfl⟩ := hq'
      have hdrop : ∀ r : Path, (P ++ [c] ++ r).drop (P.length + 1) = r := fun r => by
        rw [List.drop_append_of_le_length (by simp)]; simp
      have hNq : ∀ r, nMov P c t g (P ++ [c] ++ r) = landT P c t ++ landG P c t g :: r := fun r => by
        unfold nMov; rw [if_pos ⟨r, rfl⟩, hdrop]
      have ht : nMov P c t g t = landT P c t := by
        unfold nMov; rw [if_neg hn]; exact nIns_self
      have inj : ∀ q Y, at? q T = some Y → nMov P c t g p = nMov P c t g q → p = q := by
        intro q Y hY e
        obtain ⟨X', h1, h2, _⟩ := he.fwd p X id hp
        obtain ⟨Y', h3, h4, _⟩ := he.fwd q Y id hY
        simp only [node, up_snoc, last_snoc] at h1 h3
        rw [e] at h1; rw [h1] at h3; cases h3
        refine hu _ _ _ _ hp hY ?_
        rw [← he.nm X.d, ← he.nm Y.d, ← h2, ← h4]
      clear hgq
      have key : ∀ (n : Nat) (r : Path) (Y : Tree α), r.length = n → at? (P ++ [c] ++ r) T = some Y → nMov P c t g p <+: nMov P c t g (P ++ [c] ++ r) → p <+: P ++ [c] ++ r ∨ p <+: t := by
        intro n
        induction n with
        | zero =>
          intro r Y hr hY hpre
          have : r = [] := List.length_eq_zero_iff.1 hr
          subst this
          rw [hNq] at hpre
          rcases prefix_snoc hpre with e | hpre
          · rw [inj _ Y hY (by rw [hNq, e])]; exact .inl (List.prefix_refl _)
          · exact .inr (main t Z hZ hn (by rw [ht]; exact hpre))
        | succ n ih =>
          intro r Y hr hY hpre
          have hne : r ≠ [] := fun e => by rw [e] at hr; simp at hr
          obtain ⟨r0, i, rfl⟩ : ∃ r0 i, r = r0 ++ [i] := ⟨_, _, snoc_of_ne hne⟩
          have e1 : nMov P c t g (P ++ [c] ++ (r0 ++ [i])) = nMov P c t g (P ++ [c] ++ r0) ++ [i] := by rw [hNq, hNq]; simp
          rw [e1] at hpre
          rcases prefix_snoc hpre with e | hpre
          · rw [inj _ Y hY (by rw [e1, e])]; exact .inl (List.prefix_refl _)
          · rw [← List.append_assoc] at hY
            obtain ⟨W, hW⟩ := at?_up hY
            rcases ih r0 W (by simpa using hr) hW hpre with h | h
            · exact .inl (h.trans ⟨[i], by simp⟩)
            · exact .inr h
      rcases key _ r Y rfl hq hpre with h | h
      · exact .inl h
      · exact .inr ⟨⟨r, rfl⟩, h⟩
    · exact .inl (main q Y hq hq' hpre)
end TP
namespace TP
open Tree
variable {α ν ε : Type} [DecidableEq ν] {π : α → ν} {D : Data α ε}
def rc (π : α → ν) (X : Tree α) : α × List ν := (X.d, knm π X)
def Tr (π : α → ν) (T T' : Tree α) (G : Path → Prop) (φ : α × List ν → α × List ν) (new : List (α × List ν)) : Prop :=
  (∀ p' X', at? p' T' = some X' → (∃ p X, ¬ G p ∧ at? p T = some X ∧ rc π X' = φ (rc π X)) ∨ rc π X' ∈ new) ∧ π T'.d = π T.d ∧ ∀ x, π (φ x).1 = π x.1
def φOf (F : α → α) (π : α → ν) (k : ν → List ν → List ν) (x : α × List ν) : α × List ν := (F x.1, k (π x.1) x.2)
omit [DecidableEq ν] in
theorem Eff.tr {T T' : Tree α} {N : Path → Path} {G : Path → Prop} {F : α → α} {k : ν → List ν → List ν} {new : Option (Path × α)} (h : Eff π T T' N G F k new) :
    Tr π T T' G (φOf F π k) (new.toList.map fun x => (x.2, [])) := by
  refine ⟨fun p' X' hX' => ?_, ?_, fun x => h.nm _⟩
  · rcases h.back _ _ hX' with ⟨p, X, h1, h2, _, h4, h5⟩ | ⟨d, hn, rfl⟩
    · exact .inl ⟨p, X, h1, h2, by simp [rc, φOf, h4, h5]⟩
    · exact .inr (by simp [hn, rc, knm])
  · obtain ⟨X', h1, h2, _⟩ := h.fwd [] T h.root.1 rfl
    rw [h.root.2] at h1; cases h1
    rw [h2, h.nm]
omit [DecidableEq ν] in
theorem Tr.refl (T : Tree α) : Tr π T T (fun _ => False) id [] := ⟨fun p X h => .inl ⟨p, X, id, h, rfl⟩, rfl, fun _ => rfl⟩
omit [DecidableEq ν] in
theorem Tr.trans {T T1 T2 : Tree α} {G G' : Path → Prop} {φ ψ : α × List ν → α × List ν} {n m : List (α × List ν)} (h : Tr π T T1 G φ n) (h' : Tr π T1 T2 G' ψ m) :
    Tr π T T2 G (ψ ∘ φ) (n.map ψ ++ m) := by
  refine ⟨fun p' X' hX' => ?_, h'.2.1.trans h.2.1, fun x => (h'.2.2 _).trans (h.2.2 _)⟩
  rcases h'.1 _ _ hX' with ⟨p1, X1, _, h1, e1⟩ | h1
  · rcases h.1 _ _ h1 with ⟨p, X, hg, h2, e2⟩ | h2
    · exact .inl ⟨p, X, hg, h2, by rw [e1, e2]; rfl⟩
    · exact .inr (List.mem_append.2 (.inl (by rw [e1]; exact List.mem_map_of_mem h2)))
  · exact .inr (List.mem_append.2 (.inr h1))
omit [DecidableEq ν] in
theorem same_of_tr {T R S : Tree α} {G H : Path → Prop} {φ ψ : α × List ν → α × List ν} {n m : List (α × List ν)} (hu : Uniq π T) (h : Tr π T R G φ n) (h' : Tr π T S H ψ m)
    (hT : ∀ p X, at? p T = some X → ¬ G p → ¬ H p → φ (rc π X) = ψ (rc π X))
    (hn : ∀ r ∈ n, ∀ s ∈ m, π r.1 = π s.1 → r = s) (hfn : ∀ r ∈ n, ∀ p X, at? p T = some X → π X.d ≠ π r.1) (hfm : ∀ r ∈ m, ∀ p X, at? p T = some X → π X.d ≠ π r.1) : R = S := by
  refine tree_ext π R S (h.2.1.trans h'.2.1.symm) fun p q X Y hX hY e => ?_
  have key : rc π X = rc π Y := by
    rcases h.1 _ _ hX with ⟨p1, X1, g1, h1, e1⟩ | h1 <;> rcases h'.1 _ _ hY with ⟨p2, X2, g2, h2, e2⟩ | h2
    · have n1 : π X.d = π X1.d := (congrArg (fun x => π x.1) e1).trans (h.2.2 _)
      have n2 : π Y.d = π X2.d := (congrArg (fun x => π x.1) e2).trans (h'.2.2 _)
      have := hu _ _ _ _ h1 h2 (by rw [← n1, ← n2, e])
      subst this; rw [h1] at h2; cases h2
      rw [e1, e2, hT _ _ h1 g1 g2]
    · have n1 : π X.d = π X1.d := (congrArg (fun x => π x.1) e1).trans (h.2.2 _)
      exact absurd (n1.symm.trans e) (hfm _ h2 _ _ h1)
    · have n2 : π Y.d = π X2.d := (congrArg (fun x => π x.1) e2).trans (h'.2.2 _)
      exact absurd (n2.symm.trans e.symm) (hfn _ h1 _ _ h2)
    · exact hn _ h1 _ h2 e
  exact Prod.mk.inj key
def path : Op α ε → Path
  | .ins P _ _ => P
  | .del q => q
  | .mov q _ _ => q
  | .dat p _ => p
def shifted (b a : Op α ε) (f : Bool) : Op α ε := match b with
  | .ins P g x => .ins (node a P) (gap a P g f) x
  | .del q => .del (node a q)
  | .mov q t g => .mov (node a q) (node a t) (gap a t g f)
  | .dat p e => .dat (node a p) e
def Reads (o : Op α ε) (p : Path) : Prop := p = path o ∨ ∃ q g, o = .mov q p g
structure Half (a b : Op α ε) : Prop where
  ab : ∀ p, Reads b p → ¬ gone a p
  cy : ∀ qa ta ga qb tb gb, a = .mov qa ta ga → b = .mov qb tb gb → qa <+: tb → qb <+: ta → False
  dd : ∀ p e e', a = .dat p e → b = .dat p e' → False
structure Free (a b : Op α ε) : Prop extends Half a b where
  ba : ∀ p, Reads a p → ¬ gone b p
  mm : ∀ q t g t' g', a = .mov q t g → b = .mov q t' g' → False
theorem Free.symm {a b : Op α ε} (h : Free a b) : Free b a :=
  { ab := h.ba, ba := h.ab, mm := fun q t g t' g' e e' => h.mm q t' g' t g e' e, cy := fun _ _ _ _ _ _ e e' x y => h.cy _ _ _ _ _ _ e' e y x, dd := fun p e e' h1 h2 => h.dd p e' e h2 h1 }
theorem Ap.reads {T T' : Tree α} {o : Op α ε} (h : Ap D T o T') {p : Path} (hp : Reads o p) : ∃ X, at? p T = some X := by
  cases h <;> rcases hp with rfl | ⟨q, g, e⟩ <;> first | (cases e; done) | exact ⟨_, by assumption⟩ | (cases e; exact ⟨_, by assumption⟩)
omit [DecidableEq ν] in
theorem Eff.name {T T' : Tree α} {N : Path → Path} {G : Path → Prop} {F : α → α} {k : ν → List ν → List ν} {new : Option (Path × α)} (h : Eff π T T' N G F k new) {p : Path} {X : Tree α} (hp : at? p T = some X) (hg : ¬ G p) :
    nameAt π T' (N p) = nameAt π T p := by
  obtain ⟨X', h1, h2, _⟩ := h.fwd p X hg hp
  rw [nameAt_some h1, nameAt_some hp, h2, h.nm]
omit [DecidableEq ν] in
theorem Eff.ne_nil {T T' : Tree α} {N : Path → Path} {G : Path → Prop} {F : α → α} {k : ν → List ν → List ν} {new : Option (Path × α)} (h : Eff π T T' N G F k new) (hu : Uniq π T) {p : Path} {X : Tree α} (hp : at? p T = some X) (hg : ¬ G p) (hne : p ≠ []) : N p ≠ [] := by
  intro e
  have h1 := h.name hp hg
  have h2 := h.name (p := []) (X := T) rfl h.root.1
  rw [h.root.2] at h2
  rw [e, h2, nameAt_some hp, nameAt_some (p := []) (X := T) rfl, Option.some.injEq] at h1
  exact hne (hu _ _ _ _ hp rfl h1.symm)
variable (hD : ∀ e x, π (D.app e x) = π x)
include hD
omit hD in
theorem leaf_fOf (T : Tree α) (o : Op α ε) (x : α) : D.leaf (fOf π D T o x) = D.leaf x := by
  cases o <;> simp only [fOf]
  split
  · exact D.leaf_app _ _
  · rfl
theorem ap_shifted {T T1 T2 : Tree α} {a b : Op α ε} (ha : Ap D T a T1) (hb : Ap D T b T2) (hu : Uniq π T) (hfa : Fresh π T a) (hF : Half a b) (f : Bool) : ∃ R, Ap D T1 (shifted b a f) R := by
  have he := ha.eff hD hu hfa
  have target : ∀ {P : Path} {Z : Tree α} {g : Nat}, at? P T = some Z → ¬ gone a P → D.leaf Z.d = false → g ≤ Z.kids.length →
      ∃ Z', at? (node a P) T1 = some Z' ∧ D.leaf Z'.d = false ∧ gap a P g f ≤ Z'.kids.length := by
    intro P Z g hZ hg hl hgl
    obtain ⟨Z', h1, h2, h3⟩ := he.fwd P Z hg hZ
    refine ⟨Z', h1, by rw [h2, leaf_fOf, hl], ?_⟩
    have : Z'.kids.length = (knm π Z').length := by simp [knm]
    rw [this, h3, gap_eq ha hu hZ hgl f]
    exact sh_le
  cases b with
  | ins P g x =>
    cases hb with
    | ins hZ hl hg =>
      obtain ⟨Z', h1, h2, h3⟩ := target hZ (hF.ab _ (.inl rfl)) hl hg
      exact ⟨_, .ins h1 h2 h3⟩
  | del q =>
    generalize hq : (Op.del q : Op α ε) = o at hb
    cases hb with
    | @del P c U hU =>
      cases hq
      obtain ⟨U', h1, _⟩ := he.fwd _ _ (hF.ab _ (.inl rfl)) hU
      have hne := he.ne_nil hu hU (hF.ab _ (.inl rfl)) (by simp)
      replace h1 : at? (node a (P ++ [c])) T1 = some U' := h1
      rw [snoc_of_ne hne] at h1
      exact ⟨del (up (node a (P ++ [c]))) (last (node a (P ++ [c]))) T1, by
        have := Ap.del (D := D) h1
        rw [← snoc_of_ne hne] at this; exact this⟩
    | _ => cases hq
  | mov q t g =>
    generalize hq : (Op.mov q t g : Op α ε) = o at hb
    cases hb with
    | @mov P c t g U Z hU hn hZ hl hg =>
      cases hq
      obtain ⟨U', h1, _⟩ := he.fwd _ _ (hF.ab _ (.inl rfl)) hU
      have hne := he.ne_nil hu hU (hF.ab _ (.inl rfl)) (by simp)
      obtain ⟨Z', h4, h5, h6⟩ := target hZ (hF.ab _ (.inr ⟨_, _, rfl⟩)) hl hg
      have hnw : ¬ node a (P ++ [c]) <+: node a t := by
        intro hpre
        rcases node_within hD ha hu hfa hU hZ (hF.ab _ (.inl rfl)) (hF.ab _ (.inr ⟨_, _, rfl⟩)) hpre with h | h
        · exact hn h
        · cases a with
          | mov m t' g' => exact hF.cy _ _ _ _ _ _ rfl rfl h.1 h.2
          | _ => exact h
      replace h1 : at? (node a (P ++ [c])) T1 = some U' := h1
      rw [snoc_of_ne hne] at h1 hnw
      exact ⟨mov (up (node a (P ++ [c]))) (last (node a (P ++ [c]))) (node a t) (gap a t g f) U' T1, by
        have := Ap.mov (D := D) h1 hnw h4 h5 h6
        rw [← snoc_of_ne hne] at this; exact this⟩
    | _ => cases hq
  | dat p e =>
    cases hb with
    | @dat _ _ Z hZ hok =>
      obtain ⟨Z', h1, h2, _⟩ := he.fwd _ _ (hF.ab _ (.inl rfl)) hZ
      refine ⟨_, .dat h1 ?_⟩
      rw [h2]
      have : fOf π D T a Z.d = Z.d := by
        cases a with
        | dat p' e' =>
          simp only [fOf]
          split
          · rename_i hh
            cases ha with
            | @dat _ _ Z' hZ' _ =>
              rw [nameAt_some hZ', Option.some.injEq] at hh
              have := hu _ _ _ _ hZ hZ' hh
              subst this
              exact (hF.dd _ _ _ rfl rfl).elim
          · rfl
        | _ => rfl
      rw [this]; exact hok
theorem names_shifted {T T1 T2 : Tree α} {a b : Op α ε} (ha : Ap D T a T1) (hb : Ap D T b T2) (hu : Uniq π T) (hfa : Fresh π T a) (hF : Half a b) (f : Bool) :
    rOf π T1 (shifted b a f) = rOf π T b ∧ fOf π D T1 (shifted b a f) = fOf π D T b ∧ (newOf (shifted b a f)).map (·.2) = (newOf b).map (·.2) ∧
    (ioOf π T b = none → ioOf π T1 (shifted b a f) = none) ∧
    ∀ t h z, ioOf π T b = some (t, h, z) → ∃ h', ioOf π T1 (shifted b a f) = some (t, h', z) ∧ ∀ p X, at? p T = some X → π X.d = t → h ≤ X.kids.length ∧ h' = sh (rOf π T a) (ioOf π T a) t (knm π X) h f := by
  have he := ha.eff hD hu hfa
  have nm : ∀ p, Reads b p → nameAt π T1 (node a p) = nameAt π T p := fun p hp => by
    obtain ⟨X, hX⟩ := hb.reads hp
    exact he.name hX (hF.ab _ hp)
  cases hb with
  | @ins P g x Z hZ hl hg =>
    refine ⟨rfl, rfl, rfl, fun h => ?_, fun t h z e => ?_⟩
    · simp [ioOf, nameAt_some hZ] at h
    · simp only [ioOf, nameAt_some hZ, Option.map_some, Option.some.injEq, Prod.mk.injEq] at e
      obtain ⟨rfl, rfl, rfl⟩ := e
      refine ⟨gap a P g f, by simp [shifted, ioOf, nm P (.inl rfl), nameAt_some hZ], fun p X hX e => ?_⟩
      have := hu _ _ _ _ hX hZ e
      subst this; rw [hX] at hZ; cases hZ
      exact ⟨hg, gap_eq ha hu hX hg f⟩
  | @del P c U hU =>
    refine ⟨?_, rfl, rfl, fun _ => rfl, fun t h z e => by simp [ioOf] at e⟩
    simp only [shifted, rOf]; exact nm _ (.inl rfl)
  | @mov P c t g U Z hU hn hZ hl hg =>
    refine ⟨?_, rfl, rfl, fun h => ?_, fun t' h z e => ?_⟩
    · simp only [shifted, rOf]; exact nm _ (.inl rfl)
    · simp [ioOf, nameAt_some hZ, nameAt_some hU] at h
    · simp only [ioOf, nameAt_some hZ, nameAt_some hU, Option.map_some, Option.bind_some, Option.some.injEq, Prod.mk.injEq] at e
      obtain ⟨rfl, rfl, rfl⟩ := e
      refine ⟨gap a t g f, by simp [shifted, ioOf, nm t (.inr ⟨_, _, rfl⟩), nm (P ++ [c]) (.inl rfl), nameAt_some hZ, nameAt_some hU], fun p X hX e => ?_⟩
      have := hu _ _ _ _ hX hZ e
      subst this; rw [hX] at hZ; cases hZ
      exact ⟨hg, gap_eq ha hu hX hg f⟩
  | @dat p e Z hZ hok =>
    refine ⟨rfl, ?_, rfl, fun _ => rfl, fun t h z e => by simp [ioOf] at e⟩
    funext x
    simp only [shifted, fOf]
    rw [nm p (.inl rfl)]
end TP
namespace TP
open Tree
variable {α ν ε : Type} [DecidableEq ν] {π : α → ν} {D : Data α ε}
structure News (π : α → ν) (T : Tree α) (a b : Op α ε) : Prop where
  fa : Fresh π T a
  fb : Fresh π T b
  ne : ∀ p d p' d', newOf a = some (p, d) → newOf b = some (p', d') → π d ≠ π d'
omit [DecidableEq ν] in
theorem News.symm {T : Tree α} {a b : Op α ε} (h : News π T a b) : News π T b a := ⟨h.fb, h.fa, fun _ _ _ _ e e' x => h.ne _ _ _ _ e' e x.symm⟩
variable (hD : ∀ e x, π (D.app e x) = π x)
include hD
omit hD [DecidableEq ν] in
theorem nameAt_mem {T : Tree α} {p : Path} {v : ν} (h : nameAt π T p = some v) : ∃ X, at? p T = some X ∧ π X.d = v := by
  unfold nameAt at h
  cases hx : at? p T with
  | none => simp [hx] at h
  | some X => exact ⟨X, rfl, by simpa [hx] using h⟩
omit hD in
theorem fOf_id {T : Tree α} {o : Op α ε} {x : α} (h : ∀ q X, at? q T = some X → π X.d ≠ π x) : fOf π D T o x = x := by
  cases o <;> simp only [fOf]
  split
  · rename_i e
    obtain ⟨X, hX, hx⟩ := nameAt_mem e.symm
    exact absurd hx (h _ _ hX)
  · rfl
theorem fOf_name (T : Tree α) (o : Op α ε) (x : α) : π (fOf π D T o x) = π x := by
  cases o <;> simp only [fOf]
  split
  · exact hD _ _
  · rfl
omit hD in
omit [DecidableEq ν] in
theorem ioOf_mem {T : Tree α} {o : Op α ε} {t : ν} {g : Nat} {y : ν} (h : ioOf π T o = some (t, g, y)) : ∃ p X, at? p T = some X ∧ π X.d = t := by
  cases o with
  | ins P g' x =>
    simp only [ioOf, Option.map_eq_some_iff] at h
    obtain ⟨v, h1, h2⟩ := h
    obtain ⟨X, hX, hx⟩ := nameAt_mem h1
    simp only [Prod.mk.injEq] at h2
    exact ⟨_, X, hX, hx.trans h2.1⟩
  | mov q t' g' =>
    simp only [ioOf, Option.bind_eq_some_iff, Option.map_eq_some_iff] at h
    obtain ⟨v, h1, u, _, h2⟩ := h
    obtain ⟨X, hX, hx⟩ := nameAt_mem h1
    simp only [Prod.mk.injEq] at h2
    exact ⟨_, X, hX, hx.trans h2.1⟩
  | _ => simp [ioOf] at h
omit hD in
theorem K_new {T : Tree α} {o : Op α ε} {r : Option ν} {io : Option (ν × Nat × ν)} {v : ν} (hio : ∀ t g y, io = some (t, g, y) → ∃ h, ioOf π T o = some (t, h, y)) (h : ∀ q X, at? q T = some X → π X.d ≠ v) : K r io v [] = [] := by
  cases io with
  | none => rfl
  | some b =>
    obtain ⟨t, g, y⟩ := b
    obtain ⟨h', e⟩ := hio _ _ _ rfl
    obtain ⟨p, X, hX, hx⟩ := ioOf_mem e
    simp only [K]
    rw [if_neg (fun e' => h _ _ hX (hx.trans e'.symm))]; rfl
omit hD in
theorem fOf_comm {T : Tree α} {a b : Op α ε} {T1 T2 : Tree α} (ha : Ap D T a T1) (hb : Ap D T b T2) (hu : Uniq π T) (hF : Free a b) (hD : ∀ e x, π (D.app e x) = π x) (x : α) : fOf π D T b (fOf π D T a x) = fOf π D T a (fOf π D T b x) := by
  cases ha with
  | @dat p e Z hZ _ =>
    cases hb with
    | @dat p' e' Z' hZ' _ =>
      simp only [fOf, nameAt_some hZ, nameAt_some hZ', Option.some.injEq]
      by_cases h1 : π x = π Z.d <;> by_cases h2 : π x = π Z'.d
      · have := hu _ _ _ _ hZ hZ' (h1.symm.trans h2)
        subst this
        exact (hF.dd _ _ _ rfl rfl).elim
      · simp [h1, hD, h1 ▸ h2]
      · simp [h2, hD, h2 ▸ h1]
      · simp [h1, h2]
    | _ => rfl
  | _ => rfl
omit hD in
omit [DecidableEq ν] in
theorem rOf_ne {T : Tree α} {a b : Op α ε} {T1 T2 : Tree α} (ha : Ap D T a T1) (hb : Ap D T b T2) (hu : Uniq π T) (hF : Free a b) (hf : Fresh π T a) {t : ν} {g : Nat} {y : ν} (h : ioOf π T a = some (t, g, y)) :
    some y ≠ rOf π T b := by
  have hrb : ∀ u, rOf π T b = some u → ∃ q X, at? q T = some X ∧ π X.d = u ∧ (b = .del q ∨ ∃ t g, b = .mov q t g) := by
    intro u e
    cases b with
    | del q => obtain ⟨X, hX, hx⟩ := nameAt_mem e; exact ⟨q, X, hX, hx, .inl rfl⟩
    | mov q t g => obtain ⟨X, hX, hx⟩ := nameAt_mem e; exact ⟨q, X, hX, hx, .inr ⟨_, _, rfl⟩⟩
    | _ => simp [rOf] at e
  intro e
  obtain ⟨q, X, hX, hx, hq⟩ := hrb y e.symm
  cases ha with
  | @ins P g' x Z hZ _ _ =>
    simp only [ioOf, nameAt_some hZ, Option.map_some, Option.some.injEq, Prod.mk.injEq] at h
    exact hf _ _ rfl _ _ hX (hx.trans h.2.2.symm)
  | @mov P c t' g' U Z hU hn hZ _ _ =>
    simp only [ioOf, nameAt_some hZ, nameAt_some hU, Option.map_some, Option.bind_some, Option.some.injEq, Prod.mk.injEq] at h
    have := hu _ _ _ _ hX hU (hx.trans h.2.2.symm)
    subst this
    rcases hq with rfl | ⟨t2, g2, rfl⟩
    · exact hF.ba _ (.inl rfl) (List.prefix_refl _)
    · exact hF.mm _ _ _ _ _ rfl rfl
  | _ => simp [ioOf] at h
theorem fresh_shifted {T T1 T2 : Tree α} {a b : Op α ε} (ha : Ap D T a T1) (hb : Ap D T b T2) (hu : Uniq π T) (hN : News π T a b) (hF : Half a b) (f : Bool) : Fresh π T1 (shifted b a f) := by
  intro p d e q X hX
  have hs := (names_shifted hD ha hb hu hN.fa hF f).2.2.1
  rw [e] at hs
  obtain ⟨⟨p', d'⟩, hb', rfl⟩ := Option.map_eq_some_iff.1 hs.symm
  rcases (ha.eff hD hu hN.fa).back _ _ hX with ⟨p0, X0, _, h1, _, h2, _⟩ | ⟨d0, h0, rfl⟩
  · rw [h2, fOf_name hD]; exact hN.fb _ _ hb' _ _ h1
  · exact hN.ne _ _ _ _ h0 hb'
theorem tp_free {T T1 T2 : Tree α} {a b : Op α ε} (ha : Ap D T a T1) (hb : Ap D T b T2) (hu : Uniq π T) (hN : News π T a b) (hF : Free a b) (f : Bool) :
    ∃ R, Ap D T1 (shifted b a f) R ∧ Ap D T2 (shifted a b (!f)) R := by
  obtain ⟨R1, h1⟩ := ap_shifted hD ha hb hu hN.fa hF.toHalf f
  obtain ⟨R2, h2⟩ := ap_shifted hD hb ha hu hN.fb hF.symm.toHalf (!f)
  have e1 := ha.eff hD hu hN.fa
  have e2 := hb.eff hD hu hN.fb
  obtain ⟨r1, f1, n1, i1, j1⟩ := names_shifted hD ha hb hu hN.fa hF.toHalf f
  obtain ⟨r2, f2, n2, i2, j2⟩ := names_shifted hD hb ha hu hN.fb hF.symm.toHalf (!f)
  have e3 := h1.eff hD (e1.uniq hu) (fresh_shifted hD ha hb hu hN hF.toHalf f)
  have e4 := h2.eff hD (e2.uniq hu) (fresh_shifted hD hb ha hu hN.symm hF.symm.toHalf (!f))
  have hrev : ∀ {t g y}, ioOf π T1 (shifted b a f) = some (t, g, y) → ∃ h, ioOf π T b = some (t, h, y) := by
    intro t g y e
    cases hb0 : ioOf π T b with
    | none => rw [i1 hb0] at e; cases e
    | some b0 =>
      obtain ⟨t0, h0, y0⟩ := b0
      obtain ⟨h', e', _⟩ := j1 _ _ _ hb0
      rw [e] at e'; cases e'; exact ⟨h0, rfl⟩
  have hrev2 : ∀ {t g y}, ioOf π T2 (shifted a b (!f)) = some (t, g, y) → ∃ h, ioOf π T a = some (t, h, y) := by
    intro t g y e
    cases hb0 : ioOf π T a with
    | none => rw [i2 hb0] at e; cases e
    | some b0 =>
      obtain ⟨t0, h0, y0⟩ := b0
      obtain ⟨h', e', _⟩ := j2 _ _ _ hb0
      rw [e] at e'; cases e'; exact ⟨h0, rfl⟩
  have same : R1 = R2 := by
    refine same_of_tr hu (e1.tr.trans e3.tr) (e2.tr.trans e4.tr) ?_ ?_ ?_ ?_
    · intro p X hX _ _
      simp only [Function.comp, φOf, rc]
      rw [f1, f2, r1, r2, fOf_name hD, fOf_name hD, fOf_comm ha hb hu hF hD]
      refine Prod.ext rfl ?_
      have hlen : (knm π X).length = X.kids.length := by simp [knm]
      refine K_comm (f := f) (fun t g y e => ⟨rOf_ne ha hb hu hF hN.fa e, fun ev => ?_, ?_⟩) (fun t h z e => ⟨rOf_ne hb ha hu hF.symm hN.fb e, fun ev => ?_, ?_⟩) i2 i1
      · obtain ⟨g', _, hh⟩ := j2 _ _ _ e
        rw [hlen]; exact (hh p X hX ev).1
      · obtain ⟨g', he, hh⟩ := j2 _ _ _ e
        exact ⟨g', he, fun ev => by rw [(hh p X hX ev).2, ev]⟩
      · obtain ⟨g', _, hh⟩ := j1 _ _ _ e
        rw [hlen]; exact (hh p X hX ev).1
      · obtain ⟨g', he, hh⟩ := j1 _ _ _ e
        exact ⟨g', he, fun ev => by rw [(hh p X hX ev).2, ev]⟩
    · have A : ∀ x ∈ ((newOf a).toList.map fun x => ((x.2, []) : α × List ν)).map (φOf (fOf π D T1 (shifted b a f)) π (K (rOf π T1 (shifted b a f)) (ioOf π T1 (shifted b a f)))), ∃ p d, newOf a = some (p, d) ∧ x = (d, []) := by
        intro x hx
        simp only [List.map_map, List.mem_map, Option.mem_toList, Function.comp] at hx
        obtain ⟨⟨p, d⟩, hn, rfl⟩ := hx
        refine ⟨p, d, hn, ?_⟩
        have hfr := hN.fa _ _ hn
        simp only [φOf]
        rw [f1, fOf_id hfr, K_new (fun t g y e => hrev e) hfr]
      have B : ∀ x ∈ ((newOf b).toList.map fun x => ((x.2, []) : α × List ν)).map (φOf (fOf π D T2 (shifted a b (!f))) π (K (rOf π T2 (shifted a b (!f))) (ioOf π T2 (shifted a b (!f))))), ∃ p d, newOf b = some (p, d) ∧ x = (d, []) := by
        intro x hx
        simp only [List.map_map, List.mem_map, Option.mem_toList, Function.comp] at hx
        obtain ⟨⟨p, d⟩, hn, rfl⟩ := hx
        refine ⟨p, d, hn, ?_⟩
        have hfr := hN.fb _ _ hn
        simp only [φOf]
        rw [f2, fOf_id hfr, K_new (fun t g y e => hrev2 e) hfr]
      have C : ∀ x ∈ ((newOf (shifted b a f)).toList.map fun x => ((x.2, []) : α × List ν)), ∃ p d, newOf b = some (p, d) ∧ x = (d, []) := by
        intro x hx
        simp only [List.mem_map, Option.mem_toList] at hx
        obtain ⟨⟨p, d⟩, hn, rfl⟩ := hx
        rw [hn] at n1
        obtain ⟨⟨p', d'⟩, hb', rfl⟩ := Option.map_eq_some_iff.1 n1.symm
        exact ⟨p', _, hb', rfl⟩
      have E : ∀ x ∈ ((newOf (shifted a b (!f))).toList.map fun x => ((x.2, []) : α × List ν)), ∃ p d, newOf a = some (p, d) ∧ x = (d, []) := by
        intro x hx
        simp only [List.mem_map, Option.mem_toList] at hx
        obtain ⟨⟨p, d⟩, hn, rfl⟩ := hx
        rw [hn] at n2
        obtain ⟨⟨p', d'⟩, hb', rfl⟩ := Option.map_eq_some_iff.1 n2.symm
        exact ⟨p', _, hb', rfl⟩
      intro r hr s hs e
      rcases List.mem_append.1 hr with hr | hr <;> rcases List.mem_append.1 hs with hs | hs
      · obtain ⟨p, d, hn, rfl⟩ := A _ hr
        obtain ⟨p', d', hn', rfl⟩ := B _ hs
        exact absurd e (hN.ne _ _ _ _ hn hn')
      · obtain ⟨p, d, hn, rfl⟩ := A _ hr
        obtain ⟨p', d', hn', rfl⟩ := E _ hs
        rw [hn] at hn'; cases hn'; rfl
      · obtain ⟨p, d, hn, rfl⟩ := C _ hr
        obtain ⟨p', d', hn', rfl⟩ := B _ hs
        rw [hn] at hn'; cases hn'; rfl
      · obtain ⟨p, d, hn, rfl⟩ := C _ hr
        obtain ⟨p', d', hn', rfl⟩ := E _ hs
        exact absurd e.symm (hN.ne _ _ _ _ hn' hn)
    · intro r hr p X hX
      rcases List.mem_append.1 hr with hr | hr
      · simp only [List.map_map, List.mem_map, Option.mem_toList, Function.comp] at hr
        obtain ⟨⟨p', d⟩, hn, rfl⟩ := hr
        simp only [φOf]; rw [f1, fOf_name hD]
        exact hN.fa _ _ hn _ _ hX
      · simp only [List.mem_map, Option.mem_toList] at hr
        obtain ⟨⟨p', d⟩, hn, rfl⟩ := hr
        rw [hn] at n1
        obtain ⟨⟨p'', d'⟩, hb', rfl⟩ := Option.map_eq_some_iff.1 n1.symm
        exact hN.fb _ _ hb' _ _ hX
    · intro r hr p X hX
      rcases List.mem_append.1 hr with hr | hr
      · simp only [List.map_map, List.mem_map, Option.mem_toList, Function.comp] at hr
        obtain ⟨⟨p', d⟩, hn, rfl⟩ := hr
        simp only [φOf]; rw [f2, fOf_name hD]
        exact hN.fb _ _ hn _ _ hX
      · simp only [List.mem_map, Option.mem_toList] at hr
        obtain ⟨⟨p', d⟩, hn, rfl⟩ := hr
        rw [hn] at n2
        obtain ⟨⟨p'', d'⟩, hb', rfl⟩ := Option.map_eq_some_iff.1 n2.symm
        exact hN.fa _ _ hb' _ _ hX
  exact ⟨R1, h1, same ▸ h2⟩
end TP
namespace TP
open Tree
variable {α ν ε : Type} [DecidableEq ν] {π : α → ν} {D : Data α ε}
theorem ap_del {T U : Tree α} {q : Path} (h : at? q T = some U) (hne : q ≠ []) : Ap D T (.del q) (del (up q) (last q) T) := by
  have e := snoc_of_ne hne
  have := Ap.del (D := D) (P := up q) (c := last q) (T := T) (U := U) (by rw [← e]; exact h)
  rw [← e] at this; exact this
theorem path_ne {T T' : Tree α} {o : Op α ε} (h : Ap D T o T') : (∀ q, o = .del q → q ≠ []) ∧ ∀ q t g, o = .mov q t g → q ≠ [] := by
  constructor
  · rintro q rfl; generalize e : (Op.del q : Op α ε) = o at h; cases h <;> cases e; simp
  · rintro q t g rfl; generalize e : (Op.mov q t g : Op α ε) = o at h; cases h <;> cases e; simp
theorem mov_parts {T T' : Tree α} {q t : Path} {g : Nat} (h : Ap D T (.mov q t g) T') : ∃ P c U Z, q = P ++ [c] ∧ at? q T = some U ∧ ¬ q <+: t ∧ at? t T = some Z ∧ D.leaf Z.d = false ∧ g ≤ Z.kids.length := by
  generalize e : (Op.mov q t g : Op α ε) = o at h
  cases h with
  | mov h1 h2 h3 h4 h5 => cases e; exact ⟨_, _, _, _, rfl, h1, h2, h3, h4, h5⟩
  | _ => cases e
theorem del_parts {T T' : Tree α} {q : Path} (h : Ap D T (.del q) T') : ∃ P c U, q = P ++ [c] ∧ at? q T = some U := by
  generalize e : (Op.del q : Op α ε) = o at h
  cases h with
  | del h1 => cases e; exact ⟨_, _, _, rfl, h1⟩
  | _ => cases e
omit [DecidableEq ν] in
theorem not_kid {T X U : Tree α} (hu : Uniq π T) {p q : Path} (h : at? p T = some X) (hU : at? q T = some U) (hn : ∀ i, q ≠ p ++ [i]) : π U.d ∉ knm π X := by
  intro hm
  obtain ⟨i, hi⟩ := List.mem_iff_getElem?.1 hm
  rw [knm_get π h] at hi
  cases hk : at? (p ++ [i]) T with
  | none => simp [hk] at hi
  | some k =>
    simp only [hk, Option.map_some, Option.some.injEq] at hi
    exact hn i (hu _ _ _ _ hU hk hi.symm)
theorem K_rm {u : ν} {io : Option (ν × Nat × ν)} {v : ν} {L : List ν} (h : ∀ t g y, io = some (t, g, y) → v = t → y = u) : rmv (some u) (K (some u) io v L) = rmv (some u) L := by
  cases io with
  | none => simp only [K]; exact rmv_idem _ _
  | some b =>
    obtain ⟨t, g, y⟩ := b
    simp only [K]
    split
    · rename_i e
      rw [h _ _ _ rfl e, rmv_append, rmv_cons_eq, rmv_idem, rmv_idem, ← rmv_append, List.take_append_drop]
    · exact rmv_idem _ _
theorem K_split {r : Option ν} {io : Option (ν × Nat × ν)} {v : ν} {L : List ν} {h : Nat} (f : Bool) (hh : h ≤ L.length) (hi : ∀ t g y, io = some (t, g, y) → v = t → g ≤ L.length ∧ r = some y) :
    rmv r ((K r io v L).take (sh r io v L h f)) = rmv r (L.take h) ∧ rmv r ((K r io v L).drop (sh r io v L h f)) = rmv r (L.drop h) := by
  have plain : ∀ M, M = rmv r L → rmv r (M.take (rmv r (L.take h)).length) = rmv r (L.take h) ∧ rmv r (M.drop (rmv r (L.take h)).length) = rmv r (L.drop h) := by
    rintro M rfl
    have : rmv r L = rmv r (L.take h) ++ rmv r (L.drop h) := by rw [← rmv_append, List.take_append_drop]
    rw [this, List.take_left, List.drop_left, rmv_idem, rmv_idem]; exact ⟨rfl, rfl⟩
  cases io with
  | none => simp only [K, sh, Nat.add_zero]; exact plain _ rfl
  | some b =>
    obtain ⟨t, g, y⟩ := b
    simp only [K, sh]
    by_cases e : v = t
    · obtain ⟨hg, rfl⟩ := hi _ _ _ rfl e
      rw [if_pos e]
      by_cases hc : g < h ∨ g = h ∧ f = false
      · rw [if_pos ⟨e, hc⟩]
        have e1 : L.drop g = (L.take h).drop g ++ L.drop h := by
          conv => lhs; rw [← List.take_append_drop h L]
          rw [List.drop_append_of_le_length (by simp; omega)]
        have e2 : L.take h = L.take g ++ (L.take h).drop g := by
          conv => lhs; rw [← List.take_append_drop g (L.take h)]
          rw [List.take_take, Nat.min_eq_left (by omega)]
        have e3 : rmv (some y) (L.take g) ++ y :: rmv (some y) (L.drop g) = (rmv (some y) (L.take g) ++ y :: rmv (some y) ((L.take h).drop g)) ++ rmv (some y) (L.drop h) := by
          rw [e1, rmv_append]; simp
        have e4 : (rmv (some y) (L.take h)).length + 1 = (rmv (some y) (L.take g) ++ y :: rmv (some y) ((L.take h).drop g)).length := by
          conv => lhs; rw [e2, rmv_append]
          simp; omega
        rw [e3, e4, List.take_left, List.drop_left, rmv_append, rmv_cons_eq, rmv_idem, rmv_idem, rmv_idem, ← rmv_append, ← e2]
        exact ⟨rfl, rfl⟩
      · rw [if_neg (fun h => hc h.2), Nat.add_zero]
        have e1 : L.take g = L.take h ++ (L.take g).drop h := by
          conv => lhs; rw [← List.take_append_drop h (L.take g)]
          rw [List.take_take, Nat.min_eq_left (by omega)]
        have e2 : L.drop h = (L.take g).drop h ++ L.drop g := by
          conv => lhs; rw [← List.take_append_drop g L]
          rw [List.drop_append_of_le_length (by simp; omega)]
        have e3 : rmv (some y) (L.take g) ++ y :: rmv (some y) (L.drop g) = rmv (some y) (L.take h) ++ (rmv (some y) ((L.take g).drop h) ++ y :: rmv (some y) (L.drop g)) := by
          conv => lhs; rw [e1, rmv_append, List.append_assoc]
        rw [e3, List.take_left, List.drop_left, rmv_append, rmv_cons_eq, rmv_idem, rmv_idem, rmv_idem, ← rmv_append, ← e2]
        exact ⟨rfl, rfl⟩
    · rw [if_neg e, if_neg (fun h => e h.1), Nat.add_zero]; exact plain _ rfl
variable (hD : ∀ e x, π (D.app e x) = π x)
include hD
theorem row_same {T T1 T2 : Tree α} {q ta tb : Path} {ga gb : Nat} (ha : Ap D T (.mov q ta ga) T1) (hb : Ap D T (.mov q tb gb) T2) (hu : Uniq π T) :
    Ap D T1 (shifted (.mov q tb gb) (.mov q ta ga) true) T2 := by
  obtain ⟨P, c, U, Z, rfl, hU, hn, hZ, hl, hg⟩ := mov_parts ha
  obtain ⟨P', c', U', Z', e, hU', hn', hZ', hl', hg'⟩ := mov_parts hb
  have hP : P = P' ∧ c = c' := by have := congrArg (fun x : Path => x) e; simpa using this
  obtain ⟨rfl, rfl⟩ := hP
  rw [hU] at hU'; cases hU'
  have hF : Half (.mov (P ++ [c]) ta ga : Op α ε) (.mov (P ++ [c]) tb gb) :=
    ⟨fun _ _ => id, fun _ _ _ _ _ _ e1 e2 h _ => by cases e1; cases e2; exact hn' h, fun _ _ _ e => by cases e⟩
  have fr : ∀ (T : Tree α) (q t : Path) (g : Nat), Fresh π T (.mov q t g : Op α ε) := fun _ _ _ _ _ _ e => by cases e
  obtain ⟨R, hR⟩ := ap_shifted hD ha hb hu (fr _ _ _ _) hF true
  obtain ⟨r1, f1, n1, i1, j1⟩ := names_shifted hD ha hb hu (fr _ _ _ _) hF true
  have e1 := ha.eff hD hu (fr _ _ _ _)
  have e2 := hb.eff hD hu (fr _ _ _ _)
  have e3 := hR.eff hD (e1.uniq hu) (fr _ _ _ _)
  have : R = T2 := by
    refine same_of_tr hu (e1.tr.trans e3.tr) e2.tr ?_ (by simp [newOf, shifted]) (by simp [newOf, shifted]) (by simp [newOf])
    intro p X hX _ _
    simp only [Function.comp, φOf, rc]
    rw [f1, r1]
    refine Prod.ext rfl ?_
    obtain ⟨h', he, hh⟩ := j1 (π Z'.d) gb (π U.d) (by simp [ioOf, nameAt_some hU, nameAt_some hZ'])
    rw [he]
    simp only [fOf, rOf, ioOf, nameAt_some hU, nameAt_some hZ, nameAt_some hZ', Option.bind_some, Option.map_some]
    simp only [rOf, ioOf, nameAt_some hU, nameAt_some hZ, Option.bind_some, Option.map_some] at hh
    have hlen : (knm π X).length = X.kids.length := by simp [knm]
    have hio : ∀ t g y, some (π Z.d, ga, π U.d) = some (t, g, y) → π X.d = t → g ≤ (knm π X).length ∧ some (π U.d) = some y := by
      rintro t g y e ev
      cases e
      have := hu _ _ _ _ hX hZ ev
      subst this; rw [hX] at hZ; cases hZ
      exact ⟨by omega, rfl⟩
    have hkr : rmv (some (π U.d)) (K (some (π U.d)) (some (π Z.d, ga, π U.d)) (π X.d) (knm π X)) = rmv (some (π U.d)) (knm π X) := K_rm (fun t g y e _ => by cases e; rfl)
    show K (some (π U.d)) (some (π Z'.d, h', π U.d)) (π X.d) (K (some (π U.d)) (some (π Z.d, ga, π U.d)) (π X.d) (knm π X)) = K (some (π U.d)) (some (π Z'.d, gb, π U.d)) (π X.d) (knm π X)
    by_cases ev : π X.d = π Z'.d
    · obtain ⟨hgl, hhe⟩ := hh p X hX ev
      have := K_split (r := some (π U.d)) (io := some (π Z.d, ga, π U.d)) (v := π X.d) (L := knm π X) (h := gb) true (by omega) hio
      rw [ev, ← hhe] at this
      rw [ev]
      generalize K (some (π U.d)) (some (π Z.d, ga, π U.d)) (π Z'.d) (knm π X) = M at *
      simp only [K, if_true]
      rw [this.1, this.2]
    · generalize K (some (π U.d)) (some (π Z.d, ga, π U.d)) (π X.d) (knm π X) = M at *
      simp only [K, if_neg ev]; exact hkr
  rw [← this]; exact hR
def undo : Op α ε → Op α ε
  | .mov q t g => .mov (node (.mov q t g : Op α ε) q) (node (.mov q t g : Op α ε) (up q)) (if up q = t ∧ landG (up q) (last q) t g < last q then last q + 1 else last q)
  | o => o
theorem row_undo {T T1 : Tree α} {q t : Path} {g : Nat} (ha : Ap D T (.mov q t g) T1) (hu : Uniq π T) (hw : ∀ p X, at? p T = some X → D.leaf X.d = true → X.kids = []) : Ap D T1 (undo (.mov q t g)) T := by
  obtain ⟨P, c, U, Z, rfl, hU, hn, hZ, hl, hg⟩ := mov_parts ha
  have fr : ∀ (T : Tree α) (q t : Path) (g : Nat), Fresh π T (.mov q t g : Op α ε) := fun _ _ _ _ _ _ e => by cases e
  have e1 := ha.eff hD hu (fr _ _ _ _)
  obtain ⟨S, hS⟩ := at?_up hU
  have hlenS : (knm π S).length = S.kids.length := by simp [knm]
  have hget : (knm π S)[c]? = some (π U.d) := by rw [knm_get π hS, hU]; rfl
  have honly : ∀ i, (knm π S)[i]? = some (π U.d) → i = c := fun i hi => (hu.kid hS hU hi).2
  have hc : c < S.kids.length := by
    rw [← hlenS]
    exact (List.getElem?_eq_some_iff.1 hget).1
  obtain ⟨A, B, hL, hA⟩ : ∃ A B, knm π S = A ++ π U.d :: B ∧ A.length = c := by
    obtain ⟨h, hx⟩ := List.getElem?_eq_some_iff.1 hget
    exact ⟨(knm π S).take c, (knm π S).drop (c + 1), by rw [← hx]; simp, by simp; omega⟩
  have hnA : π U.d ∉ A := fun hm => by
    obtain ⟨i, hi⟩ := List.mem_iff_getElem?.1 hm
    have hlt : i < A.length := (List.getElem?_eq_some_iff.1 hi).1
    have := honly i (by rw [hL, List.getElem?_append_left hlt]; exact hi)
    omega
  have hnB : π U.d ∉ B := fun hm => by
    obtain ⟨i, hi⟩ := List.mem_iff_getElem?.1 hm
    have := honly (c + 1 + i) (by
      rw [hL, List.getElem?_append_right (by omega)]
      have : c + 1 + i - A.length = i + 1 := by omega
      rw [this]; simpa using hi)
    omega
  have hlS : D.leaf S.d = false := by
    cases h : D.leaf S.d with
    | false => rfl
    | true => have := hw _ _ hS h; rw [this] at hc; simp at hc
  obtain ⟨U', hU', _⟩ := e1.fwd _ _ id hU
  have hne := e1.ne_nil hu hU id (by simp)
  obtain ⟨S', hS', hSd, hSk⟩ := e1.fwd _ _ id hS
  have hnw : ¬ node (.mov (P ++ [c]) t g : Op α ε) (P ++ [c]) <+: node (.mov (P ++ [c]) t g : Op α ε) P := by
    intro hpre
    rcases node_within hD ha hu (fr _ _ _ _) hU hS id id hpre with h | h
    · have := h.length_le; simp at this; omega
    · have := h.1.length_le; simp at this; omega
  generalize hat : (if P = t ∧ landG P c t g < c then c + 1 else c) = at0
  have key : rmv (some (π U.d)) ((K (some (π U.d)) (some (π Z.d, g, π U.d)) (π S.d) (knm π S)).take at0) = A ∧ rmv (some (π U.d)) ((K (some (π U.d)) (some (π Z.d, g, π U.d)) (π S.d) (knm π S)).drop at0) = B ∧ at0 ≤ (K (some (π U.d)) (some (π Z.d, g, π U.d)) (π S.d) (knm π S)).length := by
    have hrA : rmv (some (π U.d)) A = A := rmv_not hnA
    have hrB : rmv (some (π U.d)) B = B := rmv_not hnB
    by_cases est : P = t
    · subst est
      have eZ : Z = S := by rw [hS] at hZ; exact (Option.some.inj hZ).symm
      rw [eZ]
      simp only [K, if_true]
      have hgl : landG P c P g = if c < g then g - 1 else g := by simp [landG]
      rw [hgl] at hat
      by_cases hcg : c < g
      · rw [if_pos hcg] at hat
        rw [if_neg (by omega)] at hat
        subst hat
        have e1 : (knm π S).take g = A ++ π U.d :: B.take (g - c - 1) := by
          rw [hL, List.take_append, hA, List.take_of_length_le (by omega)]
          rw [show g - c = (g - c - 1) + 1 by omega, List.take_succ_cons]; simp
        have e2 : (knm π S).drop g = B.drop (g - c - 1) := by
          rw [hL, List.drop_append, hA, List.drop_of_length_le (l := A) (by omega), List.nil_append]
          rw [show g - c = (g - c - 1) + 1 by omega, List.drop_succ_cons]; simp
        have n1 : π U.d ∉ B.take (g - c - 1) := fun h => hnB (List.mem_of_mem_take h)
        have n2 : π U.d ∉ B.drop (g - c - 1) := fun h => hnB (List.mem_of_mem_drop h)
        have hB := List.take_append_drop (g - c - 1) B
        generalize B.take (g - c - 1) = B1 at e1 n1 hB
        generalize B.drop (g - c - 1) = B2 at e2 n2 hB
        rw [e1, e2, rmv_append, rmv_cons_eq, hrA, rmv_not n1, rmv_not n2, List.append_assoc, ← hA, List.take_left, List.drop_left, hrA, rmv_append, rmv_cons_eq, rmv_not n1, rmv_not n2, hB]
        exact ⟨rfl, rfl, by simp⟩
      · rw [if_neg hcg] at hat
        have e1 : (knm π S).take g = A.take g := by
          rw [hL, List.take_append, show g - A.length = 0 by omega]; simp
        have e2 : (knm π S).drop g = A.drop g ++ π U.d :: B := by
          rw [hL, List.drop_append, show g - A.length = 0 by omega]; simp
        have n1 : π U.d ∉ A.take g := fun h => hnA (List.mem_of_mem_take h)
        have n2 : π U.d ∉ A.drop g := fun h => hnA (List.mem_of_mem_drop h)
        rw [e1, e2, rmv_append, rmv_cons_eq, rmv_not n1, rmv_not n2, hrB]
        by_cases hg2 : g < c
        · rw [if_pos ⟨rfl, hg2⟩] at hat
          subst hat
          have e3 : A.take g ++ π U.d :: (A.drop g ++ B) = (A.take g ++ π U.d :: A.drop g) ++ B := by simp
          have e4 : c + 1 = (A.take g ++ π U.d :: A.drop g).length := by simp; omega
          rw [e3, e4, List.take_left, List.drop_left, rmv_append, rmv_cons_eq, rmv_not n1, rmv_not n2, List.take_append_drop, hrB]
          exact ⟨rfl, rfl, by simp⟩
        · have : g = c := by omega
          subst this
          rw [if_neg (by omega)] at hat
          subst hat
          have e5 : A.take g = A := by rw [List.take_of_length_le (by omega)]
          have e6 : A.drop g = [] := by rw [List.drop_of_length_le (by omega)]
          rw [e5, e6, ← hA, List.take_left, List.drop_left, hrA, List.nil_append, rmv_cons_eq, hrB]
          exact ⟨rfl, rfl, by simp⟩
    · have hne' : π S.d ≠ π Z.d := fun e => est (hu _ _ _ _ hS hZ e)
      simp only [K, if_neg hne']
      rw [if_neg (fun h => est h.1)] at hat
      subst hat
      rw [hL, rmv_append, rmv_cons_eq, hrA, hrB, ← hA, List.take_left, List.drop_left, hrA, hrB]
      exact ⟨rfl, rfl, by simp⟩
  simp only [rOf, ioOf, nameAt_some hU, nameAt_some hZ, Option.bind_some, Option.map_some] at hSk
  have hap : ∃ R, Ap D T1 (undo (.mov (P ++ [c]) t g)) R := by
    simp only [undo, up_snoc, last_snoc, hat]
    have hS'' : at? (node (.mov (P ++ [c]) t g : Op α ε) P) T1 = some S' := hS'
    replace hU' : at? (node (.mov (P ++ [c]) t g : Op α ε) (P ++ [c])) T1 = some U' := hU'
    have hlen' : S'.kids.length = (knm π S').length := by simp [knm]
    have hl' : D.leaf S'.d = false := by rw [hSd, leaf_fOf]; exact hlS
    generalize node (.mov (P ++ [c]) t g : Op α ε) (P ++ [c]) = now at *
    rw [snoc_of_ne hne] at hU' hnw
    have := Ap.mov (D := D) (g := at0) hU' hnw hS'' hl' (by rw [hlen', hSk]; exact key.2.2)
    rw [← snoc_of_ne hne] at this
    exact ⟨_, this⟩
  obtain ⟨R, hR⟩ := hap
  have e3 := hR.eff hD (e1.uniq hu) (fr _ _ _ _)
  have : R = T := by
    refine same_of_tr hu (e1.tr.trans e3.tr) (Tr.refl T) ?_ (by simp) (by simp [newOf, undo]) (by simp)
    intro p X hX _ _
    simp only [Function.comp, φOf, rc, id]
    refine Prod.ext rfl ?_
    have nU : nameAt π T1 (node (.mov (P ++ [c]) t g : Op α ε) (P ++ [c])) = some (π U.d) := by rw [e1.name hU id, nameAt_some hU]
    have nS : nameAt π T1 (node (.mov (P ++ [c]) t g : Op α ε) P) = some (π S.d) := by rw [e1.name hS id, nameAt_some hS]
    simp only [undo, rOf, ioOf, fOf, nameAt_some hU, nameAt_some hZ, Option.bind_some, Option.map_some, up_snoc, last_snoc, nU, nS, hat]
    by_cases ev : π X.d = π S.d
    · have := hu _ _ _ _ hX hS ev
      subst this
      obtain rfl : S = X := by rw [hS] at hX; exact Option.some.inj hX
      generalize K (some (π U.d)) (some (π Z.d, g, π U.d)) (π S.d) (knm π S) = M at *
      simp only [K, if_true]
      rw [key.1, key.2.1, hL]
    · have hkr : rmv (some (π U.d)) (K (some (π U.d)) (some (π Z.d, g, π U.d)) (π X.d) (knm π X)) = rmv (some (π U.d)) (knm π X) := K_rm (fun t g y e _ => by cases e; rfl)
      generalize K (some (π U.d)) (some (π Z.d, g, π U.d)) (π X.d) (knm π X) = M at *
      simp only [K, if_neg ev]
      rw [hkr]
      exact rmv_not (not_kid hu hX hU fun i e => by
        have hP : p = P := by have := congrArg List.dropLast e; simpa using this.symm
        subst hP; rw [hX] at hS; cases hS; exact ev rfl)
  rw [← this]; exact this ▸ hR
end TP
namespace TP
open Tree
variable {α ν ε : Type} [DecidableEq ν] {π : α → ν} {D : Data α ε}
variable (hD : ∀ e x, π (D.app e x) = π x)
include hD
omit hD [DecidableEq ν] in
theorem fresh_del {T : Tree α} {q : Path} : Fresh π T (.del q : Op α ε) := fun _ _ e => by cases e
omit hD in
theorem fOf_other {T T' X : Tree α} {o : Op α ε} (h : Ap D T o T') (hu : Uniq π T) {p : Path} (hX : at? p T = some X) (hp : p ≠ path o) : fOf π D T o X.d = X.d := by
  cases h with
  | @dat p' e Z hZ _ =>
    simp only [fOf, nameAt_some hZ, Option.some.injEq]
    rw [if_neg (fun e => hp (hu _ _ _ _ hX hZ e))]
  | _ => rfl
omit hD in
theorem K_other {T T' X : Tree α} {o : Op α ε} (h : Ap D T o T') (hu : Uniq π T) {p : Path} (hX : at? p T = some X) (hp : ∀ q, Reads o q → p ≠ q) : K (rOf π T o) (ioOf π T o) (π X.d) (knm π X) = rmv (rOf π T o) (knm π X) := by
  cases hio : ioOf π T o with
  | none => rfl
  | some b =>
    obtain ⟨t, g, y⟩ := b
    simp only [K]
    rw [if_neg]
    intro e
    cases h with
    | @ins P g' x Z hZ _ _ =>
      simp only [ioOf, nameAt_some hZ, Option.map_some, Option.some.injEq, Prod.mk.injEq] at hio
      exact hp _ (.inl rfl) (hu _ _ _ _ hX hZ (e.trans hio.1.symm))
    | @mov P c t' g' U Z hU hn hZ _ _ =>
      simp only [ioOf, nameAt_some hZ, nameAt_some hU, Option.map_some, Option.bind_some, Option.some.injEq, Prod.mk.injEq] at hio
      exact hp _ (.inr ⟨_, _, rfl⟩) (hu _ _ _ _ hX hZ (e.trans hio.1.symm))
    | _ => simp [ioOf] at hio
theorem row_gone {T T1 T2 : Tree α} {q : Path} {b : Op α ε} (ha : Ap D T (.del q) T1) (hb : Ap D T b T2) (hu : Uniq π T) (hfb : Fresh π T b) (hin : q <+: path b) (hg : ¬ gone b q)
    (ht : ∀ q' t g, b = .mov q' t g → q <+: t ∨ q' = q) : Ap D T2 (shifted (.del q) b true) T1 := by
  obtain ⟨P, c, U, rfl, hU⟩ := del_parts ha
  have hH : Half b (.del (P ++ [c])) := {
    ab := fun p hp => by
      rcases hp with rfl | ⟨_, _, e⟩
      · exact hg
      · cases e
    cy := fun _ _ _ _ _ _ _ e => by cases e
    dd := fun _ _ _ _ e => by cases e }
  obtain ⟨R, hR⟩ := ap_shifted hD hb ha hu hfb hH true
  obtain ⟨r1, f1, n1, i1, _⟩ := names_shifted hD hb ha hu hfb hH true
  have e1 := ha.eff hD hu fresh_del
  have e2 := hb.eff hD hu hfb
  have e3 := hR.eff hD (e2.uniq hu) fresh_del
  have : R = T1 := by
    refine same_of_tr hu (e2.tr.trans e3.tr) e1.tr ?_ (by simp [newOf]) ?_ (by simp [newOf])
    · intro p X hX _ hG
      replace hG : ¬ (P ++ [c]) <+: p := hG
      simp only [Function.comp, φOf, rc]
      rw [f1, r1, i1 rfl]
      have hp : p ≠ path b := fun e => hG (e ▸ hin)
      rw [fOf_other hb hu hX hp]
      refine Prod.ext rfl ?_
      simp only [rOf, nameAt_some hU, ioOf]
      show rmv (some (π U.d)) (K (rOf π T b) (ioOf π T b) (π X.d) (knm π X)) = rmv (some (π U.d)) (knm π X)
      cases b with
      | ins P' g x =>
        rw [K_other hb hu hX (fun q hq => by rcases hq with rfl | ⟨_, _, e⟩; exact hp; cases e)]
        simp only [rOf, rmv_none]
      | dat p' e =>
        rw [K_other hb hu hX (fun q hq => by rcases hq with rfl | ⟨_, _, e⟩; exact hp; cases e)]
        simp only [rOf, rmv_none]
      | del q' =>
        rw [K_other hb hu hX (fun q hq => by rcases hq with rfl | ⟨_, _, e⟩; exact hp; cases e)]
        obtain ⟨P', c', U', rfl, hU'⟩ := del_parts hb
        simp only [rOf, nameAt_some hU']
        rw [rmv_comm, rmv_not (L := rmv _ _)]
        intro hm
        refine not_kid hu hX hU' (fun i e => ?_) (mem_rmv hm)
        have hP : P' = p ∧ c' = i := by simpa using e
        obtain ⟨rfl, rfl⟩ := hP
        simp only [path] at hin
        rcases prefix_snoc hin with e | e
        · exact hg (by simp only [gone]; rw [← e]; exact List.prefix_refl _)
        · exact hG e
      | mov q' t g =>
        obtain ⟨P', c', U', Z, rfl, hU', hn, hZ, _, _⟩ := mov_parts hb
        have hr : rOf π T (.mov (P' ++ [c']) t g : Op α ε) = some (π U'.d) := by simp only [rOf, nameAt_some hU']
        have hio : ioOf π T (.mov (P' ++ [c']) t g : Op α ε) = some (π Z.d, g, π U'.d) := by simp only [ioOf, nameAt_some hU', nameAt_some hZ, Option.map_some, Option.bind_some]
        by_cases e : P' ++ [c'] = P ++ [c]
        · have : U' = U := by rw [e] at hU'; rw [hU'] at hU; cases hU; rfl
          subst this
          rw [hr, hio]
          exact K_rm (fun _ _ _ e _ => by cases e; rfl)
        · have htt : (P ++ [c]) <+: t := by
            rcases ht _ _ _ rfl with h | h
            · exact h
            · exact absurd h e
          rw [K_other hb hu hX (fun q hq => by
            rcases hq with rfl | ⟨_, _, e⟩
            · exact hp
            · cases e; exact fun e => hG (e ▸ htt)), hr]
          rw [rmv_comm, rmv_not (L := rmv _ _)]
          intro hm
          refine not_kid hu hX hU' (fun i e' => ?_) (mem_rmv hm)
          have hP : P' = p ∧ c' = i := by simpa using e'
          obtain ⟨rfl, rfl⟩ := hP
          simp only [path] at hin
          rcases prefix_snoc hin with e'' | e''
          · exact e e''.symm
          · exact hG e''
    · intro r hr p X hX
      rcases List.mem_append.1 hr with hr | hr
      · simp only [List.map_map, List.mem_map, Option.mem_toList, Function.comp] at hr
        obtain ⟨⟨p', d⟩, hn, rfl⟩ := hr
        simp only [φOf]; rw [fOf_name hD]
        exact hfb _ _ hn _ _ hX
      · simp [newOf, shifted] at hr
  rw [← this]; exact hR
theorem row_taken {T T1 T2 : Tree α} {q qb tb : Path} {gb : Nat} (ha : Ap D T (.del q) T1) (hb : Ap D T (.mov qb tb gb) T2) (hu : Uniq π T) (hin : q <+: qb) (hne : q ≠ qb) (ht : ¬ q <+: tb) :
    Aps D T2 [.del (node (.mov qb tb gb : Op α ε) qb), .del (node (.del (node (.mov qb tb gb : Op α ε) qb) : Op α ε) (node (.mov qb tb gb : Op α ε) q))] T1 := by
  obtain ⟨P, c, U, rfl, hU⟩ := del_parts ha
  obtain ⟨P', c', U', Z, rfl, hU', hn, hZ, _, _⟩ := mov_parts hb
  have fr : Fresh π T (.mov (P' ++ [c']) tb gb : Op α ε) := fun _ _ e => by cases e
  have e1 := ha.eff hD hu fresh_del
  have e2 := hb.eff hD hu fr
  generalize hNb : node (.mov (P' ++ [c']) tb gb : Op α ε) = N at *
  obtain ⟨V, hV, hVd, _⟩ := e2.fwd _ _ id hU'
  obtain ⟨W, hW, hWd, _⟩ := e2.fwd _ _ id hU
  have hVne := e2.ne_nil hu hU' id (by simp)
  have hWne := e2.ne_nil hu hU id (by simp)
  have hu2 := e2.uniq hu
  have a3 := ap_del (D := D) hV hVne
  have e3 := a3.eff hD hu2 fresh_del
  have hng : ¬ gone (.del (N (P' ++ [c'])) : Op α ε) (N (P ++ [c])) := by
    intro h
    rw [← hNb] at h
    have hgf : ∀ p, ¬ gone (.mov (P' ++ [c']) tb gb : Op α ε) p := fun _ => id
    rcases node_within hD hb hu fr hU' hU (hgf _) (hgf _) h with h | h
    · exact hne ((List.IsPrefix.eq_of_length_le hin h.length_le))
    · exact hne ((List.IsPrefix.eq_of_length_le hin h.1.length_le))
  obtain ⟨Y, hY, hYd, _⟩ := e3.fwd _ _ hng hW
  have hYne := e3.ne_nil hu2 hW hng hWne
  have a4 := ap_del (D := D) hY hYne
  have e4 := a4.eff hD (e3.uniq hu2) fresh_del
  have same : del (up (node (.del (N (P' ++ [c'])) : Op α ε) (N (P ++ [c])))) (last (node (.del (N (P' ++ [c'])) : Op α ε) (N (P ++ [c])))) (del (up (N (P' ++ [c']))) (last (N (P' ++ [c']))) T2) = T1 := by
    refine same_of_tr hu ((e2.tr.trans e3.tr).trans e4.tr) e1.tr ?_ (by simp [newOf]) (by simp [newOf]) (by simp [newOf])
    intro p X hX _ hG
    replace hG : ¬ (P ++ [c]) <+: p := hG
    simp only [Function.comp, φOf, rc, fOf]
    refine Prod.ext rfl ?_
    have n1 : nameAt π T2 (N (P' ++ [c'])) = some (π U'.d) := by rw [e2.name hU' id, nameAt_some hU']
    have n2 : nameAt π T2 (N (P ++ [c])) = some (π U.d) := by rw [e2.name hU id, nameAt_some hU]
    have n3 := e3.name hW hng
    rw [n2] at n3
    simp only [rOf, ioOf, nameAt_some hU, nameAt_some hU', nameAt_some hZ, n1, n3, Option.bind_some, Option.map_some]
    have hkr : rmv (some (π U'.d)) (K (some (π U'.d)) (some (π Z.d, gb, π U'.d)) (π X.d) (knm π X)) = rmv (some (π U'.d)) (knm π X) := K_rm (fun _ _ _ e _ => by cases e; rfl)
    show rmv (some (π U.d)) (rmv (some (π U'.d)) (K (some (π U'.d)) (some (π Z.d, gb, π U'.d)) (π X.d) (knm π X))) = rmv (some (π U.d)) (knm π X)
    rw [hkr, rmv_not (not_kid hu hX hU' fun i e => ?_)]
    have hP : P' = p ∧ c' = i := by simpa using e
    obtain ⟨rfl, rfl⟩ := hP
    rcases prefix_snoc hin with e' | e'
    · exact hne e'
    · exact hG e'
  rw [same] at a4
  exact .cons a3 (.cons a4 .nil)
theorem row_into {T T1 T2 : Tree α} {q qb tb : Path} {gb : Nat} (ha : Ap D T (.del q) T1) (hb : Ap D T (.mov qb tb gb) T2) (hu : Uniq π T) (hin : ¬ q <+: qb) (ht : q <+: tb) :
    ∃ R, Ap D T1 (.del (node (.del q : Op α ε) qb)) R ∧ Ap D T2 (shifted (.del q) (.mov qb tb gb) true) R := by
  obtain ⟨P, c, U, rfl, hU⟩ := del_parts ha
  obtain ⟨P', c', U', Z, rfl, hU', hn, hZ, _, _⟩ := mov_parts hb
  have fr : Fresh π T (.mov (P' ++ [c']) tb gb : Op α ε) := fun _ _ e => by cases e
  have e1 := ha.eff hD hu fresh_del
  have e2 := hb.eff hD hu fr
  have hu1 := e1.uniq hu
  have hgn : ¬ gone (.del (P ++ [c]) : Op α ε) (P' ++ [c']) := hin
  obtain ⟨V, hV, _, _⟩ := e1.fwd _ _ hgn hU'
  have hVne := e1.ne_nil hu hU' hgn (by simp)
  have a3 := ap_del (D := D) hV hVne
  have e3 := a3.eff hD hu1 fresh_del
  have hH : Half (.mov (P' ++ [c']) tb gb : Op α ε) (.del (P ++ [c])) := ⟨fun p hp => id, (fun _ _ _ _ _ _ _ e => by cases e), (fun _ _ _ e => by cases e)⟩
  obtain ⟨R, hR⟩ := ap_shifted hD hb ha hu fr hH true
  obtain ⟨r1, f1, n1, i1, _⟩ := names_shifted hD hb ha hu fr hH true
  have e4 := hR.eff hD (e2.uniq hu) fresh_del
  have same : del (up (node (.del (P ++ [c]) : Op α ε) (P' ++ [c']))) (last (node (.del (P ++ [c]) : Op α ε) (P' ++ [c']))) T1 = R := by
    refine same_of_tr hu (e1.tr.trans e3.tr) (e2.tr.trans e4.tr) ?_ (by simp [newOf]) (by simp [newOf]) (by simp [newOf, shifted])
    intro p X hX hG _
    replace hG : ¬ (P ++ [c]) <+: p := hG
    simp only [Function.comp, φOf, rc]
    rw [f1, r1, i1 rfl]
    refine Prod.ext rfl ?_
    have n1' : nameAt π T1 (node (.del (P ++ [c]) : Op α ε) (P' ++ [c'])) = some (π U'.d) := by rw [e1.name hU' hgn, nameAt_some hU']
    have hp : π X.d ≠ π Z.d := fun e => hG ((hu _ _ _ _ hX hZ e) ▸ ht)
    simp only [rOf, ioOf, nameAt_some hU, nameAt_some hU', nameAt_some hZ, n1', Option.bind_some, Option.map_some]
    show rmv (some (π U'.d)) (rmv (some (π U.d)) (knm π X)) = rmv (some (π U.d)) (K (some (π U'.d)) (some (π Z.d, gb, π U'.d)) (π X.d) (knm π X))
    simp only [K, if_neg hp]
    exact rmv_comm _ _ _
  exact ⟨_, a3, same ▸ hR⟩
end TP
namespace TP
open Tree
variable {α ν ε : Type} [DecidableEq ν] {π : α → ν}
structure Edits (α ε : Type) extends Data α ε where
  tr : ε → ε → Bool → Option (Option ε)
  tr_ok : ∀ a b x f la lb, ok a x → ok b x → tr b a f = some lb → tr a b (!f) = some la →
    (∀ e, lb = some e → ok e (app a x)) ∧ (∀ e, la = some e → ok e (app b x)) ∧ (lb.elim id app) (app a x) = (la.elim id app) (app b x)
def beh (E : Edits α ε) (b a : Op α ε) (f : Bool) : Option (List (Op α ε)) :=
  match a with
  | .del qa => if qa <+: path b then some [] else match b with
    | .mov qb tb _ => if qa <+: tb then some [.del (node a qb)] else some [shifted b a f]
    | _ => some [shifted b a f]
  | .mov qa ta _ => match b with
    | .mov qb tb _ => if qa = qb then some (if f then [shifted b a f] else []) else if qb <+: ta ∧ qa <+: tb then some (if f then [undo a, b] else []) else some [shifted b a f]
    | .del qb => if qb <+: qa ∧ qb ≠ qa ∧ ¬ qb <+: ta then some [.del (node a qa), .del (node (.del (node a qa) : Op α ε) (node a qb))] else some [shifted b a f]
    | _ => some [shifted b a f]
  | .dat pa ea => match b with
    | .dat pb eb => if pa = pb then (E.tr eb ea f).map fun o => (o.map (Op.dat pb)).toList else some [shifted b a f]
    | _ => some [shifted b a f]
  | .ins _ _ _ => some [shifted b a f]
theorem dat_dat (f g : α → α) (p : Path) (T : Tree α) : dat p f (dat p g T) = dat p (fun x => f (g x)) T := by
  unfold dat
  induction p generalizing T with
  | nil => rfl
  | cons i p ih =>
    simp only [upd, d_mk, kids_mk]
    congr 1
    apply List.ext_getElem?
    intro n
    simp only [List.getElem?_modify]
    cases T.kids[n]? with
    | none => rfl
    | some k => simp only [Option.map_eq_map, Option.map_some]; split <;> simp [ih]
theorem dat_congr {f g : α → α} {p : Path} {T Z : Tree α} (h : at? p T = some Z) (e : f Z.d = g Z.d) : dat p f T = dat p g T := by
  unfold dat
  induction p generalizing T with
  | nil => cases h; simp [upd, datK, e]
  | cons i p ih =>
    obtain ⟨k, hk, h'⟩ := at?_cons.1 h
    simp only [upd]
    congr 1
    apply List.ext_getElem?
    intro n
    simp only [List.getElem?_modify]
    cases hn : T.kids[n]? with
    | none => rfl
    | some k' =>
      simp only [Option.map_eq_map, Option.map_some]
      split
      · rename_i e'; subst e'
        rw [hk] at hn; cases hn
        rw [ih h']
      · rfl
theorem Ap.det {D : Data α ε} {T T1 T2 : Tree α} {o : Op α ε} (h1 : Ap D T o T1) (h2 : Ap D T o T2) : T1 = T2 := by
  cases h1 with
  | ins => cases h2; rfl
  | dat => cases h2; rfl
  | @del P c U hU =>
    generalize e : (Op.del (P ++ [c]) : Op α ε) = o at h2
    cases h2 with
    | @del P' c' U' hU' =>
      have : P = P' ∧ c = c' := by simpa using e
      rw [this.1, this.2]
    | _ => cases e
  | @mov P c t g U Z hU =>
    generalize e : (Op.mov (P ++ [c]) t g : Op α ε) = o at h2
    cases h2 with
    | @mov P' c' t' g' U' Z' hU' =>
      have : (P = P' ∧ c = c') ∧ t = t' ∧ g = g' := by simpa using e
      obtain ⟨⟨rfl, rfl⟩, rfl, rfl⟩ := this
      rw [hU] at hU'; cases hU'; rfl
    | _ => cases e
theorem Aps.one {D : Data α ε} {T T' : Tree α} {o : Op α ε} (h : Ap D T o T') : Aps D T [o] T' := .cons h .nil
variable {E : Edits α ε} (hD : ∀ e x, π (E.app e x) = π x)
include hD
def Ends (E : Edits α ε) (T1 T2 : Tree α) (lb la : List (Op α ε)) : Prop := ∃ R, Aps E.toData T1 lb R ∧ Aps E.toData T2 la R
omit hD in
theorem Ends.symm {T1 T2 : Tree α} {lb la : List (Op α ε)} (h : Ends E T1 T2 lb la) : Ends E T2 T1 la lb := let ⟨R, a, b⟩ := h; ⟨R, b, a⟩
variable {T T1 T2 : Tree α} (hu : Uniq π T)
include hu
theorem ends_free {a b : Op α ε} (ha : Ap E.toData T a T1) (hb : Ap E.toData T b T2) (hN : News π T a b) (hF : Free a b) (f : Bool) : Ends E T1 T2 [shifted b a f] [shifted a b (!f)] := by
  obtain ⟨R, h1, h2⟩ := tp_free hD ha hb hu hN hF f
  exact ⟨R, .one h1, .one h2⟩
omit hD hu in
theorem free_of {a b : Op α ε} (hga : ∀ p, Reads b p → ¬ gone a p) (hgb : ∀ p, Reads a p → ¬ gone b p) (h1 : (∀ q t g, a ≠ .mov q t g) ∨ ∀ q t g, b ≠ .mov q t g) (h2 : (∀ p e, a ≠ .dat p e) ∨ ∀ p e, b ≠ .dat p e) : Free a b where
  ab := hga
  ba := hgb
  mm := fun q t g t' g' e e' => by rcases h1 with h | h; exact h _ _ _ e; exact h _ _ _ e'
  cy := fun _ _ _ _ _ _ e e' _ _ => by rcases h1 with h | h; exact h _ _ _ e; exact h _ _ _ e'
  dd := fun _ _ _ e e' => by rcases h2 with h | h; exact h _ _ e; exact h _ _ e'
theorem tp_del {q : Path} {b : Op α ε} {f : Bool} {la lb : List (Op α ε)} (ha : Ap E.toData T (.del q) T1) (hb : Ap E.toData T b T2) (hN : News π T (.del q) b)
    (h1 : beh E b (.del q) f = some lb) (h2 : beh E (.del q) b (!f) = some la) : Ends E T1 T2 lb la := by
  have hne := (path_ne ha).1 _ rfl
  have nomov : ∀ q' t g, (Op.del q : Op α ε) ≠ .mov q' t g := fun _ _ _ e => by cases e
  have nodat : ∀ p e, (Op.del q : Op α ε) ≠ .dat p e := fun _ _ e => by cases e
  by_cases hin : q <+: path b
  · simp only [beh, if_pos hin, Option.some.injEq] at h1
    subst h1
    cases b with
    | ins P g x =>
      simp only [beh, Option.some.injEq] at h2; subst h2
      exact ⟨T1, .nil, .one (row_gone hD ha hb hu hN.fb hin id (fun _ _ _ e => by cases e))⟩
    | dat p e =>
      simp only [beh, Option.some.injEq] at h2; subst h2
      exact ⟨T1, .nil, .one (row_gone hD ha hb hu hN.fb hin id (fun _ _ _ e => by cases e))⟩
    | del q' =>
      simp only [beh] at h2
      by_cases h : q' <+: path (.del q : Op α ε)
      · have e := List.IsPrefix.eq_of_length_le h hin.length_le
        subst e
        rw [if_pos h] at h2; cases h2
        exact ⟨T1, .nil, ha.det hb ▸ .nil⟩
      · rw [if_neg h] at h2; cases h2
        exact ⟨T1, .nil, .one (row_gone hD ha hb hu hN.fb hin h (fun _ _ _ e => by cases e))⟩
    | mov q' t g =>
      simp only [beh, path] at h2 hin
      by_cases h : q <+: q' ∧ q ≠ q' ∧ ¬ q <+: t
      · rw [if_pos h] at h2; cases h2
        exact ⟨T1, .nil, row_taken hD ha hb hu h.1 h.2.1 h.2.2⟩
      · rw [if_neg h] at h2; cases h2
        refine ⟨T1, .nil, .one (row_gone hD ha hb hu hN.fb hin id (fun _ _ _ e => ?_))⟩
        cases e
        by_cases e : q = q'
        · exact .inr e.symm
        · by_cases e' : q <+: t
          · exact .inl e'
          · exact absurd ⟨hin, e, e'⟩ h
  · cases b with
    | ins P g x =>
      simp only [beh, if_neg hin, Option.some.injEq] at h1 h2; subst h1; subst h2
      refine ends_free hD hu ha hb hN (free_of (fun p hp => ?_) (fun _ _ => id) (.inl nomov) (.inl nodat)) f
      rcases hp with rfl | ⟨_, _, e⟩
      · exact hin
      · cases e
    | dat p e =>
      simp only [beh, if_neg hin, Option.some.injEq] at h1 h2; subst h1; subst h2
      refine ends_free hD hu ha hb hN (free_of (fun p hp => ?_) (fun _ _ => id) (.inl nomov) (.inl nodat)) f
      rcases hp with rfl | ⟨_, _, e⟩
      · exact hin
      · cases e
    | del q' =>
      simp only [beh, if_neg hin, Option.some.injEq] at h1; subst h1
      simp only [beh] at h2
      by_cases h : q' <+: path (.del q : Op α ε)
      · rw [if_pos h] at h2; cases h2
        exact ⟨T2, .one (row_gone hD hb ha hu hN.fa h hin (fun _ _ _ e => by cases e)), .nil⟩
      · rw [if_neg h] at h2; cases h2
        refine ends_free hD hu ha hb hN (free_of (fun p hp => ?_) (fun p hp => ?_) (.inl nomov) (.inl nodat)) f
        · rcases hp with rfl | ⟨_, _, e⟩
          · exact hin
          · cases e
        · rcases hp with rfl | ⟨_, _, e⟩
          · exact h
          · cases e
    | mov q' t g =>
      simp only [beh, if_neg hin] at h1
      simp only [beh, path] at h2 hin
      rw [if_neg (fun h => hin h.1)] at h2
      cases h2
      by_cases h : q <+: t
      · rw [if_pos h] at h1; cases h1
        obtain ⟨R, x, y⟩ := row_into hD ha hb hu hin h
        exact ⟨R, .one x, .one y⟩
      · rw [if_neg h] at h1; cases h1
        refine ends_free hD hu ha hb hN (free_of (fun p hp => ?_) (fun _ _ => id) (.inl nomov) (.inl nodat)) f
        rcases hp with rfl | ⟨_, _, e⟩
        · exact hin
        · cases e; exact h
theorem tp_mov {q t q' t' : Path} {g g' : Nat} {f : Bool} {la lb : List (Op α ε)} (ha : Ap E.toData T (.mov q t g) T1) (hb : Ap E.toData T (.mov q' t' g') T2) (hN : News π T (.mov q t g : Op α ε) (.mov q' t' g'))
    (hw : ∀ p X, at? p T = some X → E.leaf X.d = true → X.kids = [])
    (h1 : beh E (.mov q' t' g') (.mov q t g) f = some lb) (h2 : beh E (.mov q t g) (.mov q' t' g') (!f) = some la) : Ends E T1 T2 lb la := by
  simp only [beh] at h1 h2
  by_cases e : q = q'
  · subst e
    simp only [if_true, Option.some.injEq] at h1 h2
    cases f
    · simp only [Bool.not_false, if_true, Bool.false_eq_true, if_false] at h1 h2
      subst h1; subst h2
      exact ⟨T1, .nil, .one (row_same hD hb ha hu)⟩
    · simp only [Bool.not_true, if_true, Bool.false_eq_true, if_false] at h1 h2
      subst h1; subst h2
      exact ⟨T2, .one (row_same hD ha hb hu), .nil⟩
  · rw [if_neg e] at h1; rw [if_neg (fun h => e h.symm)] at h2
    by_cases c : q' <+: t ∧ q <+: t'
    · rw [if_pos c] at h1; rw [if_pos ⟨c.2, c.1⟩] at h2
      cases f
      · simp only [Bool.not_false, if_true, Bool.false_eq_true, if_false, Option.some.injEq] at h1 h2
        subst h1; subst h2
        exact ⟨T1, .nil, .cons (row_undo hD hb hu hw) (.one ha)⟩
      · simp only [Bool.not_true, if_true, Bool.false_eq_true, if_false, Option.some.injEq] at h1 h2
        subst h1; subst h2
        exact ⟨T2, .cons (row_undo hD ha hu hw) (.one hb), .nil⟩
    · rw [if_neg c] at h1; rw [if_neg (fun h => c ⟨h.2, h.1⟩)] at h2
      cases h1; cases h2
      exact ends_free hD hu ha hb hN {
        ab := fun _ _ => id
        ba := fun _ _ => id
        mm := fun _ _ _ _ _ e1 e2 => by cases e1; cases e2; exact e rfl
        cy := fun _ _ _ _ _ _ e1 e2 x y => by cases e1; cases e2; exact c ⟨y, x⟩
        dd := fun _ _ _ e => by cases e } f
omit hD hu in
theorem tp_dat {p : Path} {ea eb : ε} {f : Bool} {la lb : Option ε} (ha : Ap E.toData T (.dat p ea) T1) (hb : Ap E.toData T (.dat p eb) T2) (h1 : E.tr eb ea f = some lb) (h2 : E.tr ea eb (!f) = some la) :
    Ends E T1 T2 (lb.map (Op.dat p)).toList (la.map (Op.dat p)).toList := by
  cases ha with
  | @dat _ _ Z hZ hoa =>
    cases hb with
    | @dat _ _ Z' hZ' hob =>
      rw [hZ] at hZ'; cases hZ'
      obtain ⟨k1, k2, k3⟩ := E.tr_ok _ _ _ _ _ _ hoa hob h1 h2
      have at1 : ∀ e, at? p (dat p (E.app e) T) = some (datK (E.app e) Z) := fun e => by
        have := at?_upd_self (f := datK (E.app e)) hZ []
        rw [List.append_nil] at this; exact this
      cases lb <;> cases la
      · refine ⟨_, .nil, ?_⟩
        have : dat p (E.app ea) T = dat p (E.app eb) T := dat_congr hZ k3
        rw [this]; exact .nil
      · rename_i e
        refine ⟨_, .nil, ?_⟩
        have := Ap.dat (D := E.toData) (at1 eb) (k2 e rfl)
        rw [dat_dat, dat_congr (f := fun x => E.app e (E.app eb x)) (g := E.app ea) hZ (Eq.symm k3)] at this
        exact .one this
      · rename_i e
        refine ⟨_, ?_, .nil⟩
        have := Ap.dat (D := E.toData) (at1 ea) (k1 e rfl)
        rw [dat_dat, dat_congr (f := fun x => E.app e (E.app ea x)) (g := E.app eb) hZ k3] at this
        exact .one this
      · rename_i e e'
        have x := Ap.dat (D := E.toData) (at1 ea) (k1 e rfl)
        have y := Ap.dat (D := E.toData) (at1 eb) (k2 e' rfl)
        rw [dat_dat, dat_congr (f := fun x => E.app e (E.app ea x)) (g := fun x => E.app e' (E.app eb x)) hZ k3] at x
        rw [dat_dat] at y
        exact ⟨_, .one x, .one y⟩
theorem tp1 {a b : Op α ε} {f : Bool} {la lb : List (Op α ε)} (ha : Ap E.toData T a T1) (hb : Ap E.toData T b T2) (hN : News π T a b)
    (hw : ∀ p X, at? p T = some X → E.leaf X.d = true → X.kids = []) (h1 : beh E b a f = some lb) (h2 : beh E a b (!f) = some la) : Ends E T1 T2 lb la := by
  cases a with
  | del q => exact tp_del hD hu ha hb hN h1 h2
  | ins P g x =>
    cases b with
    | del q => exact (tp_del hD hu hb ha hN.symm h2 (by rw [Bool.not_not]; exact h1)).symm
    | ins P' g' x' =>
      cases h1; cases h2
      exact ends_free hD hu ha hb hN (free_of (fun _ _ => id) (fun _ _ => id) (.inl fun _ _ _ e => by cases e) (.inl fun _ _ e => by cases e)) f
    | mov q' t' g' =>
      cases h1; cases h2
      exact ends_free hD hu ha hb hN (free_of (fun _ _ => id) (fun _ _ => id) (.inl fun _ _ _ e => by cases e) (.inl fun _ _ e => by cases e)) f
    | dat p e =>
      cases h1; cases h2
      exact ends_free hD hu ha hb hN (free_of (fun _ _ => id) (fun _ _ => id) (.inl fun _ _ _ e => by cases e) (.inl fun _ _ e => by cases e)) f
  | mov q t g =>
    cases b with
    | del q => exact (tp_del hD hu hb ha hN.symm h2 (by rw [Bool.not_not]; exact h1)).symm
    | ins P' g' x' =>
      cases h1; cases h2
      exact ends_free hD hu ha hb hN (free_of (fun _ _ => id) (fun _ _ => id) (.inr fun _ _ _ e => by cases e) (.inl fun _ _ e => by cases e)) f
    | mov q' t' g' => exact tp_mov hD hu ha hb hN hw h1 h2
    | dat p e =>
      cases h1; cases h2
      exact ends_free hD hu ha hb hN (free_of (fun _ _ => id) (fun _ _ => id) (.inr fun _ _ _ e => by cases e) (.inl fun _ _ e => by cases e)) f
  | dat p e =>
    cases b with
    | del q => exact (tp_del hD hu hb ha hN.symm h2 (by rw [Bool.not_not]; exact h1)).symm
    | ins P' g' x' =>
      cases h1; cases h2
      exact ends_free hD hu ha hb hN (free_of (fun _ _ => id) (fun _ _ => id) (.inl fun _ _ _ e => by cases e) (.inr fun _ _ e => by cases e)) f
    | mov q' t' g' =>
      cases h1; cases h2
      exact ends_free hD hu ha hb hN (free_of (fun _ _ => id) (fun _ _ => id) (.inl fun _ _ _ e => by cases e) (.inr fun _ _ e => by cases e)) f
    | dat p' e' =>
      simp only [beh] at h1 h2
      by_cases ep : p = p'
      · subst ep
        simp only [if_true, Option.map_eq_some_iff] at h1 h2
        obtain ⟨lb', h1, rfl⟩ := h1
        obtain ⟨la', h2, rfl⟩ := h2
        exact tp_dat ha hb h1 h2
      · rw [if_neg ep] at h1; rw [if_neg (fun h => ep h.symm)] at h2
        cases h1; cases h2
        exact ends_free hD hu ha hb hN {
          ab := fun _ _ => id
          ba := fun _ _ => id
          mm := fun _ _ _ _ _ e => by cases e
          cy := fun _ _ _ _ _ _ e => by cases e
          dd := fun _ _ _ e1 e2 => by cases e1; cases e2; exact ep rfl } f
end TP
