import Derived.Orders
import Derived.Test.YtmapfhhdmgmnpaaGreatK03
namespace Go.Ev
open Go
variable {P : Program}
mutual
theorem veq_sound : ∀ u v : Value, veq u v = true → u = v
  | .bool a, .bool b, h => by simp only [veq, beq_iff_eq] at h; rw [h]
  | .int j a, .int k b, h => by simp only [veq, Bool.and_eq_true, decide_eq_true_eq] at h; rw [h.1, h.2]
  | .float j a, .float k b, h => by simp only [veq, Bool.and_eq_true, decide_eq_true_eq] at h; rw [h.1, h.2]
  | .complex j a x, .complex k b y, h => by simp only [veq, Bool.and_eq_true, decide_eq_true_eq] at h; rw [h.1, h.2.1, h.2.2]
  | .chan a, .chan b, h => by simp only [veq, decide_eq_true_eq] at h; rw [h]
  | .string a, .string b, h => by
    simp only [veq, decide_eq_true_eq] at h
    congr 1
    exact ByteArray.ext (Array.ext' h)
  | .pointer a, .pointer b, h => by simp only [veq, decide_eq_true_eq] at h; rw [h]
  | .slice a l c, .slice b m d, h => by simp only [veq, Bool.and_eq_true, decide_eq_true_eq] at h; rw [h.1.1, h.1.2, h.2]
  | .map a, .map b, h => by simp only [veq, decide_eq_true_eq] at h; rw [h]
  | .func f x y, .func g z u, h => by
    simp only [veq, Bool.and_eq_true, decide_eq_true_eq] at h
    rw [h.1.1, veqA_sound x z h.1.2, veqA_sound y u h.2]
  | .nilFunc, .nilFunc, _ => rfl
  | .iface t v, .iface u w, h => by
    simp only [veq, Bool.and_eq_true, decide_eq_true_eq] at h
    rw [h.1, veq_sound v w h.2]
  | .nilIface, .nilIface, _ => rfl
  | .agg x, .agg y, h => by simp only [veq] at h; rw [veqA_sound x y h]
  | .tuple x, .tuple y, h => by simp only [veq] at h; rw [veqA_sound x y h]
theorem veqA_sound : ∀ u v : Array Value, veqA u v = true → u = v
  | ⟨l⟩, ⟨m⟩, h => by simp only [veqA] at h; rw [veqL_sound l m h]
theorem veqL_sound : ∀ u v : List Value, veqL u v = true → u = v
  | [], [], _ => rfl
  | v :: l, w :: m, h => by simp only [veqL, Bool.and_eq_true] at h; rw [veq_sound v w h.1, veqL_sound l m h.2]
end
theorem sub_bit {a m i : Nat} (h : sub a m = true) (hi : a.testBit i = true) : m.testBit i = true := by
  unfold sub at h
  have e : a &&& m = a := Nat.eq_of_beq_eq_true h
  rw [← e, Nat.testBit_and, Bool.and_eq_true] at hi
  exact hi.2
theorem bits_add {t : Trie Nat} {i x y : Nat} (hy : y < 65535) : (∀ j, (bitsAt t y).testBit j = true → (bitsAt (addBit t i x) y).testBit j = true) ∧ (x = y → (bitsAt (addBit t i x) y).testBit i = true) := by
  unfold addBit
  by_cases e : x = y
  · subst e
    have h : (t.set 16 x (bitsAt t x ||| 2 ^ i)).get x = some (bitsAt t x ||| 2 ^ i) := Trie.get_set_same _ _ _ _ (by omega)
    have h2 : bitsAt (t.set 16 x (bitsAt t x ||| 2 ^ i)) x = bitsAt t x ||| 2 ^ i := by show (Option.getD _ _) = _; rw [h]; rfl
    rw [h2]
    exact ⟨fun j hj => by simp [Nat.testBit_or, hj], fun _ => by simp [Nat.testBit_or]⟩
  · have h : (t.set 16 x (bitsAt t x ||| 2 ^ i)).get y = t.get y := Trie.get_set_other _ _ _ _ _ e
    have h2 : bitsAt (t.set 16 x (bitsAt t x ||| 2 ^ i)) y = bitsAt t y := by show (Option.getD _ _) = Option.getD _ _; rw [h]
    rw [h2]
    exact ⟨fun j hj => hj, fun h => absurd h e⟩
theorem bits_fold {i y : Nat} (hy : y < 65535) : ∀ (ls : List Tmp) (t : Trie Nat), (∀ j, (bitsAt t y).testBit j = true → (bitsAt (ls.foldl (fun t x => addBit t i x) t) y).testBit j = true) ∧ (y ∈ ls → (bitsAt (ls.foldl (fun t x => addBit t i x) t) y).testBit i = true)
  | [], t => ⟨fun _ h => h, by simp⟩
  | x :: ls, t => by
    obtain ⟨h1, h2⟩ := bits_add (t := t) (i := i) (x := x) hy
    obtain ⟨h3, h4⟩ := bits_fold hy ls (addBit t i x)
    refine ⟨fun j hj => h3 j (h1 j hj), fun hm => ?_⟩
    rcases List.mem_cons.1 hm with e | hm
    · exact h3 i (h2 e.symm)
    · exact h4 hm
variable {R : Reg P}
theorem Reg.OK.seen (h : R.OK) : ∀ k, k ≤ R.ops.length → ∀ j, j < k → ∀ t, t < 65535 → ((R.op j).dst = some t → (bitsAt (R.st k).sn.w t).testBit j = true) ∧ (t ∈ looks R.ops (R.op j) → (bitsAt (R.st k).sn.r t).testBit j = true)
  | 0, _, j, hj, _, _ => by omega
  | k + 1, hk, j, hj, t, ht => by
    have h3 := (drawOne_some (h.step k (by omega))).2.2.2.2.1
    rw [h3]
    unfold seenOf
    refine ⟨fun hd => ?_, fun hl => ?_⟩
    · show (bitsAt (match (R.op k).dst with | some d => addBit (R.st k).sn.w k d | none => (R.st k).sn.w) t).testBit j = true
      by_cases e : j = k
      · subst e; rw [hd]; exact (bits_add ht).2 rfl
      · have := (h.seen k (by omega) j (by omega) t ht).1 hd
        split
        · exact (bits_add ht).1 j this
        · exact this
    · show (bitsAt ((looks R.ops (R.op k)).foldl (fun t x => addBit t k x) (R.st k).sn.r) t).testBit j = true
      by_cases e : j = k
      · subst e; exact (bits_fold ht _ _).2 hl
      · exact (bits_fold ht _ _).1 j ((h.seen k (by omega) j (by omega) t ht).2 hl)
theorem Reg.OK.temps (h : R.OK) {i j t : Nat} (hij : i < j) (hj : j < R.ops.length) (ht : t < 65535) :
    ((R.op i).dst = some t → t ∈ looks R.ops (R.op j) → (R.M j).testBit i = true) ∧ ((R.op i).dst = some t → (R.op j).dst = some t → (R.M j).testBit i = true) ∧ (t ∈ looks R.ops (R.op i) → (R.op j).dst = some t → (R.M j).testBit i = true) := by
  have hok := (drawOne_some (h.step j hj)).2.1
  unfold tempsOk at hok
  simp only [Bool.and_eq_true, List.all_eq_true] at hok
  have hs := h.seen j (by omega) i hij t ht
  refine ⟨fun hd hl => sub_bit (hok.1 t hl) (hs.1 hd), fun hd hd' => ?_, fun hl hd' => ?_⟩
  · have := hok.2
    rw [hd'] at this
    simp only [Bool.and_eq_true] at this
    exact sub_bit this.1 (hs.1 hd)
  · have := hok.2
    rw [hd'] at this
    simp only [Bool.and_eq_true] at this
    exact sub_bit this.2 (hs.2 hl)
def Reg.turner (R : Reg P) (i : Nat) : Prop := i < R.ops.length ∧ wants (R.tm i) R.ops (R.op i) = true ∧ kindOf (R.op i) = .turns
def Reg.mem (R : Reg P) (i : Nat) : AS := (R.st i).hs.headD ⟨.nil, 0, []⟩
theorem Reg.OK.mems (h : R.OK) {k : Nat} (hk : k < R.ops.length) :
    (R.turner k ∧ (∃ A1, (R.st (k + 1)).hs = A1 :: (R.st k).hs) ∧ (R.st (k + 1)).ts = k :: (R.st k).ts ∧ ∀ t r, (R.st k).ts = t :: r → (R.M k).testBit t = true) ∨ (¬ R.turner k ∧ (R.st (k + 1)).hs = (R.st k).hs ∧ (R.st (k + 1)).ts = (R.st k).ts) := by
  obtain ⟨_, _, _, _, _, S1, h1, _, h2, h3, _⟩ := drawOne_some (h.step k hk)
  obtain ⟨_, _, A, hs, hh, hor⟩ := dDo_some h1
  rw [h2, h3]
  rcases hor with ⟨hw, hkd, rfl⟩ | ⟨hw, hd⟩
  · exact .inr ⟨fun ht => (by have := ht.2.1; unfold Reg.tm at this; rw [hw] at this; cases this), rfl, rfl⟩
  · cases hd with
    | news n hkd _ _ e1 e2 _ => exact .inr ⟨fun ht => (by rw [ht.2.2] at hkd; cases hkd), e1, e2⟩
    | still v A1 hkd _ _ e1 e2 _ => exact .inr ⟨fun ht => (by rw [ht.2.2] at hkd; cases hkd), e1, e2⟩
    | reads v A1 hkd _ _ e1 e2 _ _ => exact .inr ⟨fun ht => (by rw [ht.2.2] at hkd; cases hkd), e1, e2⟩
    | turns v A1 hkd _ _ e1 e2 e3 _ _ => exact .inl ⟨⟨hk, hw, hkd⟩, ⟨_, e1⟩, e2, e3⟩
theorem Reg.OK.hts (h : R.OK) : ∀ k, k ≤ R.ops.length → (R.st k).hs = R.mem k :: (R.st k).ts.map R.mem ∧ (∀ j, j ∈ (R.st k).ts ↔ j < k ∧ R.turner j) ∧ (R.st k).ts.Pairwise (fun a b => b < a ∧ (R.M a).testBit b = true)
  | 0, _ => by
    obtain ⟨A, hA⟩ := h.hs
    refine ⟨?_, fun j => ?_, ?_⟩
    · rw [h.ts]; unfold Reg.mem; rw [hA]; rfl
    · rw [h.ts]; simp
    · rw [h.ts]; exact List.Pairwise.nil
  | k + 1, hk => by
    obtain ⟨h1, h2, h3⟩ := h.hts k (by omega)
    rcases h.mems (k := k) (by omega) with ⟨ht, ⟨A1, e1⟩, e2, e3⟩ | ⟨ht, e1, e2⟩
    · refine ⟨?_, fun j => ?_, ?_⟩
      · have : R.mem (k + 1) = A1 := by unfold Reg.mem; rw [e1]; rfl
        rw [this, e1, e2, h1]; rfl
      · rw [e2, List.mem_cons, h2]
        constructor
        · rintro (rfl | ⟨hj, htj⟩)
          · exact ⟨by omega, ht⟩
          · exact ⟨by omega, htj⟩
        · rintro ⟨hj, htj⟩
          by_cases e : j = k
          · exact .inl e
          · exact .inr ⟨by omega, htj⟩
      · rw [e2, List.pairwise_cons]
        refine ⟨fun b hb => ⟨((h2 b).1 hb).1, ?_⟩, h3⟩
        cases hts : (R.st k).ts with
        | nil => rw [hts] at hb; simp at hb
        | cons t r =>
          have hbt := e3 t r hts
          rw [hts] at hb h3
          rcases List.mem_cons.1 hb with rfl | hb
          · exact hbt
          · have := (List.pairwise_cons.1 h3).1 b hb
            exact ((h.masks k (by omega)).2 t hbt).2 b this.2
    · have hm : R.mem (k + 1) = R.mem k := by unfold Reg.mem; rw [e1]
      refine ⟨by rw [e1, e2, hm, h1], fun j => ?_, by rw [e2]; exact h3⟩
      rw [e2, h2]
      constructor
      · rintro ⟨hj, htj⟩; exact ⟨by omega, htj⟩
      · rintro ⟨hj, htj⟩
        have : j ≠ k := fun e => ht (by rw [← e]; exact htj)
        exact ⟨by omega, htj⟩
theorem Reg.OK.order (h : R.OK) {i j : Nat} (hi : R.turner i) (hj : R.turner j) (hij : i < j) : (R.M j).testBit i = true := by
  have := h.hts (j + 1) (by have := hj.1; omega)
  have hts : (R.st (j + 1)).ts = j :: (R.st j).ts := by
    rcases h.mems hj.1 with ⟨_, _, e2, _⟩ | ⟨hn, _⟩
    · exact e2
    · exact absurd hj hn
  rw [hts] at this
  exact ((List.pairwise_cons.1 this.2.2).1 i (((h.hts j (by have := hj.1; omega)).2.1 i).2 ⟨hij, hi⟩)).2
theorem Reg.OK.mem_same (h : R.OK) {k l : Nat} (hkl : k ≤ l) (hl : l ≤ R.ops.length) (hn : ∀ j, k ≤ j → j < l → ¬ R.turner j) : R.mem l = R.mem k := by
  induction l with
  | zero => rw [show k = 0 by omega]
  | succ l ih =>
    by_cases e : k = l + 1
    · rw [e]
    · have h1 := ih (by omega) (by omega) (fun j h1 h2 => hn j h1 (by omega))
      rcases h.mems (k := l) (by omega) with ⟨ht, _⟩ | ⟨_, e1, _⟩
      · exact absurd ht (hn l (by omega) (by omega))
      · rw [← h1]; unfold Reg.mem; rw [e1]
end Go.Ev
namespace Go.Ev
open Go
variable {P : Program}
section
variable {A B : AS}
theorem cellsAt_h (h : B.h = A.h) (n off k : Nat) : cellsAt B n off k = cellsAt A n off k := by unfold cellsAt; rw [h]
theorem cellsFrom_h (h : B.h = A.h) (p : Value) (k : Nat) : cellsFrom B p k = cellsFrom A p k := by unfold cellsFrom; simp only [cellsAt_h h]
theorem sliceCells_h (h : B.h = A.h) (p : Value) (k : Nat) : sliceCells B p k = sliceCells A p k := by unfold sliceCells; simp only [cellsAt_h h]
theorem aload_h (h : B.h = A.h) (t : TypeId) (p : Value) : aload P B t p = aload P A t p := by unfold aload; simp only [cellsFrom_h h]
theorem mapAt_h (h : B.h = A.h) (x : Value) : mapAt B x = mapAt A x := by unfold mapAt; rw [h]
theorem alookup_h (h : B.h = A.h) (t : TypeId) (x ix : Value) (ok : Bool) : alookup P B t x ix ok = alookup P A t x ix ok := by unfold alookup; simp only [mapAt_h h]
theorem aconvert_h (h : B.h = A.h) (s d : TypeId) (x : Value) : aconvert P B s d x = aconvert P A s d x := by unfold aconvert; simp only [sliceCells_h h]
theorem still1_map (r : Option Value) : still1 B r = (still1 A r).map fun p => (p.1, B) := by cases r <;> rfl
theorem aBare_map (tm : Trie Value) (o : Oper) : aBare P tm o B = (aBare P tm o A).map fun p => (p.1, B) := by
  unfold aBare
  split
  · split
    · split <;> rfl
    · rfl
  · rfl
theorem orBare_map (tm : Trie Value) (o : Oper) (r : Option Value) : orBare P tm o B r = (orBare P tm o A r).map fun p => (p.1, B) := by
  cases r with
  | none => exact aBare_map tm o
  | some v => rfl
theorem aop_map {tm : Trie Value} {o : Oper} (hv : isVal o = true) (hB : kindOf o = .still ∨ B.h = A.h) : aop P tm o B = (aop P tm o A).map fun p => (p.1, B) := by
  have hh : kindOf o = .reads → B.h = A.h := fun hk => by
    rcases hB with h | h
    · rw [hk] at h; cases h
    · exact h
  have kO := @orBare_map P A B tm o
  have kB := @aBare_map P A B tm o
  obtain ⟨dst, op, type, pos, after, guard⟩ := o
  unfold aop
  cases op with
  | move x => rfl
  | assign x => rfl
  | pick c a b => simp only [aopOf, aPick]; split <;> rfl
  | build t parts => exact still1_map _
  | load t a => simp only [aopOf]; rw [aload_h (hh rfl)]; exact still1_map _
  | fieldAddr s x f => exact still1_map _
  | indexAddr t x ix => exact still1_map _
  | field t x f => exact still1_map _
  | index t x ix => exact kO _
  | lookup t x ix ok => simp only [aopOf]; rw [alookup_h (hh rfl)]; exact still1_map _
  | convert src dst x => simp only [aopOf]; rw [aconvert_h (hh rfl)]; exact kO _
  | unOp op t x => exact kB
  | binOp op t x y yt => exact kO _
  | slice t x lo hi mx => exact kO _
  | nilCheck x =>
    simp only [aopOf, aNil]
    split
    · rfl
    · rfl
    · split <;> rfl
  | extract t ix =>
    simp only [aopOf, aExtract]
    split
    · exact still1_map _
    · rfl
  | makeFunc fn first captured => simp only [aopOf, aFunc]; split <;> rfl
  | makeInterface t x => simp only [aopOf, aIface]; split <;> rfl
  | call c =>
    obtain ⟨callee, args, argTypes⟩ := c
    cases callee with
    | value f => rfl
    | invoke r m => rfl
    | builtin b =>
      cases b <;> (try rfl)
      case append => simp [isVal] at hv
      case copy => simp [isVal] at hv
      case max => exact kB
      case min => exact kB
      case len => exact kO _
      case cap => exact still1_map _
  | alloc t => simp [isVal] at hv
  | box t x => simp [isVal] at hv
  | buildSlice t l ps => simp [isVal] at hv
  | store t a x => simp [isVal] at hv
  | makeMap t r => simp [isVal] at hv
  | mapUpdate t m k x => simp [isVal] at hv
  | _ => rfl
end
theorem kind_val {o : Oper} (h : kindOf o = .still ∨ kindOf o = .reads) : isVal o = true := by
  obtain ⟨dst, op, type, pos, after, guard⟩ := o
  cases op with
  | call c =>
    obtain ⟨callee, args, argTypes⟩ := c
    cases callee with
    | builtin b => cases b <;> first | rfl | (rcases h with h | h <;> cases h)
    | _ => rfl
  | _ => first | rfl | (rcases h with h | h <;> cases h)
theorem kind_aop {c : Cfg} {rc : Rec} {round : Bool} {tm : Trie Value} {o : Oper} {A A1 : AS} {v : Value} {d : Option Deferred} (hk : kindOf o = .still ∨ kindOf o = .reads) (h : evOper P c rc round tm o A = some (v, A1, d)) :
    aop P tm o A = some (v, A1) := by
  obtain ⟨_, h, _⟩ := evOper_some h
  obtain ⟨dst, op, type, pos, after, guard⟩ := o
  unfold evOp1 at h
  cases op with
  | call cl =>
    obtain ⟨callee, args, argTypes⟩ := cl
    cases callee with
    | value f => rcases hk with h | h <;> cases h
    | invoke r m => simp [evCall] at h
    | builtin b =>
      have hr : isRecover b = false := by cases b <;> first | rfl | (rcases hk with h | h <;> cases h)
      have h' : (if isRecover b then (if round then none else some (.nilIface, A, none)) else noD (aBuiltin P tm ⟨dst, .call ⟨.builtin b, args, argTypes⟩, type, pos, after, guard⟩ b ⟨.builtin b, args, argTypes⟩ A)) = some (v, A1, d) := h
      rw [if_neg (by rw [hr]; simp)] at h'
      exact (noD_some h').1
  | defer cl => rcases hk with h | h <;> cases h
  | _ => exact (noD_some h).1
theorem still_some {pend : List Nat} {tm : Trie Value} {o : Oper} {v : Value} {A : AS} (h : still P pend tm o v A = true) : ∃ A2, aop P tm o { A with pend := pend } = some (v, A2) := by
  unfold still at h
  split at h
  · rename_i u A2 hu
    rw [veq_sound _ _ h] at hu
    exact ⟨A2, hu⟩
  · cases h
theorem again_some {pend : List Nat} {m : Nat} {A : AS} : ∀ {rs : List (Nat × Oper × Trie Value × Value)}, again P pend m A rs = true → ∀ j o tm u, (j, o, tm, u) ∈ rs → m.testBit j = true ∨ still P pend tm o u A = true
  | [], _, j, o, tm, u, hm => by simp at hm
  | (j', o', tm', u') :: rs, h, j, o, tm, u, hm => by
    simp only [again, Bool.and_eq_true, Bool.or_eq_true] at h
    rcases List.mem_cons.1 hm with e | hm
    · simp only [Prod.mk.injEq] at e; obtain ⟨rfl, rfl, rfl, rfl⟩ := e; exact h.1
    · exact again_some h.2 j o tm u hm
variable {R : Reg P}
theorem Reg.OK.reads (h : R.OK) {i : Nat} (hi : i < R.ops.length) (hk : kindOf (R.op i) = .reads) (hw : wants (R.tm i) R.ops (R.op i) = true) :
    ∃ v A1, evOper P R.c (R.rc i) R.round (R.tm i) (R.op i) { R.mem i with pend := pends (R.M i) R.ids 0 ++ R.base } = some (v, A1, none) ∧ R.tm (i + 1) = putD R.ns (R.tm i) (R.op i).dst v ∧
      ∀ k, k ≤ R.ops.length → (∀ j, R.turner j → (R.M i).testBit j = true → j < k) → (∀ j, R.turner j → (R.M j).testBit i = true → k ≤ j) → ∃ A2 l, aop P (R.tm i) (R.op i) { R.mem k with pend := l } = some (v, A2) := by
  obtain ⟨_, _, _, _, _, S1, h1, h2, h3, h4, h5⟩ := drawOne_some (h.step i hi)
  obtain ⟨_, _, A, hs, hh, hor⟩ := dDo_some h1
  rcases hor with ⟨hw', _, _⟩ | ⟨_, hd⟩
  · exact absurd hw (by unfold Reg.tm; rw [hw']; simp)
  cases hd with
  | news n hkd => rw [hk] at hkd; cases hkd
  | still v A1 hkd => rw [hk] at hkd; cases hkd
  | turns v A1 hkd => rw [hk] at hkd; cases hkd
  | reads v A1 hkd he e1 e2 e3 hall e4 =>
    have hmem : R.mem i = A := by unfold Reg.mem; rw [hh]; rfl
    have hhs : hs = (R.st i).ts.map R.mem := by
      have := (h.hts i (by omega)).1
      rw [hh] at this; exact (List.cons.inj this).2
    refine ⟨v, A1, by rw [hmem]; exact he, by show (R.st (i + 1)).tm = _; rw [h2, e1]; rfl, fun k hkN hlo hhi => ?_⟩
    by_cases hki : k ≤ i
    ·
      by_cases hex : ∃ j, k ≤ j ∧ j < i ∧ R.turner j
      ·
        have hleast : ∃ t, k ≤ t ∧ t < i ∧ R.turner t ∧ ∀ j, k ≤ j → j < t → ¬ R.turner j := by
          obtain ⟨j, hj⟩ := hex
          induction j using Nat.strongRecOn with
          | _ j ih =>
            by_cases h6 : ∃ l, k ≤ l ∧ l < j ∧ R.turner l
            · obtain ⟨l, h7, h8, h9⟩ := h6; exact ih l h8 ⟨h7, by omega, h9⟩
            · exact ⟨j, hj.1, hj.2.1, hj.2.2, fun l h7 h8 h9 => h6 ⟨l, h7, h8, h9⟩⟩
        obtain ⟨t, h6, h7, h8, h9⟩ := hleast
        rw [show R.mem k = R.mem t from (h.mem_same h6 (by omega) h9).symm]
        have hts := h.hts i (by omega)
        have hall' := List.all_eq_true.1 hall
        rw [hhs, ← List.map_take] at hall'
        have htmem : t ∈ (R.st i).ts.takeWhile fun t => !(R.M i).testBit t := by
          have hin : t ∈ (R.st i).ts := (hts.2.1 t).2 ⟨h7, h8⟩
          have gen : ∀ l : List Nat, t ∈ l → l.Pairwise (fun a b => b < a ∧ (R.M a).testBit b = true) → (∀ x ∈ l, R.turner x) → t ∈ l.takeWhile fun t => !(R.M i).testBit t := by
            intro l
            induction l with
            | nil => intro hm; simp at hm
            | cons x l ih =>
              intro hm hp hx
              rw [List.pairwise_cons] at hp
              have hxt : t ≤ x := by
                rcases List.mem_cons.1 hm with e | hm
                · omega
                · exact Nat.le_of_lt (hp.1 t hm).1
              have hnot : (R.M i).testBit x = false := by
                cases hb : (R.M i).testBit x with
                | false => rfl
                | true => have := hlo x (hx x (by simp)) hb; omega
              rw [List.takeWhile_cons_of_pos (by simp [hnot])]
              rcases List.mem_cons.1 hm with e | hm
              · simp [e]
              · exact List.mem_cons_of_mem _ (ih hm hp.2 fun y hy => hx y (by simp [hy]))
          exact gen _ hin hts.2.2 fun x hx => ((hts.2.1 x).1 hx).2
        have hpre : (R.st i).ts.take ((R.st i).ts.takeWhile fun t => !(R.M i).testBit t).length = (R.st i).ts.takeWhile fun t => !(R.M i).testBit t := (List.prefix_iff_eq_take.1 (List.takeWhile_prefix _)).symm
        have hst := hall' (R.mem t) (by
          have hM : maskOf i (R.st i).ms (R.op i).after.toList 0 = R.M i := rfl
          rw [hM, hpre]
          exact List.mem_map_of_mem htmem)
        obtain ⟨A2, hA2⟩ := still_some hst
        exact ⟨A2, _, hA2⟩
      · rw [show R.mem k = R.mem i from (h.mem_same hki (by omega) fun j h6 h7 h8 => hex ⟨j, h6, h7, h8⟩).symm]
        exact ⟨A1, _, by rw [hmem]; exact kind_aop (.inr hk) he⟩
    ·
      by_cases hex : ∃ j, i ≤ j ∧ j < k ∧ R.turner j
      · have hlast : ∃ t, i ≤ t ∧ t < k ∧ R.turner t ∧ ∀ j, t < j → j < k → ¬ R.turner j := by
          obtain ⟨j, hj⟩ := hex
          have : ∀ n j, k - j ≤ n → i ≤ j ∧ j < k ∧ R.turner j → ∃ t, i ≤ t ∧ t < k ∧ R.turner t ∧ ∀ j, t < j → j < k → ¬ R.turner j := by
            intro n
            induction n with
            | zero => intro j h6 h7; omega
            | succ n ih =>
              intro j h6 h7
              by_cases h8 : ∃ l, j < l ∧ l < k ∧ R.turner l
              · obtain ⟨l, h9, h10, h11⟩ := h8; exact ih l (by omega) ⟨by omega, h10, h11⟩
              · exact ⟨j, h7.1, h7.2.1, h7.2.2, fun l h9 h10 h11 => h8 ⟨l, h9, h10, h11⟩⟩
          exact this _ j (Nat.le_refl _) hj
        obtain ⟨t, h6, h7, h8, h9⟩ := hlast
        have hit : i < t := by
          rcases Nat.lt_or_ge i t with h10 | h10
          · exact h10
          · have : t = i := by omega
            subst this; have := h8.2.2; rw [hk] at this; cases this
        have hnb : (R.M t).testBit i = false := by
          cases hb : (R.M t).testBit i with
          | false => rfl
          | true => have := hhi t h8 hb; omega
        have hrec : ∀ q, i < q → q ≤ t → (i, R.op i, R.tm i, v) ∈ (R.st q).rs := by
          intro q
          induction q with
          | zero => intro h10; omega
          | succ q ih =>
            intro h10 h11
            by_cases hq : q = i
            · subst hq
              rw [h5, e4]; simp [Reg.tm]
            · have hin := ih (by omega) (by omega)
              obtain ⟨_, _, _, _, _, S2, g1, g2, g3, g4, g5⟩ := drawOne_some (h.step q (by omega))
              obtain ⟨_, _, A', hs', hh', hor'⟩ := dDo_some g1
              rw [g5]
              rcases hor' with ⟨_, _, rfl⟩ | ⟨hwq, hd'⟩
              · exact hin
              · cases hd' with
                | news n _ _ _ _ _ e => rw [e]; exact hin
                | still v' A1' _ _ _ _ _ e => rw [e]; exact hin
                | reads v' A1' _ _ _ _ _ _ e => rw [e]; exact List.mem_cons_of_mem _ hin
                | turns v' A1' hkq _ _ _ _ _ _ e =>
                  rw [e, List.mem_filter]
                  refine ⟨hin, ?_⟩
                  have hM : maskOf q (R.st q).ms (R.op q).after.toList 0 = R.M q := rfl
                  rw [hM]
                  cases hb : (R.M q).testBit i with
                  | false => rfl
                  | true =>
                    have htq : R.turner q := ⟨by omega, hwq, hkq⟩
                    have h12 := h.order htq h8 (by omega)
                    have := ((h.masks t h8.1).2 q h12).2 i hb
                    rw [hnb] at this; cases this
        have hin := hrec t hit (Nat.le_refl _)
        obtain ⟨_, _, _, _, _, S2, g1, g2, g3, g4, g5⟩ := drawOne_some (h.step t h8.1)
        obtain ⟨_, _, A', hs', hh', hor'⟩ := dDo_some g1
        rcases hor' with ⟨hwq, _, _⟩ | ⟨_, hd'⟩
        · have := h8.2.1; unfold Reg.tm at this; rw [hwq] at this; cases this
        · cases hd' with
          | news n hkd => rw [h8.2.2] at hkd; cases hkd
          | still v' A1' hkd => rw [h8.2.2] at hkd; cases hkd
          | reads v' A1' hkd => rw [h8.2.2] at hkd; cases hkd
          | turns v' A1' hkq _ _ ehs _ _ hag _ =>
            have hmt : R.mem k = { A1' with pend := R.base } := by
              rw [h.mem_same (k := t + 1) (by omega) hkN fun j h10 h11 => h9 j (by omega) h11]
              unfold Reg.mem; rw [g3, ehs]; rfl
            rcases again_some hag _ _ _ _ hin with hb | hst
            · have hM : maskOf t (R.st t).ms (R.op t).after.toList 0 = R.M t := rfl
              rw [hM, hnb] at hb; cases hb
            · obtain ⟨A2, hA2⟩ := still_some hst
              exact ⟨A2, _, by rw [hmt]; exact hA2⟩
      · rw [h.mem_same (k := i) (by omega) hkN fun j h6 h7 h8 => hex ⟨j, h6, h7, h8⟩]
        exact ⟨A1, _, by rw [hmem]; exact kind_aop (.inr hk) he⟩
end Go.Ev
namespace Go.Ev
open Go
variable {P : Program} {φ : Rn} {w : World} {A : AS}
theorem rowN_ok : A.ok rowN = true := by rw [AS.ok_iff]; exact .inr (by decide)
theorem ptrN_ok : A.ok ptrN = true := by rw [AS.ok_iff]; exact .inr (by decide)
theorem frow_ok {n : Nat} {cs : List Value} (h : vokL A.ok cs = true) : vok A.ok (frow n cs) = true := by
  simp only [frow, vok, vokA, rowN_ok, h, vokL, Bool.and_self]
theorem fptr_ok {n : Nat} {cs : List Value} (h : vokL A.ok cs = true) : vok A.ok (fptr n cs) = true := by
  simp only [fptr, vok, vokA, ptrN_ok, h, vokL, Bool.and_self]
theorem fptr_vok {ok : Nat → Bool} {n : Nat} {cs : List Value} (h : vok ok (fptr n cs) = true) : vokL ok cs = true := by
  simp only [fptr, vok, vokA, Bool.and_eq_true] at h; exact h.2.1
theorem vokA_toList {ok : Nat → Bool} {a : Array Value} : vokA ok a = vokL ok a.toList := by cases a; rfl
theorem cellsFrom_vok (hR : Rel φ A w) {p : Value} (ho : vok A.ok p = true) {k : Nat} {cs : List Value} (h : cellsFrom A p k = some cs) : vokL A.ok cs = true := by
  unfold cellsFrom at h
  split at h
  · rename_i a ha
    rw [(addr_some ha).1] at ho
    exact cellsAt_vok hR ho h
  · split at h
    · rename_i hp
      rw [ptrOf_some hp] at ho
      exact part_vok h (fptr_vok ho)
    · cases h
theorem aload_vok (hR : Rel φ A w) {t : TypeId} {p v : Value} (ho : vok A.ok p = true) (h : aload P A t p = some v) : vok A.ok v = true := by
  unfold aload at h
  split at h
  · split at h
    · unfold aggOf at h
      split at h
      · rename_i cs hc
        simp only [Option.some.injEq] at h; subst h
        exact cellsFrom_vok hR ho hc
      · cases h
    · cases h
  · have := cellsFrom_vok hR ho (one_some h)
    simpa [vokL] using this
  · cases h
theorem ptrAdd_vok {x v : Value} {k : Nat} (ho : vok A.ok x = true) (h : ptrAdd x k = some v) : vok A.ok v = true := by
  unfold ptrAdd at h
  split at h
  · rename_i a ha
    simp only [Option.some.injEq] at h; subst h
    obtain ⟨rfl, hs⟩ := addr_some ha
    rw [add_off a k hs]; exact ho
  · split at h
    · rename_i hp
      simp only [Option.some.injEq] at h; subst h
      rw [ptrOf_some hp] at ho
      exact fptr_ok (fptr_vok ho)
    · cases h
theorem aslice_vok {a : Addr} {size len cap : Nat} {lo hi mx : Option Value} {v : Value} (ho : A.ok a.block = true) (h : aslice a size len cap lo hi mx = some v) : vok A.ok v = true := by
  have hb : ∀ k, (a.add k).block = a.block := fun k => by unfold Addr.add; split <;> rfl
  unfold aslice at h
  split at h
  · cases h
  · simp only at h
    repeat' split at h
    all_goals first
      | (cases h; done)
      | (simp only [Option.some.injEq] at h; subst h; exact frow_ok rfl)
      | (simp only [Option.some.injEq] at h; subst h; simp only [vok]; first | exact ho | (rw [hb]; exact ho) | (split <;> first | exact ho | (rw [hb]; exact ho)))
theorem asliceAt_vok {t : TypeId} {x v : Value} {lo hi mx : Option Value} (ho : vok A.ok x = true) (h : asliceAt P t x lo hi mx = some v) : vok A.ok v = true := by
  unfold asliceAt at h
  split at h
  · split at h
    · rename_i a s ha hs
      split at h
      · rw [(addr_some ha).1] at ho; exact aslice_vok ho h
      · cases h
    · cases h
  · split at h
    · rename_i a n elem ha hu
      split at h
      · split at h
        · rw [(addr_some ha).1] at ho; exact aslice_vok ho h
        · cases h
      · cases h
    · cases h
  · split at h
    · split at h
      · exact aslice_vok ho h
      · split at h
        · rename_i n cs hr
          rw [rowOf_some hr] at ho
          unfold frSlice at h
          split at h
          · cases h
          · split at h
            · split at h
              · obtain ⟨cs', hp, rfl⟩ := Option.map_eq_some_iff.1 h
                exact frow_ok (part_vok hp (frow_vok ho))
              · cases h
            · cases h
        · cases h
    · cases h
  · cases h
theorem aindexAt_vok {t : TypeId} {x ix v : Value} (ho : vok A.ok x = true) (h : aindexAt P t x ix = some v) : vok A.ok v = true := by
  unfold aindexAt at h
  split at h
  · split at h
    · split at h
      · exact ptrAdd_vok ho h
      · cases h
    · cases h
  · split at h
    · split at h
      · rename_i a len cap
        split at h
        · rename_i hc
          simp only [Option.some.injEq] at h; subst h
          simp only [vok]; rw [add_off _ _ hc.1]; exact ho
        · cases h
      · split at h
        · rename_i n cs hr
          split at h
          · simp only [Option.some.injEq] at h; subst h
            rw [rowOf_some hr] at ho
            exact fptr_ok (frow_vok ho)
          · cases h
        · cases h
    · cases h
  · cases h
theorem apart_vok {ok : Nat → Bool} {t : TypeId} {cs : Array Value} {off : Nat} {v : Value} (hc : vokL ok cs.toList = true) (h : apart P t cs off = some v) : vok ok v = true := by
  unfold apart at h
  split at h
  · split at h
    · simp only [Option.some.injEq] at h; subst h
      simp only [vok, vokA_toList]
      rw [vokL_mem] at hc ⊢
      intro x hx
      rw [Array.toList_extract, List.extract_eq_take_drop] at hx
      exact hc x (List.mem_of_mem_drop (List.mem_of_mem_take hx))
    · cases h
  · exact vokL_mem.1 hc v (List.mem_of_getElem? (show cs.toList[off]? = some v by simpa using h))
  · cases h
theorem alookup_vok (hR : Rel φ A w) {t : TypeId} {x ix v : Value} {ok : Bool} (ho : vok A.ok x = true) (h : alookup P A t x ix ok = some v) : vok A.ok v = true := by
  unfold alookup at h
  split at h
  · rename_i key elem r es clock hu hm
    have hwf : ∀ e ∈ es, vok A.ok e.val = true := by
      unfold mapAt at hm
      split at hm
      · rename_i r'
        split at hm
        · rename_i es' clock' hg
          simp only [Option.some.injEq, Prod.mk.injEq] at hm
          obtain ⟨rfl, rfl, rfl⟩ := hm
          have := hR.wf _ _ hg (hR.toObj.of_ok hg ho).2
          simp only [abok, List.all_eq_true, Bool.and_eq_true] at this
          exact fun e he => (this e he).2
        · cases hm
      · cases hm
    split at h
    · split at h
      · split at h
        · rename_i v' b hf
          simp only [Option.some.injEq] at h
          have hv' : vok A.ok v' = true := by
            unfold found at hf
            split at hf
            · rename_i j u hfn
              simp only [Option.some.injEq, Prod.mk.injEq] at hf
              obtain ⟨rfl, rfl⟩ := hf
              have gen : ∀ (d : TypeDesc) (l : List MapEntry) (i : Nat), (∀ e ∈ l, vok A.ok e.val = true) → Instr.findNow d ix l i = some (some (j, u)) → vok A.ok u = true := by
                intro d l
                induction l with
                | nil => intro i _ h; simp [Instr.findNow] at h
                | cons e l ih =>
                  intro i hl h
                  simp only [Instr.findNow] at h
                  split at h
                  · simp only [Option.some.injEq, Prod.mk.injEq] at h
                    rw [← h.2]; exact hl e (by simp)
                  · exact ih _ (fun e he => hl e (by simp [he])) h
                  · cases h
              exact gen _ _ _ hwf hfn
            · split at hf
              · rename_i z hz
                simp only [Option.some.injEq, Prod.mk.injEq] at hf
                obtain ⟨rfl, rfl⟩ := hf
                exact bare_ok (zeroOf_ok (w := w) hz).2.1
              · cases hf
            · cases hf
          subst h
          cases ok with
          | false => exact hv'
          | true => simp only [if_true, vok, vokA, vokL, hv', Bool.and_self]
        · cases h
      · cases h
    · cases h
  · cases h
theorem aBin_bare {op : BinOp} {t : TypeId} {x y v : Value} (h : aBin P op t x y = some v) : bare v = true := by
  unfold aBin at h
  split at h
  · split at h
    · rename_i hb; simp only [Option.some.injEq] at h; subst h; exact hb
    · cases h
  · split at h
    · rename_i u hu
      simp only [Option.some.injEq] at h; subst h
      unfold aeq at hu
      split at hu
      · split at hu
        · simp only [Option.some.injEq] at hu; subst hu; rfl
        · cases hu
      · cases hu
    · split at h
      · rename_i u hu
        simp only [Option.some.injEq] at h; subst h
        unfold aeqArr at hu
        split at hu
        · split at hu
          · split at hu
            · simp only [Option.some.injEq] at hu; subst hu; rfl
            · cases hu
          · cases hu
        · cases hu
      · split at h
        · rename_i u hu
          simp only [Option.some.injEq] at h; subst h
          unfold aeqRow at hu
          split at hu
          · split at hu
            · cases hu
            · simp only [Option.some.injEq] at hu; subst hu; rfl
          · cases hu
        · unfold aeqSt at h
          split at h
          · split at h
            · split at h
              · simp only [Option.some.injEq] at h; subst h; rfl
              · cases h
            · cases h
          · cases h
theorem val_vok (hR : Rel φ A w) {tm : Trie Value} {o : Oper} {v : Value} {A' : AS} (hv : isVal o = true) (hk : ∀ x ∈ opsL o.op, vok A.ok (ev tm x) = true) (h : aop P tm o A = some (v, A')) : vok A.ok v = true := by
  have viaB : ∀ {v' : Value} {A1 : AS}, aBare P tm o A = some (v', A1) → vok A.ok v' = true := fun h => by
    unfold aBare at h
    split at h
    · split at h
      · split at h
        · rename_i hb
          simp only [Option.some.injEq, Prod.mk.injEq] at h
          rw [← h.1]; exact bare_ok hb
        · cases h
      · cases h
    · cases h
  have viaO : ∀ {r : Option Value}, (∀ u, r = some u → vok A.ok u = true) → orBare P tm o A r = some (v, A') → vok A.ok v = true := fun hr h => by
    unfold orBare at h
    split at h
    · simp only [Option.some.injEq, Prod.mk.injEq] at h
      rw [← h.1]; exact hr _ rfl
    · exact viaB h
  have viaS : ∀ {r : Option Value}, (∀ u, r = some u → vok A.ok u = true) → still1 A r = some (v, A') → vok A.ok v = true := fun hr h => by
    unfold still1 at h
    split at h
    · simp only [Option.some.injEq, Prod.mk.injEq] at h
      rw [← h.1]; exact hr _ rfl
    · cases h
  obtain ⟨dst, op, type, pos, after, guard⟩ := o
  unfold aop at h
  simp only at h hk viaB viaO viaS
  cases op with
  | move x => simp only [aopOf, Option.some.injEq, Prod.mk.injEq] at h; rw [← h.1]; exact hk x (by simp [opsL])
  | assign x => simp only [aopOf, Option.some.injEq, Prod.mk.injEq] at h; rw [← h.1]; exact hk x (by simp [opsL])
  | pick c a b =>
    simp only [aopOf, aPick] at h
    split at h
    · rename_i t ht
      simp only [Option.some.injEq, Prod.mk.injEq] at h
      rw [← h.1]
      cases t
      · exact hk b (by simp [opsL])
      · exact hk a (by simp [opsL])
    · cases h
  | build t parts =>
    refine viaS (fun u hu => ?_) h
    unfold abuild at hu
    split at hu
    · rename_i z d hz hu2
      have hzb := (zeroOf_ok (w := w) hz).2.1
      have hparts : ∀ p ∈ parts.toList.map (fun p => (p.1, ev tm p.2)), vok A.ok p.2 = true := by
        intro p hp
        obtain ⟨q, hq, rfl⟩ := List.mem_map.1 hp
        exact hk q.2 (by simp only [opsL]; exact List.mem_map_of_mem hq)
      unfold buildAs at hu
      split at hu
      · split at hu
        · obtain ⟨cs, hc, rfl⟩ := aggA_some hu
          simp only [vok, vokA_toList]
          exact fill_vok _ _ _ _ hparts (vok_cells (bare_ok hzb)) hc
        · cases hu
      · split at hu
        · obtain ⟨cs, hc, rfl⟩ := aggA_some hu
          simp only [vok, vokA_toList]
          exact fill_vok _ _ _ _ hparts (vok_cells (bare_ok hzb)) hc
        · cases hu
      · cases hu
    · cases hu
  | load t a => exact viaS (fun u hu => aload_vok hR (hk a (by simp [opsL])) hu) h
  | fieldAddr s x f =>
    refine viaS (fun u hu => ?_) h
    unfold afieldAt at hu
    split at hu
    · split at hu
      · split at hu
        · split at hu
          · cases hu
          · exact ptrAdd_vok (hk x (by simp [opsL])) hu
        · cases hu
      · cases hu
    · cases hu
  | indexAddr t x ix => exact viaS (fun u hu => aindexAt_vok (hk x (by simp [opsL])) hu) h
  | field t x f =>
    refine viaS (fun u hu => ?_) h
    have hx := hk x (by simp [opsL])
    unfold afield at hu
    split at hu
    · rename_i heq
      split at hu
      · rw [heq] at hx
        simp only [vok, vokA_toList] at hx
        exact apart_vok hx hu
      · cases hu
    · cases hu
  | index t x ix =>
    refine viaO (fun u hu => ?_) h
    have hx := hk x (by simp [opsL])
    unfold aindex at hu
    split at hu
    · rename_i heq _
      split at hu
      · split at hu
        · rw [heq] at hx
          simp only [vok, vokA_toList] at hx
          exact apart_vok hx hu
        · cases hu
      · cases hu
    · cases hu
  | lookup t x ix ok => exact viaS (fun u hu => alookup_vok hR (hk x (by simp [opsL])) hu) h
  | convert src dst x =>
    refine viaO (fun u hu => ?_) h
    unfold aconvert at hu
    split at hu
    · split at hu
      · split at hu
        · obtain ⟨s, _, rfl⟩ := Option.map_eq_some_iff.1 hu; rfl
        · cases hu
      · cases hu
    · cases hu
  | unOp op t x => exact viaB h
  | binOp op t x y yt => exact viaO (fun u hu => bare_ok (aBin_bare hu)) h
  | slice t x lo hi mx => exact viaO (fun u hu => asliceAt_vok (hk x (by simp [opsL])) hu) h
  | nilCheck x =>
    have hx := hk x (by simp [opsL])
    simp only [aopOf, aNil] at h
    split at h
    · rename_i heq
      simp only [Option.some.injEq, Prod.mk.injEq] at h
      rw [← h.1, ← heq]; exact hx
    · rename_i heq
      simp only [Option.some.injEq, Prod.mk.injEq] at h
      rw [← h.1, ← heq]; exact hx
    · split at h
      · simp only [Option.some.injEq, Prod.mk.injEq] at h
        rw [← h.1]; exact hx
      · cases h
  | extract t ix =>
    have hx := hk t (by simp [opsL])
    simp only [aopOf, aExtract] at h
    split at h
    · rename_i vs heq
      rw [heq] at hx
      simp only [vok, vokA_toList] at hx
      exact viaS (fun u hu => vokL_mem.1 hx u (List.mem_of_getElem? hu)) h
    · cases h
  | makeFunc fn first captured =>
    simp only [aopOf, aFunc] at h
    split at h
    · simp only [Option.some.injEq, Prod.mk.injEq] at h
      rw [← h.1]
      simp only [vok, Bool.true_and, Bool.and_eq_true, vokA_toList]
      constructor
      · rw [vokL_mem]; intro y hy
        obtain ⟨q, hq, rfl⟩ := List.mem_map.1 (show y ∈ first.toList.map (ev tm) by simpa using hy)
        exact hk q (by simp only [opsL]; exact List.mem_append_left _ hq)
      · rw [vokL_mem]; intro y hy
        obtain ⟨q, hq, rfl⟩ := List.mem_map.1 (show y ∈ captured.toList.map (ev tm) by simpa using hy)
        exact hk q (by simp only [opsL]; exact List.mem_append_right _ hq)
    · cases h
  | makeInterface t x =>
    simp only [aopOf, aIface] at h
    split at h
    · cases h
    · simp only [Option.some.injEq, Prod.mk.injEq] at h
      rw [← h.1]; exact hk x (by simp [opsL])
    · cases h
  | call c =>
    obtain ⟨callee, args, argTypes⟩ := c
    cases callee with
    | value f => simp [aopOf] at h
    | invoke r m => simp [aopOf] at h
    | builtin b =>
      cases b <;> (try (simp [aopOf, aBuiltin] at h; done))
      case append => simp [isVal] at hv
      case copy => simp [isVal] at hv
      case max => exact viaB h
      case min => exact viaB h
      case len =>
        refine viaO (fun u hu => ?_) h
        unfold aLen at hu
        split at hu
        · split at hu
          · simp only [Option.some.injEq] at hu; subst hu; rfl
          · cases hu
        · split at hu
          · simp only [Option.some.injEq] at hu; subst hu; rfl
          · cases hu
        · cases hu
      case cap =>
        refine viaS (fun u hu => ?_) h
        unfold aCap at hu
        split at hu
        · split at hu
          · split at hu
            · simp only [Option.some.injEq] at hu; subst hu; rfl
            · cases hu
          · cases hu
        · cases hu
  | alloc t => simp [isVal] at hv
  | box t x => simp [isVal] at hv
  | buildSlice t l ps => simp [isVal] at hv
  | store t a x => simp [isVal] at hv
  | makeMap t r => simp [isVal] at hv
  | mapUpdate t m k x => simp [isVal] at hv
  | _ => simp [aopOf] at h
end Go.Ev
namespace Go.Ev
open Go
variable {P : Program} {φ φ' : Rn} {w w' : World}
def AS.wp (A : AS) (l : List Nat) : AS := { A with pend := l }
theorem Rel.up {A : AS} {q r : List Nat} (h : Rel φ (A.wp q) w) (hq : ∀ n, n ∈ q → n ∈ r) (hwf : ∀ n ab, A.h.get n = some ab → n ∉ r → abok (A.wp r).ok ab = true) : Rel φ (A.wp r) w where
  obj n ab h1 h2 := h.obj n ab h1 fun h3 => h2 (hq n h3)
  lt := h.lt
  inj n m a b h1 h2 h3 h4 h5 h6 e := h.inj n m a b h1 h2 (fun h => h3 (hq n h)) h4 h5 (fun h => h6 (hq m h)) e
  wf := hwf
  fro b hb := ⟨(h.fro b hb).1, fun n ab h1 h2 h3 => (h.fro b hb).2 n ab h1 h2 fun h => h3 (hq n h)⟩
  room := h.room
theorem Rel.down {A A' : AS} {q r : List Nat} (h : Rel φ (A.wp q) w) (hq : ∀ n, n ∈ q → n ∈ r) (k : Rel φ' (A'.wp r) w') (x : Runs φ (A.wp r) w φ' (A'.wp r) w') : Rel φ' (A'.wp q) w' := by
  have hr := h.room
  have hlt := h.lt
  have ag : ∀ n, (A.wp q).ok n = true → φ'.b n = φ.b n ∧ φ'.x n = φ.x n := fun n hn => x.agree n (by rw [AS.ok_iff] at hn; exact hn.imp (·.1) id)
  have ext : Ext (A.wp q).ok φ w φ' w' := ⟨ag, x.fro, fun b hb => x.keep b (h.fro b hb).1 fun n ab h1 h2 h3 => (h.fro b hb).2 n ab h1 h2 fun h4 => h3 (hq n h4)⟩
  have okk : ∀ n, (A.wp q).ok n = true → (A'.wp q).ok n = true := fun n hn => by
    rw [AS.ok_iff] at hn ⊢
    exact hn.imp (fun h => ⟨Nat.lt_of_lt_of_le h.1 x.next, h.2⟩) id
  have okr : ∀ n, (A'.wp r).ok n = true → (A'.wp q).ok n = true := fun n hn => by
    rw [AS.ok_iff] at hn ⊢
    exact hn.imp (fun h => ⟨h.1, fun h4 => h.2 (hq n h4)⟩) id
  have old : ∀ n ab, A'.h.get n = some ab → n ∈ r → A.h.get n = some ab ∧ n < A.next := fun n ab h1 h2 => by
    have h3 : A'.h.get n = A.h.get n := x.pnd n h2
    rw [h3] at h1
    exact ⟨h1, hlt n ab h1⟩
  have stay : ∀ n ab, A.h.get n = some ab → ab.live = true → n ∉ q → n ∈ r → w'.heap[φ.b n]? = w.heap[φ.b n]? := fun n ab h1 h2 h3 h4 =>
    x.keep _ (h.lt_heap h1 h2 h3) fun m b h5 h6 h7 e => by
      have := h.inj m n b ab h5 h6 (fun h8 => h7 (hq m h8)) h1 h2 h3 e
      subst this; exact h7 h4
  have sep : ∀ n ab m b, A'.h.get n = some ab → ab.live = true → n ∉ q → n ∈ r → A'.h.get m = some b → b.live = true → m ∉ r → φ'.b n ≠ φ'.b m := fun n ab m b h1 h2 h3 h4 h5 h6 h7 e => by
    obtain ⟨h8, h9⟩ := old n ab h1 h4
    rw [(x.agree n (.inl h9)).1] at e
    rcases x.img m b h5 h6 h7 with h10 | ⟨m', b', h10, h11, h12, h13⟩
    · have := h.lt_heap h8 h2 h3; omega
    · have := h.inj n m' ab b' h8 h2 h3 h10 h11 (fun h14 => h12 (hq m' h14)) (e.trans h13.symm)
      subst this; exact h12 h4
  refine ⟨fun n ab h1 h2 => ?_, k.lt, fun n m a b h1 h2 h3 h4 h5 h6 e => ?_, fun n ab h1 h2 => ?_, fun b hb => ⟨(k.fro b hb).1, fun n ab h1 h2 h3 e => ?_⟩, k.room⟩
  · by_cases hn : n ∈ r
    · obtain ⟨h3, h4⟩ := old n ab h1 hn
      rw [(x.agree n (.inl h4)).1, (x.agree n (.inl h4)).2]
      cases hl : ab.live with
      | false => exact ABRel.dead_of hl
      | true =>
        rw [stay n ab h3 hl h2 hn]
        exact (h.obj n ab h3 h2).ext ext (h.wf n ab h3 h2)
    · exact k.obj n ab h1 hn
  · by_cases hn : n ∈ r
    · by_cases hm : m ∈ r
      · obtain ⟨h7, h8⟩ := old n a h1 hn
        obtain ⟨h9, h10⟩ := old m b h4 hm
        rw [(x.agree n (.inl h8)).1, (x.agree m (.inl h10)).1] at e
        exact h.inj n m a b h7 h2 h3 h9 h5 h6 e
      · exact absurd e (sep n a m b h1 h2 h3 hn h4 h5 hm)
    · by_cases hm : m ∈ r
      · exact absurd e.symm (sep m b n a h4 h5 h6 hm h1 h2 hn)
      · exact k.inj n m a b h1 h2 hn h4 h5 hm e
  · by_cases hn : n ∈ r
    · obtain ⟨h3, h4⟩ := old n ab h1 hn
      exact abok_mono okk ab (h.wf n ab h3 h2)
    · exact abok_mono okr ab (k.wf n ab h1 hn)
  · by_cases hn : n ∈ r
    · obtain ⟨h4, h5⟩ := old n ab h1 hn
      rw [(x.agree n (.inl h5)).1] at e
      rcases x.new b hb with h6 | h6 | ⟨m, b', h6, h7, h8, h9⟩
      · exact (h.fro b h6).2 n ab h4 h2 h3 e
      · have := h.lt_heap h4 h2 h3; omega
      · have := h.inj n m ab b' h4 h2 h3 h6 h7 (fun h10 => h8 (hq m h10)) (e.trans h9.symm)
        subst this; exact h8 hn
    · exact (k.fro b hb).2 n ab h1 h2 hn e
theorem Rel.made {A : AS} {q r : List Nat} {n : Nat} (h : Rel φ (A.wp q) w) (hn : n ∈ q) (hr : ∀ m, m ∈ r ↔ m ∈ q ∧ m ≠ n) {cs : List Value} {C : Array Value} {e : TypeId} (hg : A.h.get n = some (.cells cs e (0, 0))) (hC : C.toList = cs) (hb : ∀ v ∈ cs, bare v = true) :
    Rel (upd φ n w.heap.size 0) (A.wp r) (w.alloc (.cells C e)) ∧ Ext (A.wp q).ok φ w (upd φ n w.heap.size 0) (w.alloc (.cells C e)) := by
  have hlt := h.lt n _ hg
  have hroom := h.room
  have hbig : n < big := by have : A.next + 1 < 2 ^ 24 := hroom; have : n < A.next := hlt; unfold big; omega
  have heap : ∀ b, (w.alloc (.cells C e)).heap[b]? = if b = w.heap.size then some (.cells C e) else w.heap[b]? := fun b => by
    show (w.heap.push _)[b]? = _
    rw [Array.getElem?_push]
  have ext : Ext (A.wp q).ok φ w (upd φ n w.heap.size 0) (w.alloc (.cells C e)) := by
    refine ⟨fun m hm => upd_other φ _ _ fun e2 => ?_, fun _ h => h, fun b hb => by rw [heap, if_neg (by have := (h.fro b hb).1; omega)]⟩
    subst e2
    rw [AS.ok_iff] at hm
    rcases hm with hm | hm
    · exact hm.2 hn
    · omega
  have okk : ∀ m, (A.wp q).ok m = true → (A.wp r).ok m = true := fun m hm => by
    rw [AS.ok_iff] at hm ⊢
    exact hm.imp (fun h => ⟨h.1, fun h4 => h.2 ((hr m).1 h4).1⟩) id
  have notq : ∀ m, m ∉ r → m ≠ n → m ∉ q := fun m h1 h2 h3 => h1 ((hr m).2 ⟨h3, h2⟩)
  refine ⟨⟨fun m ab h1 h2 => ?_, h.lt, fun m l a b h1 h2 h3 h4 h5 h6 e2 => ?_, fun m ab h1 h2 => ?_, fun b hb => ⟨by have := (h.fro b hb).1; simp; omega, fun m ab h1 h2 h3 e2 => ?_⟩, h.room⟩, ext⟩
  · by_cases e2 : m = n
    · subst e2
      have : A.h.get m = some ab := h1
      rw [hg] at this; cases this
      rw [upd_same, heap, if_pos rfl]
      refine ⟨C, rfl, ?_⟩
      rw [hC]; exact (RVL.bare _ _ (vokL_mem.2 hb)).2 rfl
    · have h3 := notq m h2 e2
      rw [(upd_other φ _ _ e2).1, (upd_other φ _ _ e2).2, heap]
      cases hl : ab.live with
      | false => exact ABRel.dead_of hl
      | true =>
        rw [if_neg (by have := h.lt_heap h1 hl h3; omega)]
        exact (h.obj m ab h1 h3).ext ext (h.wf m ab h1 h3)
  · by_cases e3 : m = n
    · by_cases e4 : l = n
      · rw [e3, e4]
      · subst e3
        rw [upd_same, (upd_other φ _ _ e4).1] at e2
        have := h.lt_heap h4 h5 (notq l h6 e4); omega
    · by_cases e4 : l = n
      · subst e4
        rw [upd_same, (upd_other φ _ _ e3).1] at e2
        have := h.lt_heap h1 h2 (notq m h3 e3); omega
      · rw [(upd_other φ _ _ e3).1, (upd_other φ _ _ e4).1] at e2
        exact h.inj m l a b h1 h2 (notq m h3 e3) h4 h5 (notq l h6 e4) e2
  · by_cases e2 : m = n
    · subst e2
      have : A.h.get m = some ab := h1
      rw [hg] at this; cases this
      exact vokL_mem.2 fun v hv => bare_ok (hb v hv)
    · exact abok_mono okk ab (h.wf m ab h1 (notq m h2 e2))
  · by_cases e3 : m = n
    · subst e3
      rw [upd_same] at e2
      have := (h.fro b hb).1; omega
    · rw [(upd_other φ _ _ e3).1] at e2
      exact (h.fro b hb).2 m ab h1 h2 (notq m h3 e3) e2
end Go.Ev
namespace Go.Ev
open Go
variable {P : Program} {φ φ' : Rn} {w w' : World}
structure Res (P : Program) (A A' : AS) (ops : List Oper) (ids : List (Option Nat)) : Prop where
  len : ids.length = ops.length
  next : A.next ≤ A'.next
  pend : A'.pend = A.pend
  old : ∀ n, n < A.next → A'.h.get n = A.h.get n
  room : A.next + 1 < 2 ^ 24 → A'.next + 1 < 2 ^ 24
  new : ∀ (i n : Nat), ids[i]? = some (some n) → A.next ≤ n ∧ n < A'.next ∧ n ∉ A.pend ∧ ∃ (t : TypeId) (z : Value) (o : Oper), ops[i]? = some o ∧ o.op = .alloc t ∧ zeroOf P t = some z ∧ A'.h.get n = some (.cells z.cells.toList t (0, 0))
  inj : ∀ (i j n : Nat), ids[i]? = some (some n) → ids[j]? = some (some n) → i = j
  all : (∀ n ab, A.h.get n = some ab → n < A.next) → ∀ n ab, A'.h.get n = some ab → A.next ≤ n → ∃ i : Nat, ids[i]? = some (some n)
theorem Res.none {A A' : AS} {o : Oper} {rest : List Oper} {l : List (Option Nat)} (h : Res P A A' rest l) : Res P A A' (o :: rest) (none :: l) where
  len := by simp [h.len]
  next := h.next
  pend := h.pend
  old := h.old
  room := h.room
  new i n hi := by
    cases i with
    | zero => simp at hi
    | succ i => simpa using h.new i n (by simpa using hi)
  inj i j n hi hj := by
    cases i with
    | zero => simp at hi
    | succ i =>
      cases j with
      | zero => simp at hj
      | succ j => rw [h.inj i j n (by simpa using hi) (by simpa using hj)]
  all hl n ab h1 h2 := by
    obtain ⟨i, hi⟩ := h.all hl n ab h1 h2
    exact ⟨i + 1, by simpa using hi⟩
theorem aalloc_some {A A' : AS} {t : TypeId} {v : Value} (h : aalloc P A t = some (v, A')) : ∃ z, zeroOf P t = some z ∧ A' = A.put (.cells z.cells.toList t (0, 0)) ∧ A.next + 2 < 2 ^ 24 ∧ A.next ∉ A.pend := by
  unfold aalloc at h
  split at h
  · rename_i z hz
    unfold abox at h
    split at h
    · rename_i n A1 hn
      simp only [Option.some.injEq, Prod.mk.injEq] at h
      obtain ⟨h1, h2, h3, h4⟩ := anew_some hn
      exact ⟨z, hz, by rw [← h.2, h2], h3, h4⟩
    · cases h
  · cases h
theorem reserve_spec : ∀ (rest : List Oper) (A : AS) (acc : List (Option Nat)) (A' : AS) (ids : List (Option Nat)), reserve P rest A acc = some (A', ids) → ∃ l, ids = acc.reverse ++ l ∧ Res P A A' rest l
  | [], A, acc, A', ids, h => by
    simp only [reserve, Option.some.injEq, Prod.mk.injEq] at h
    obtain ⟨rfl, rfl⟩ := h
    exact ⟨[], by simp, ⟨rfl, Nat.le_refl _, rfl, fun _ _ => rfl, id, fun i n hi => by simp at hi, fun i j n hi => by simp at hi, fun hl n ab h1 h2 => by have := hl n ab h1; omega⟩⟩
  | o :: rest, A, acc, A', ids, h => by
    unfold reserve at h
    split at h
    · rename_i t hop
      split at h
      · split at h
        · rename_i v A1 ha
          obtain ⟨l, h1, h2⟩ := reserve_spec rest A1 _ A' ids h
          obtain ⟨z, hz, rfl, h3, h4⟩ := aalloc_some ha
          have hg := put_get A (.cells z.cells.toList t (0, 0)) (by omega)
          have hnx : (A.put (.cells z.cells.toList t (0, 0))).next = A.next + 1 := rfl
          refine ⟨some A.next :: l, by rw [h1]; simp, ⟨by simp [h2.len], by have := h2.next; rw [hnx] at this; omega, h2.pend, fun n hn => ?_, fun _ => h2.room (by rw [hnx]; omega), fun i n hi => ?_, fun i j n hi hj => ?_, fun hl n ab h5 h6 => ?_⟩⟩
          · rw [h2.old n (by rw [hnx]; omega), hg, if_neg (by omega)]
          · cases i with
            | zero =>
              simp at hi; subst hi
              have := h2.next; rw [hnx] at this
              exact ⟨Nat.le_refl _, by omega, h4, t, z, o, by simp, hop, hz, by rw [h2.old _ (by rw [hnx]; omega), hg, if_pos rfl]⟩
            | succ i =>
              obtain ⟨h5, h6, h7, t', z', o', h8, h9, h10, h11⟩ := h2.new i n (by simpa using hi)
              rw [hnx] at h5
              exact ⟨by omega, h6, h7, t', z', o', by simpa using h8, h9, h10, h11⟩
          · cases i with
            | zero =>
              simp at hi; subst hi
              cases j with
              | zero => rfl
              | succ j => have := (h2.new j _ (by simpa using hj)).1; rw [hnx] at this; omega
            | succ i =>
              cases j with
              | zero => simp at hj; subst hj; have := (h2.new i _ (by simpa using hi)).1; rw [hnx] at this; omega
              | succ j => rw [h2.inj i j n (by simpa using hi) (by simpa using hj)]
          · by_cases e : n = A.next
            · exact ⟨0, by simp [e]⟩
            · obtain ⟨i, hi⟩ := h2.all (fun m ab hm => by
                rw [hg] at hm
                rw [hnx]
                split at hm
                · omega
                · have := hl m ab hm; omega) n ab h5 (by rw [hnx]; omega)
              exact ⟨i + 1, by simpa using hi⟩
        · cases h
      · cases h
    · obtain ⟨l, h1, h2⟩ := reserve_spec rest A _ A' ids h
      exact ⟨none :: l, by rw [h1]; simp, h2.none⟩
def news (L : Nat → Bool) (ids : List (Option Nat)) : List Nat := (List.range ids.length).filterMap fun i => if L i then none else (ids[i]?).bind id
theorem mem_news {L : Nat → Bool} {ids : List (Option Nat)} {n : Nat} : n ∈ news L ids ↔ ∃ i, ids[i]? = some (some n) ∧ L i = false := by
  unfold news
  rw [List.mem_filterMap]
  constructor
  · rintro ⟨i, h1, h2⟩
    cases hL : L i with
    | true => simp [hL] at h2
    | false =>
      simp only [hL, Bool.false_eq_true, if_false] at h2
      cases hi : ids[i]? with
      | none => simp [hi] at h2
      | some x => rw [hi] at h2; simp at h2; subst h2; exact ⟨i, hi, hL⟩
  · rintro ⟨i, h1, h2⟩
    refine ⟨i, ?_, by simp [h2, h1]⟩
    simp only [List.mem_range]
    exact (List.getElem?_eq_some_iff.1 h1).1
structure RunsL (φ : Rn) (A : AS) (w : World) (φ' : Rn) (A' : AS) (w' : World) (q : List Nat) : Prop where
  agree : ∀ n, n < A.next ∨ big ≤ n → φ'.b n = φ.b n ∧ φ'.x n = φ.x n
  next : A.next ≤ A'.next
  size : w.heap.size ≤ w'.heap.size
  keep : ∀ b, b < w.heap.size → (∀ n ab, A.h.get n = some ab → ab.live = true → n ∉ A.pend → φ.b n ≠ b) → w'.heap[b]? = w.heap[b]?
  img : ∀ n ab, A'.h.get n = some ab → ab.live = true → n ∉ q → n ∉ A.pend → w.heap.size ≤ φ'.b n ∨ ∃ m b, A.h.get m = some b ∧ b.live = true ∧ m ∉ A.pend ∧ φ.b m = φ'.b n
  pnd : ∀ n, n ∈ A.pend → A'.h.get n = A.h.get n
  fro : ∀ b, φ.F b → φ'.F b
  new : ∀ b, φ'.F b → φ.F b ∨ w.heap.size ≤ b ∨ ∃ m ab, A.h.get m = some ab ∧ ab.live = true ∧ m ∉ A.pend ∧ φ.b m = b
  os : w'.os = w.os
  tape : w'.tape = w.tape
  out : w'.output = w.output
theorem RunsL.step {A B B' : AS} {φ1 φ2 : Rn} {w1 w2 : World} {q q2 base : List Nat} (h : RunsL φ A w φ1 B w1 q) (hb : A.pend = base) (hq : ∀ n, n ∈ q → n ∈ q2)
    (hlt : ∀ n ab, B.h.get n = some ab → n < B.next) (hmade : ∀ n ab, B.h.get n = some ab → n ∈ q2 → n ∉ q → n ∉ base → w.heap.size ≤ φ1.b n ∨ ∃ m b, A.h.get m = some b ∧ b.live = true ∧ m ∉ A.pend ∧ φ.b m = φ1.b n)
    (k : Runs φ1 (B.wp (q2 ++ base)) w1 φ2 (B'.wp (q2 ++ base)) w2) : RunsL φ A w φ2 B' w2 q where
  agree n hn := ⟨(k.agree n (hn.imp (fun h1 => Nat.lt_of_lt_of_le h1 h.next) id)).1.trans (h.agree n hn).1, (k.agree n (hn.imp (fun h1 => Nat.lt_of_lt_of_le h1 h.next) id)).2.trans (h.agree n hn).2⟩
  next := Nat.le_trans h.next k.next
  size := Nat.le_trans h.size k.size
  keep b hb1 hb2 := by
    refine (k.keep b (Nat.lt_of_lt_of_le hb1 h.size) fun n ab h1 h2 h3 e => ?_).trans (h.keep b hb1 hb2)
    have h3' : n ∉ q2 ∧ n ∉ base := by
      have : n ∉ q2 ++ base := h3
      simpa using this
    rcases h.img n ab h1 h2 (fun h4 => h3'.1 (hq n h4)) (by rw [hb]; exact h3'.2) with h4 | ⟨m, c, h4, h5, h6, h7⟩
    · omega
    · exact hb2 m c h4 h5 h6 (h7.trans e)
  img n ab h1 h2 h3 h4 := by
    by_cases hn : n ∈ q2
    · have h5 : B'.h.get n = B.h.get n := k.pnd n (show n ∈ q2 ++ base by simp [hn])
      rw [h5] at h1
      rw [(k.agree n (.inl (hlt n ab h1))).1]
      exact hmade n ab h1 hn h3 (by rw [← hb]; exact h4)
    · rcases k.img n ab h1 h2 (show n ∉ q2 ++ base by rw [← hb]; simp [hn, h4]) with h5 | ⟨m, c, h5, h6, h7, h8⟩
      · exact .inl (Nat.le_trans h.size h5)
      · have h7' : m ∉ q2 ∧ m ∉ base := by
          have : m ∉ q2 ++ base := h7
          simpa using this
        rcases h.img m c h5 h6 (fun h9 => h7'.1 (hq m h9)) (by rw [hb]; exact h7'.2) with h9 | ⟨m', c', h9, h10, h11, h12⟩
        · exact .inl (by rw [← h8]; exact h9)
        · exact .inr ⟨m', c', h9, h10, h11, h12.trans h8⟩
  pnd n hn := by
    have : B'.h.get n = B.h.get n := k.pnd n (show n ∈ q2 ++ base by rw [← hb]; simp [hn])
    rw [this]; exact h.pnd n hn
  fro b hb1 := k.fro b (h.fro b hb1)
  new b hb1 := by
    rcases k.new b hb1 with h1 | h1 | ⟨m, ab, h1, h2, h3, h4⟩
    · exact h.new b h1
    · exact .inr (.inl (Nat.le_trans h.size h1))
    · have h3' : m ∉ q2 ∧ m ∉ base := by
        have : m ∉ q2 ++ base := h3
        simpa using this
      rcases h.img m ab h1 h2 (fun h9 => h3'.1 (hq m h9)) (by rw [hb]; exact h3'.2) with h5 | ⟨m', c', h5, h6, h7, h8⟩
      · exact .inr (.inl (by rw [← h4]; exact h5))
      · exact .inr (.inr ⟨m', c', h5, h6, h7, h8.trans h4⟩)
  os := k.os.trans h.os
  tape := k.tape.trans h.tape
  out := k.out.trans h.out
end Go.Ev
namespace Go.Ev
open Go
variable {P : Program} {R : Reg P}
def Reg.okp (R : Reg P) (k : Nat) (p : Nat → Bool) : Nat → Bool := ((R.mem k).wp (news p R.ids ++ R.base)).ok
theorem Reg.okp_iff {k n : Nat} {p : Nat → Bool} : R.okp k p n = true ↔ (n < (R.mem k).next ∧ n ∉ news p R.ids ∧ n ∉ R.base) ∨ big ≤ n := by
  unfold Reg.okp
  rw [AS.ok_iff]
  show (n < (R.mem k).next ∧ n ∉ news p R.ids ++ R.base) ∨ _ ↔ _
  simp [and_assoc]
theorem Reg.okp_mono {k l n : Nat} {p q : Nat → Bool} (hk : (R.mem k).next ≤ (R.mem l).next) (hp : ∀ i, p i = true → q i = true) (h : R.okp k p n = true) : R.okp l q n = true := by
  rw [Reg.okp_iff] at h ⊢
  refine h.imp (fun h => ⟨Nat.lt_of_lt_of_le h.1 hk, fun h2 => h.2.1 ?_, h.2.2⟩) id
  rw [mem_news] at h2 ⊢
  obtain ⟨i, h3, h4⟩ := h2
  refine ⟨i, h3, ?_⟩
  cases h5 : p i with
  | false => rfl
  | true => rw [hp i h5] at h4; cases h4
structure Inv (R : Reg P) (A : AS) (φ0 : Rn) (w0 : World) (a0 : Act) (L : Nat → Bool) (k : Nat) (φ : Rn) (a : Act) (w : World) : Prop where
  cl : ∀ i, L i = true → i < R.ops.length ∧ ∀ j, (R.M i).testBit j = true → L j = true
  kN : k ≤ R.ops.length
  kL : ∀ j, R.turner j → (L j = true ↔ j < k)
  size : a.tmps.size = R.ns
  defers : a.defers = a0.defers
  tmp : ∀ t i, t < R.ns → i ≤ R.ops.length → (∀ j, j < R.ops.length → (R.op j).dst = some t → (L j = true ↔ j < i)) →
    RV φ w (tget (R.tm i) t) (a.tmps.getD t undef) ∧ ∀ p : Nat → Bool, (∀ j, j < i → (R.op j).dst = some t → p j = true ∧ ∀ l, (R.M j).testBit l = true → p l = true) → vok (R.okp k p) (tget (R.tm i) t) = true
  rel : Rel φ ((R.mem k).wp (news L R.ids ++ R.base)) w
  wf : ∀ p : Nat → Bool, (∀ j, j < k → R.turner j → ∀ l, (R.M j).testBit l = true → p l = true) → ∀ n ab, (R.mem k).h.get n = some ab → n ∉ news p R.ids ++ R.base → abok (R.okp k p) ab = true
  new : ∀ (i n : Nat), R.ids[i]? = some (some n) → L i = false → (R.mem k).h.get n = (R.mem 0).h.get n
  nnext : (R.mem 0).next ≤ (R.mem k).next
  run : RunsL φ0 A w0 φ (R.mem k) w (news L R.ids)
theorem Reg.OK.tm_next (h : R.OK) {i : Nat} (hi : i < R.ops.length) : ∃ v, R.tm (i + 1) = putD R.ns (R.tm i) (R.op i).dst v := by
  obtain ⟨_, _, _, _, _, S1, h1, h2, _⟩ := drawOne_some (h.step i hi)
  obtain ⟨_, _, A, hs, hh, hor⟩ := dDo_some h1
  unfold Reg.tm
  rw [h2]
  rcases hor with ⟨_, _, rfl⟩ | ⟨_, hd⟩
  · exact ⟨undef, rfl⟩
  · cases hd with
    | news n _ _ e => exact ⟨_, e⟩
    | still v A1 _ _ e => exact ⟨_, e⟩
    | reads v A1 _ _ e => exact ⟨_, e⟩
    | turns v A1 _ _ e => exact ⟨_, e⟩
theorem tget_putD {ns t : Nat} {tm : Trie Value} {dst : Option Tmp} {v : Value} (hns : ns < 65535) (ht : t < ns) : tget (putD ns tm dst v) t = if dst = some t then v else tget tm t := by
  cases dst with
  | none => simp [putD]
  | some d =>
    simp only [putD, tget_put hns, Option.some.injEq]
    by_cases e : d = t
    · subst e; rw [if_pos ⟨ht, rfl⟩, if_pos rfl]
    · rw [if_neg (fun h => e h.2.symm), if_neg e]
theorem Reg.OK.tm_same (h : R.OK) {t i j : Nat} (ht : t < R.ns) (hij : i ≤ j) (hj : j ≤ R.ops.length) (hn : ∀ l, i ≤ l → l < j → (R.op l).dst ≠ some t) : tget (R.tm j) t = tget (R.tm i) t := by
  induction j with
  | zero => rw [show i = 0 by omega]
  | succ j ih =>
    by_cases e : i = j + 1
    · rw [e]
    · obtain ⟨v, hv⟩ := h.tm_next (i := j) (by omega)
      rw [hv, tget_putD h.ns ht, if_neg (hn j (by omega) (by omega))]
      exact ih (by omega) (by omega) fun l h1 h2 => hn l h1 (by omega)
theorem Reg.OK.tm_none (h : R.OK) (h0 : ∀ t, R.ns ≤ t → (R.tm 0).get t = none) {t : Nat} (ht : R.ns ≤ t) : ∀ i, i ≤ R.ops.length → (R.tm i).get t = none
  | 0, _ => h0 t ht
  | i + 1, hi => by
    obtain ⟨v, hv⟩ := h.tm_next (i := i) (by omega)
    rw [hv]
    cases hd : (R.op i).dst with
    | none => exact h.tm_none h0 ht i (by omega)
    | some d => simp only [putD]; rw [putTm_none h.ns ht]; exact h.tm_none h0 ht i (by omega)
variable {A : AS} {φ0 φ φ' : Rn} {w0 w w' : World} {a0 a : Act} {L : Nat → Bool} {k k' i : Nat}
theorem Inv.look (hI : Inv R A φ0 w0 a0 L k φ a w) (h : R.OK) (h0 : ∀ t, R.ns ≤ t → (R.tm 0).get t = none) (hi : i < R.ops.length) (hL : L i = false) (hM : ∀ j, (R.M i).testBit j = true → L j = true) {t : Nat} (ht : t ∈ looks R.ops (R.op i)) :
    RV φ w (tget (R.tm i) t) (a.tmps.getD t undef) ∧ vok (R.okp k fun j => (R.M i).testBit j) (tget (R.tm i) t) = true := by
  by_cases hns : t < R.ns
  · have h1 := hI.tmp t i hns (by omega) fun j hj hd => by
      constructor
      · intro hLj
        rcases Nat.lt_trichotomy j i with h2 | h2 | h2
        · exact h2
        · rw [h2, hL] at hLj; cases hLj
        · have := (h.temps h2 hj (by have := h.ns; omega)).2.2 ht hd
          have := (hI.cl j hLj).2 i this
          rw [hL] at this; cases this
      · intro hji
        exact hM j ((h.temps hji hi (by have := h.ns; omega)).1 hd ht)
    refine ⟨h1.1, h1.2 _ fun j hji hd => ?_⟩
    have hb := (h.temps hji hi (by have := h.ns; omega)).1 hd ht
    exact ⟨hb, ((h.masks i hi).2 j hb).2⟩
  · have h1 := h.tm_none h0 (t := t) (by omega) i (by omega)
    have h2 : a.tmps.getD t undef = undef := by rw [Array.getD_eq_getD_getElem?, Array.getElem?_eq_none (by rw [hI.size]; omega)]; rfl
    have h3 : tget (R.tm i) t = undef := by unfold tget; rw [h1]; rfl
    rw [h2, h3]
    exact ⟨RV_undef.2 rfl, rfl⟩
theorem mem_looks {ops : List Oper} {o : Oper} {t : Tmp} (h : Operand.tmp t ∈ opsL o.op) : t ∈ looks ops o := by
  unfold looks
  refine List.mem_append_left _ (List.mem_flatMap.2 ⟨_, h, ?_⟩)
  simp [tmpOf]
theorem Inv.opers (hI : Inv R A φ0 w0 a0 L k φ a w) (h : R.OK) (h0 : ∀ t, R.ns ≤ t → (R.tm 0).get t = none) (hi : i < R.ops.length) (hL : L i = false) (hM : ∀ j, (R.M i).testBit j = true → L j = true) :
    ∀ x ∈ opsL (R.op i).op, RV φ w (ev (R.tm i) x) (a.eval x) ∧ vok (R.okp k fun j => (R.M i).testBit j) (ev (R.tm i) x) = true := by
  intro x hx
  have hk := (drawOne_some (h.step i hi)).1 x hx
  cases x with
  | tmp t => exact hI.look h h0 hi hL hM (mem_looks hx)
  | const v => exact ⟨RV_self hk, bare_ok hk⟩
  | global g => simp [opk] at hk
  | func f => exact ⟨RV_self rfl, rfl⟩
theorem Inv.wants (hI : Inv R A φ0 w0 a0 L k φ a w) (h : R.OK) (h0 : ∀ t, R.ns ≤ t → (R.tm 0).get t = none) (hi : i < R.ops.length) (hL : L i = false) (hM : ∀ j, (R.M i).testBit j = true → L j = true) {ops : Array Oper} (hops : ops.toList = R.ops) :
    Ev.wants (R.tm i) R.ops (R.op i) = Region.wanted (R.op i) (yielded ops a.tmps) := by
  rw [← hops]
  refine wants_eq (φ := φ) (w := w) fun j want d hg hd => ?_
  refine (hI.look h h0 hi hL hM ?_).1
  unfold looks
  rw [hg]
  refine List.mem_append_right _ ?_
  have : (R.ops[j]?).bind (·.dst) = some d := by rw [← hops, Array.getElem?_toList]; exact hd
  simp [this]
theorem Inv.put (hI : Inv R A φ0 w0 a0 L k φ a w) (h : R.OK) (hi : i < R.ops.length) (hL : L i = false) (hM : ∀ j, (R.M i).testBit j = true → L j = true) {L' : Nat → Bool} (hL' : ∀ j, L' j = true ↔ L j = true ∨ j = i) {v V : Value}
    (hv : R.tm (i + 1) = putD R.ns (R.tm i) (R.op i).dst v) (hV : RV φ' w' v V) (hvk : ∀ p : Nat → Bool, p i = true → (∀ l, (R.M i).testBit l = true → p l = true) → vok (R.okp k' p) v = true)
    (ext : Ext (R.okp k L) φ w φ' w') (hkN : k' ≤ R.ops.length) (hkL : ∀ j, R.turner j → (L' j = true ↔ j < k')) (hnx : (R.mem k).next ≤ (R.mem k').next)
    (hrel : Rel φ' ((R.mem k').wp (news L' R.ids ++ R.base)) w')
    (hwf : ∀ p : Nat → Bool, (∀ j, j < k' → R.turner j → ∀ l, (R.M j).testBit l = true → p l = true) → ∀ n ab, (R.mem k').h.get n = some ab → n ∉ news p R.ids ++ R.base → abok (R.okp k' p) ab = true)
    (hnew : ∀ (j n : Nat), R.ids[j]? = some (some n) → L' j = false → (R.mem k').h.get n = (R.mem 0).h.get n)
    (hrun : RunsL φ0 A w0 φ' (R.mem k') w' (news L' R.ids)) : Inv R A φ0 w0 a0 L' k' φ' (a.put (R.op i).dst V) w' where
  cl j hj := by
    rcases (hL' j).1 hj with h1 | rfl
    · exact ⟨(hI.cl j h1).1, fun l hl => (hL' l).2 (.inl ((hI.cl j h1).2 l hl))⟩
    · exact ⟨hi, fun l hl => (hL' l).2 (.inl (hM l hl))⟩
  kN := hkN
  kL := hkL
  size := by cases hd : (R.op i).dst <;> simp [Act.put, hI.size]
  defers := by rw [Act.put_defers]; exact hI.defers
  tmp t i' ht hi' hw := by
    by_cases hd : (R.op i).dst = some t
    ·
      have hii : i < i' := (hw i hi hd).1 ((hL' i).2 (.inr rfl))
      have hlast : tget (R.tm i') t = v := by
        rw [h.tm_same ht (i := i + 1) (by omega) hi' fun l h1 h2 h3 => ?_, hv, tget_putD h.ns ht, if_pos hd]
        have h4 : L' l = true := (hw l (by omega) h3).2 h2
        rcases (hL' l).1 h4 with h5 | h5
        · have := (h.temps (i := i) (j := l) (by omega) (by omega) (by have := h.ns; omega)).2.1 hd h3
          have := (hI.cl l h5).2 i this
          rw [hL] at this; cases this
        · omega
      rw [hlast]
      have hput : (a.put (R.op i).dst V).tmps.getD t undef = V := by
        rw [hd]
        simp only [Act.put, Array.getD_eq_getD_getElem?]
        rw [Array.getElem?_setIfInBounds_self_of_lt (by rw [hI.size]; exact ht)]; rfl
      rw [hput]
      exact ⟨hV, fun p hp => hvk p (hp i hii hd).1 (hp i hii hd).2⟩
    · have hput : (a.put (R.op i).dst V).tmps.getD t undef = a.tmps.getD t undef := by
        cases hdd : (R.op i).dst with
        | none => rfl
        | some d =>
          rw [hdd] at hd
          simp only [Act.put, Array.getD_eq_getD_getElem?]
          rw [Array.getElem?_setIfInBounds_ne (fun e => hd (by rw [e]))]
      rw [hput]
      have hw' : ∀ j, j < R.ops.length → (R.op j).dst = some t → (L j = true ↔ j < i') := fun j hj hdj => by
        rw [← hw j hj hdj, hL']
        exact ⟨.inl, fun h1 => h1.resolve_right fun e => hd (by rw [← e]; exact hdj)⟩
      obtain ⟨h1, h2⟩ := hI.tmp t i' ht hi' hw'
      refine ⟨h1.ext ext _ _ (h2 L fun j hj hdj => ?_), fun p hp => vok_mono (fun n hn => Reg.okp_mono hnx (fun _ h => h) hn) _ (h2 p hp)⟩
      have := (hw' j (by omega) hdj).2 hj
      exact ⟨this, (hI.cl j this).2⟩
  rel := hrel
  wf := hwf
  new := hnew
  nnext := Nat.le_trans hI.nnext hnx
  run := hrun
end Go.Ev
namespace Go.Ev
open Go
variable {P : Program} {R : Reg P} {A : AS} {φ0 φ φ' : Rn} {w0 w w' : World} {a0 a : Act} {L L' : Nat → Bool} {k k' i : Nat}
theorem maskOf_sub (k : Nat) (ms : List Nat) (B : Nat → Nat) (hB : ∀ j, j < k → ms.getD (k - 1 - j) 0 = B j) (L : Nat → Bool) : ∀ (es : List Edge) (s : Nat), (∀ e ∈ es, bind e = true → e.on < k) → (∀ e ∈ es, bind e = true → L e.on = true ∧ ∀ l, (B e.on).testBit l = true → L l = true) →
    (∀ l, s.testBit l = true → L l = true) → ∀ l, (maskOf k ms es s).testBit l = true → L l = true
  | [], s, _, _, hs => hs
  | e :: es, s, he, hl, hs => by
    intro l h
    simp only [maskOf] at h
    refine maskOf_sub k ms B hB L es _ (fun x hx => he x (by simp [hx])) (fun x hx => hl x (by simp [hx])) ?_ l h
    intro j hj
    split at hj
    · rename_i hb
      simp only [Bool.and_eq_true] at hb
      rw [hB e.on (he e (by simp) hb.1)] at hj
      simp only [Nat.testBit_or, Nat.testBit_two_pow, Bool.or_eq_true, decide_eq_true_eq] at hj
      obtain ⟨h1, h2⟩ := hl e (by simp) hb.1
      rcases hj with (hj | hj) | hj
      · exact hs j hj
      · rw [← hj]; exact h1
      · exact h2 j hj
    · exact hs j hj
theorem Inv.ready (hI : Inv R A φ0 w0 a0 L k φ a w) (h : R.OK) (hi : i < R.ops.length) (hr : ∀ e ∈ (R.op i).after.toList, bind e = true → L e.on = true) : ∀ j, (R.M i).testBit j = true → L j = true :=
  maskOf_sub i _ R.M ((h.ms_get i (by omega)).2) L _ 0 (fun e he hb => ((h.masks i hi).1 e he hb).1) (fun e he hb => ⟨hr e he hb, fun l hl => (hI.cl _ (hr e he hb)).2 l hl⟩) (fun l hl => by simp at hl)
theorem fm_congr {α β : Type} {f g : α → Option β} : ∀ {l : List α}, (∀ x ∈ l, f x = g x) → l.filterMap f = l.filterMap g
  | [], _ => rfl
  | x :: l, h => by
    rw [List.filterMap_cons, List.filterMap_cons, h x (by simp), fm_congr fun y hy => h y (by simp [hy])]
theorem news_same {ids : List (Option Nat)} (hn : ids[i]? = some none) (hL' : ∀ j, L' j = true ↔ L j = true ∨ j = i) : news L' ids = news L ids := by
  unfold news
  refine fm_congr ?_
  intro j _
  by_cases e : j = i
  · subst e
    simp [hn]
  · have : L' j = L j := by
      cases h1 : L j with
      | true => exact (hL' j).2 (.inl h1)
      | false =>
        cases h2 : L' j with
        | false => rfl
        | true =>
          rcases (hL' j).1 h2 with h3 | h3
          · rw [h1] at h3; cases h3
          · exact absurd h3 e
    rw [this]
theorem pends_news (m : Nat) : ∀ (ids : List (Option Nat)) (i0 : Nat), pends m ids i0 = (List.range ids.length).filterMap fun i => if m.testBit (i0 + i) then none else (ids[i]?).bind id
  | [], i0 => rfl
  | none :: ids, i0 => by
    simp only [pends]
    rw [pends_news m ids (i0 + 1), List.length_cons, List.range_succ_eq_map, List.filterMap_cons]
    have : (if m.testBit (i0 + 0) = true then none else ((none :: ids)[0]?).bind id) = none := by simp
    rw [this, List.filterMap_map]
    simp only
    refine fm_congr ?_
    intro j _
    simp only [Function.comp, List.getElem?_cons_succ]
    rw [show i0 + 1 + j = i0 + (j + 1) by omega]
  | some n :: ids, i0 => by
    simp only [pends]
    rw [pends_news m ids (i0 + 1), List.length_cons, List.range_succ_eq_map, List.filterMap_cons, List.filterMap_map]
    have hc : (List.range ids.length).filterMap (fun i => if m.testBit (i0 + 1 + i) = true then none else (ids[i]?).bind id) = (List.range ids.length).filterMap ((fun i => if m.testBit (i0 + i) = true then none else ((some n :: ids)[i]?).bind id) ∘ Nat.succ) := by
      refine fm_congr ?_
      intro j _
      simp only [Function.comp, List.getElem?_cons_succ]
      rw [show i0 + 1 + j = i0 + (j + 1) by omega]
    rw [hc]
    by_cases hb : m.testBit i0 = true
    · simp [hb]
    · simp [hb]
theorem pends_eq (m : Nat) (ids : List (Option Nat)) : pends m ids 0 = news m.testBit ids := by
  rw [pends_news]; unfold news; simp
theorem RunsL.step' {A B B' : AS} {φ1 φ2 : Rn} {w1 w2 : World} {q q2 base : List Nat} (h : RunsL φ0 A w0 φ1 B w1 q) (hb : A.pend = base) (hq : ∀ n, n ∈ q → n ∈ q2)
    (hlt : ∀ n ab, B.h.get n = some ab → n < B.next) (k : Runs φ1 (B.wp (q2 ++ base)) w1 φ2 (B'.wp (q2 ++ base)) w2) : RunsL φ0 A w0 φ2 B' w2 q where
  agree n hn := ⟨(k.agree n (hn.imp (fun h1 => Nat.lt_of_lt_of_le h1 h.next) id)).1.trans (h.agree n hn).1, (k.agree n (hn.imp (fun h1 => Nat.lt_of_lt_of_le h1 h.next) id)).2.trans (h.agree n hn).2⟩
  next := Nat.le_trans h.next k.next
  size := Nat.le_trans h.size k.size
  keep b hb1 hb2 := by
    refine (k.keep b (Nat.lt_of_lt_of_le hb1 h.size) fun n ab h1 h2 h3 e => ?_).trans (h.keep b hb1 hb2)
    have h3' : n ∉ q2 ∧ n ∉ base := by
      have : n ∉ q2 ++ base := h3
      simpa using this
    rcases h.img n ab h1 h2 (fun h4 => h3'.1 (hq n h4)) (by rw [hb]; exact h3'.2) with h4 | ⟨m, c, h4, h5, h6, h7⟩
    · omega
    · exact hb2 m c h4 h5 h6 (h7.trans e)
  img n ab h1 h2 h3 h4 := by
    by_cases hn : n ∈ q2
    · have h5 : B'.h.get n = B.h.get n := k.pnd n (show n ∈ q2 ++ base by simp [hn])
      rw [h5] at h1
      rw [(k.agree n (.inl (hlt n ab h1))).1]
      exact h.img n ab h1 h2 h3 h4
    · rcases k.img n ab h1 h2 (show n ∉ q2 ++ base by rw [← hb]; simp [hn, h4]) with h5 | ⟨m, c, h5, h6, h7, h8⟩
      · exact .inl (Nat.le_trans h.size h5)
      · have h7' : m ∉ q2 ∧ m ∉ base := by
          have : m ∉ q2 ++ base := h7
          simpa using this
        rcases h.img m c h5 h6 (fun h9 => h7'.1 (hq m h9)) (by rw [hb]; exact h7'.2) with h9 | ⟨m', c', h9, h10, h11, h12⟩
        · exact .inl (by rw [← h8]; exact h9)
        · exact .inr ⟨m', c', h9, h10, h11, h12.trans h8⟩
  pnd n hn := by
    have : B'.h.get n = B.h.get n := k.pnd n (show n ∈ q2 ++ base by rw [← hb]; simp [hn])
    rw [this]; exact h.pnd n hn
  fro b hb1 := k.fro b (h.fro b hb1)
  new b hb1 := by
    rcases k.new b hb1 with h1 | h1 | ⟨m, ab, h1, h2, h3, h4⟩
    · exact h.new b h1
    · exact .inr (.inl (Nat.le_trans h.size h1))
    · have h3' : m ∉ q2 ∧ m ∉ base := by
        have : m ∉ q2 ++ base := h3
        simpa using this
      rcases h.img m ab h1 h2 (fun h9 => h3'.1 (hq m h9)) (by rw [hb]; exact h3'.2) with h5 | ⟨m', c', h5, h6, h7, h8⟩
      · exact .inr (.inl (by rw [← h4]; exact h5))
      · exact .inr (.inr ⟨m', c', h5, h6, h7, h8.trans h4⟩)
  os := k.os.trans h.os
  tape := k.tape.trans h.tape
  out := k.out.trans h.out
theorem evOper_of_aop {c : Cfg} {rc : Rec} {round : Bool} {tm : Trie Value} {o : Oper} {A A1 : AS} {v : Value} (hk : kindOf o = .still ∨ kindOf o = .reads) (hops : ∀ x ∈ opsL o.op, opk x = true) (h : aop P tm o A = some (v, A1)) (hv : vok A1.ok v = true) :
    evOper P c rc round tm o A = some (v, A1, none) := by
  have h1 : evOp1 P c rc round tm o A = some (v, A1, none) := by
    obtain ⟨dst, op, type, pos, after, guard⟩ := o
    unfold evOp1
    cases op with
    | call cl =>
      obtain ⟨callee, args, argTypes⟩ := cl
      cases callee with
      | value f => rcases hk with h | h <;> cases h
      | invoke r m => simp [aop, aopOf] at h
      | builtin b =>
        have hr : isRecover b = false := by cases b <;> first | rfl | (rcases hk with h | h <;> cases h)
        show (if isRecover b then (if round then none else some (.nilIface, A, none)) else noD (aBuiltin P tm ⟨dst, .call ⟨.builtin b, args, argTypes⟩, type, pos, after, guard⟩ b ⟨.builtin b, args, argTypes⟩ A)) = some (v, A1, none)
        rw [if_neg (by rw [hr]; simp)]
        have h' : aBuiltin P tm ⟨dst, .call ⟨.builtin b, args, argTypes⟩, type, pos, after, guard⟩ b ⟨.builtin b, args, argTypes⟩ A = some (v, A1) := h
        rw [h']; rfl
    | defer cl => rcases hk with h | h <;> cases h
    | _ => simp only; rw [h]; rfl
  unfold evOper
  rw [if_pos (List.all_eq_true.2 hops), h1]
  simp [okRes, hv]
mutual
theorem vok_and {p q r : Nat → Bool} (h : ∀ n, p n = true → q n = true → r n = true) : ∀ v : Value, vok p v = true → vok q v = true → vok r v = true
  | .pointer (some a), h1, h2 => h _ h1 h2
  | .pointer none, _, _ => rfl
  | .slice (some a) len cap, h1, h2 => h _ h1 h2
  | .slice none _ _, _, _ => rfl
  | .map (some r), h1, h2 => h _ h1 h2
  | .map none, _, _ => rfl
  | .chan (some _), h1, _ => by simp [vok] at h1
  | .chan none, _, _ => rfl
  | .func fn first captured, h1, h2 => by
    simp only [vok, Bool.and_eq_true] at h1 h2 ⊢
    refine ⟨?_, vokA_and h first h1.2.1 h2.2.1, vokA_and h captured h1.2.2 h2.2.2⟩
    cases fn with
    | yield l => exact h _ h1.1 h2.1
    | _ => rfl
  | .iface t v, h1, h2 => by simp only [vok] at h1 h2 ⊢; exact vok_and h v h1 h2
  | .agg cells, h1, h2 => by simp only [vok] at h1 h2 ⊢; exact vokA_and h cells h1 h2
  | .tuple cells, h1, h2 => by simp only [vok] at h1 h2 ⊢; exact vokA_and h cells h1 h2
  | .bool _, _, _ => rfl
  | .int _ _, _, _ => rfl
  | .float _ _, _, _ => rfl
  | .complex _ _ _, _, _ => rfl
  | .string _, _, _ => rfl
  | .nilFunc, _, _ => rfl
  | .nilIface, _, _ => rfl
theorem vokA_and {p q r : Nat → Bool} (h : ∀ n, p n = true → q n = true → r n = true) : ∀ v : Array Value, vokA p v = true → vokA q v = true → vokA r v = true
  | ⟨l⟩, h1, h2 => by simp only [vokA] at h1 h2 ⊢; exact vokL_and h l h1 h2
theorem vokL_and {p q r : Nat → Bool} (h : ∀ n, p n = true → q n = true → r n = true) : ∀ v : List Value, vokL p v = true → vokL q v = true → vokL r v = true
  | [], _, _ => rfl
  | v :: l, h1, h2 => by simp only [vokL, Bool.and_eq_true] at h1 h2 ⊢; exact ⟨vok_and h v h1.1 h2.1, vokL_and h l h1.2 h2.2⟩
end
structure Ctx (R : Reg P) (A : AS) (ops : Array Oper) : Prop where
  ok : R.OK
  h0 : ∀ t, R.ns ≤ t → (R.tm 0).get t = none
  cfg : CfgOK P R.c
  rec_ : ∀ i, RecOK P (R.rc i)
  res : Res P A (R.mem 0) R.ops R.ids
  base : R.base = A.pend
  ops : ops.toList = R.ops
theorem Ctx.id_of {ops : Array Oper} (c : Ctx R A ops) (hi : i < R.ops.length) (hk : kindOf (R.op i) ≠ .news) : R.ids[i]? = some none := by
  have hl := c.res.len
  cases hg : R.ids[i]? with
  | none => rw [List.getElem?_eq_none_iff] at hg; omega
  | some x =>
    cases x with
    | none => rfl
    | some n =>
      obtain ⟨_, _, _, t, z, o, h1, h2, _⟩ := c.res.new i n hg
      have : R.op i = o := by unfold Reg.op; rw [List.getD_eq_getElem?_getD, h1]; rfl
      rw [this] at hk
      exact absurd (by unfold kindOf; rw [h2]) hk
def Stepped (P : Program) (R : Reg P) (A : AS) (φ0 : Rn) (w0 : World) (a0 : Act) (L : Nat → Bool) (i : Nat) (ops : Array Oper) (b : Frame) (cs : List Frame) (ks : List Item) (rest : List Nat) (a : Act) (w : World) : Prop :=
  ∃ L' k' φ' a' w', (∀ j, L' j = true ↔ L j = true ∨ j = i) ∧ Steps P (lone (b.atR a (.inRegion ops (i :: rest) :: ks)) cs w) (lone (b.atR a' (.inRegion ops rest :: ks)) cs w') ∧ Inv R A φ0 w0 a0 L' k' φ' a' w'
variable {ops : Array Oper} {b : Frame} {cs : List Frame} {ks : List Item} {rest : List Nat}
theorem Ctx.at_ (c : Ctx R A ops) (hi : i < R.ops.length) : ops[i]? = some (R.op i) := by
  have : R.ops[i]? = some (R.op i) := by unfold Reg.op; rw [List.getD_eq_getElem?_getD, List.getElem?_eq_getElem hi]; rfl
  rw [← c.ops, Array.getElem?_toList] at this; exact this
theorem Inv.skip (hI : Inv R A φ0 w0 a0 L k φ a w) (c : Ctx R A ops) (hi : i < R.ops.length) (hL : L i = false) (hM : ∀ j, (R.M i).testBit j = true → L j = true) (hw : Ev.wants (R.tm i) R.ops (R.op i) = false) :
    Stepped P R A φ0 w0 a0 L i ops b cs ks rest a w := by
  have hL' : ∀ j, (L j || j == i) = true ↔ L j = true ∨ j = i := fun j => by simp
  obtain ⟨_, _, _, _, _, S1, h1, h2, _⟩ := drawOne_some (c.ok.step i hi)
  obtain ⟨_, _, A', hs, hh, hor⟩ := dDo_some h1
  rcases hor with ⟨_, hk, e⟩ | ⟨hw', _⟩
  · have hn := news_same (L := L) (L' := fun j => L j || j == i) (c.id_of hi hk) hL'
    have hwant := hI.wants c.ok c.h0 hi hL hM c.ops
    rw [hw] at hwant
    have hs := stepR_op_skip (P := P) (b := b) (a := a) (k := ks) (cs := cs) (w := w) (ops := ops) (i := i) (rest := rest) (by simp [c.at_ hi, ← hwant])
    rw [c.at_ hi, Option.bind_some] at hs
    refine ⟨_, k, φ, _, w, hL', .one hs, ?_⟩
    refine hI.put c.ok hi hL hM hL' (v := undef) (V := undef) (by unfold Reg.tm; rw [h2, e]) (RV_undef.2 rfl) (fun _ _ _ => rfl) ⟨fun _ _ => ⟨rfl, rfl⟩, fun _ h => h, fun _ _ => rfl⟩ hI.kN (fun j hj => ?_) (Nat.le_refl _) ?_ hI.wf (fun j n h3 h4 => hI.new j n h3 ?_) ?_
    · rw [hL', ← hI.kL j hj]
      refine ⟨fun h => h.resolve_right fun e => ?_, .inl⟩
      rw [e] at hj
      have := hj.2.1
      rw [hw] at this; cases this
    · rw [hn]; exact hI.rel
    · simp only [Bool.or_eq_false_iff] at h4; exact h4.1
    · rw [hn]; exact hI.run
  · unfold Reg.tm at hw; rw [hw] at hw'; cases hw'
theorem Inv.value (hI : Inv R A φ0 w0 a0 L k φ a w) (c : Ctx R A ops) (hb : CtxOK b cs) (hround : b.roundOf.isSome = R.round) (hi : i < R.ops.length) (hL : L i = false) (hM : ∀ j, (R.M i).testBit j = true → L j = true) (hw : Ev.wants (R.tm i) R.ops (R.op i) = true)
    (hk : kindOf (R.op i) = .still ∨ kindOf (R.op i) = .reads) : Stepped P R A φ0 w0 a0 L i ops b cs ks rest a w := by
  have hL' : ∀ j, (L j || j == i) = true ↔ L j = true ∨ j = i := fun j => by simp
  have hkn : kindOf (R.op i) ≠ .news := by rcases hk with h | h <;> rw [h] <;> simp
  have hkt : kindOf (R.op i) ≠ .turns := by rcases hk with h | h <;> rw [h] <;> simp
  have hn := news_same (L := L) (L' := fun j => L j || j == i) (c.id_of hi hkn) hL'
  have hops := (drawOne_some (c.ok.step i hi)).1
  have hopr := hI.opers c.ok c.h0 hi hL hM
  obtain ⟨v, A1, he, htm, hnow⟩ : ∃ v A1, evOper P R.c (R.rc i) R.round (R.tm i) (R.op i) { R.mem i with pend := pends (R.M i) R.ids 0 ++ R.base } = some (v, A1, none) ∧ R.tm (i + 1) = putD R.ns (R.tm i) (R.op i).dst v ∧ ∃ A2 l, aop P (R.tm i) (R.op i) { R.mem k with pend := l } = some (v, A2) := by
    rcases hk with hk | hk
    · obtain ⟨_, _, _, _, _, S1, h1, h2, _⟩ := drawOne_some (c.ok.step i hi)
      obtain ⟨_, _, A', hs, hh, hor⟩ := dDo_some h1
      rcases hor with ⟨hw', _, _⟩ | ⟨_, hd⟩
      · unfold Reg.tm at hw; rw [hw'] at hw; cases hw
      · cases hd with
        | news n hkd => rw [hk] at hkd; cases hkd
        | reads v A1 hkd => rw [hk] at hkd; cases hkd
        | turns v A1 hkd => rw [hk] at hkd; cases hkd
        | still v A1 _ he e1 =>
          have hmem : R.mem i = A' := by unfold Reg.mem; rw [hh]; rfl
          refine ⟨v, A1, by rw [hmem]; exact he, by show (R.st (i + 1)).tm = _; rw [h2, e1]; rfl, { R.mem k with pend := (R.mem k).pend }, (R.mem k).pend, ?_⟩
          have := kind_aop (.inl hk) he
          rw [aop_map (B := { R.mem k with pend := (R.mem k).pend }) (kind_val (.inl hk)) (.inl hk)]
          rw [show aop P (R.tm i) (R.op i) _ = _ from this]; rfl
    · obtain ⟨v, A1, he, htm, hall⟩ := c.ok.reads hi hk hw
      refine ⟨v, A1, he, htm, hall k hI.kN (fun j hj hb => (hI.kL j hj).1 (hM j hb)) (fun j hj hb => ?_)⟩
      rcases Nat.lt_or_ge j k with h | h
      · have := (hI.cl j ((hI.kL j hj).2 h)).2 i hb
        rw [hL] at this; cases this
      · exact h
  obtain ⟨A2, l, hnow⟩ := hnow
  have hval := kind_val hk
  have hB : aop P (R.tm i) (R.op i) ((R.mem k).wp (news L R.ids ++ R.base)) = some (v, (R.mem k).wp (news L R.ids ++ R.base)) := by
    have := aop_map (P := P) (tm := R.tm i) (A := { R.mem k with pend := l }) (B := (R.mem k).wp (news L R.ids ++ R.base)) hval (.inr rfl)
    rw [this, hnow]; rfl
  have hko : ∀ x ∈ opsL (R.op i).op, vok ((R.mem k).wp (news L R.ids ++ R.base)).ok (ev (R.tm i) x) = true := fun x hx =>
    vok_mono (fun n hn => Reg.okp_mono (p := fun j => (R.M i).testBit j) (q := L) (Nat.le_refl _) hM hn) _ (hopr x hx).2
  have hvL := val_vok hI.rel hval hko hB
  have hvM : vok (R.okp i (R.M i).testBit) v = true := by
    have h1 := (evOper_some he).2.2
    have h2 := kind_aop hk he
    rw [aop_map (A := { R.mem i with pend := pends (R.M i) R.ids 0 ++ R.base }) hval (.inr rfl), Option.map_eq_some_iff] at h2
    obtain ⟨p, _, h3⟩ := h2
    have h4 : A1 = { R.mem i with pend := pends (R.M i) R.ids 0 ++ R.base } := (congrArg Prod.snd h3).symm
    rw [h4, pends_eq] at h1
    exact h1
  have hev := evOper_of_aop (c := R.c) (rc := R.rc i) (round := R.round) hk hops hB hvL
  have hwant := hI.wants c.ok c.h0 hi hL hM c.ops
  rw [hw] at hwant
  obtain ⟨φ', w', V, D, h1, h2, h3, h4, h5, h6, h7⟩ := op_run c.cfg (c.rec_ i) hI.rel (k := ks) (cs := cs) (a := a) (b := b) (rest := rest) hb (c.at_ hi) hwant.symm (fun x hx => (hopr x hx).1) hko (by rw [hround]; exact hev)
  have hD : D = [] := by cases D with
    | nil => rfl
    | cons d D => exact absurd h6 (by simp [RDL])
  subst hD
  refine ⟨_, k, φ', _, w', hL', h1, ?_⟩
  refine hI.put c.ok hi hL hM hL' htm h2 (fun p hp1 hp2 => ?_) (hI.rel.ext h4) hI.kN (fun j hj => ?_) (Nat.le_refl _) ?_ hI.wf (fun j n h3 h4 => hI.new j n h3 ?_) ?_
  · refine vok_and (fun n q1 q2 => ?_) v hvL hvM
    have q1 : R.okp k L n = true := q1
    rw [Reg.okp_iff] at q1 q2 ⊢
    rcases q1 with q1 | q1
    · rcases q2 with q2 | q2
      · refine .inl ⟨q1.1, fun q3 => q2.2.1 ?_, q1.2.2⟩
        rw [mem_news] at q3 ⊢
        obtain ⟨j, q4, q5⟩ := q3
        refine ⟨j, q4, ?_⟩
        cases q6 : (R.M i).testBit j with
        | false => rfl
        | true => rw [hp2 j q6] at q5; cases q5
      · exact .inr q2
    · exact .inr q1
  · rw [hL', ← hI.kL j hj]
    refine ⟨fun h => h.resolve_right fun e => ?_, .inl⟩
    rw [e] at hj
    exact hkt hj.2.2
  · rw [hn]; exact h3
  · simp only [Bool.or_eq_false_iff] at h4; exact h4.1
  · rw [hn]; exact hI.run.step' c.base.symm (fun n h => h) hI.rel.lt h4
end Go.Ev
namespace Go.Ev
open Go
variable {P : Program} {R : Reg P} {A : AS} {φ0 φ φ' : Rn} {w0 w w' : World} {a0 a : Act} {L L' : Nat → Bool} {k k' i : Nat}
variable {ops : Array Oper} {b : Frame} {cs : List Frame} {ks : List Item} {rest : List Nat}
theorem alloc_run {o : Oper} {t : TypeId} {z : Value} {ρ : Operand → Value} (ho : o.op = .alloc t) (hz : zeroOf P t = some z) :
    (execOp ρ o).run P w = .ok (.value (.pointer (some ⟨w.heap.size, 0, none⟩))) (w.alloc (.cells z.cells t (0, 0))) := by
  obtain ⟨h1, h2, _⟩ := zeroOf_ok (w := w) hz
  obtain ⟨dst, op, type, pos, after, guard⟩ := o
  simp only at ho; subst ho
  simp [execOp, Instr.alloc, h1, newVar, newRow]
theorem Inv.makes (hI : Inv R A φ0 w0 a0 L k φ a w) (c : Ctx R A ops) (hi : i < R.ops.length) (hL : L i = false) (hM : ∀ j, (R.M i).testBit j = true → L j = true) (hw : Ev.wants (R.tm i) R.ops (R.op i) = true)
    (hk : kindOf (R.op i) = .news) : Stepped P R A φ0 w0 a0 L i ops b cs ks rest a w := by
  have hL' : ∀ j, (L j || j == i) = true ↔ L j = true ∨ j = i := fun j => by simp
  have hL'f : ∀ j, (L j || j == i) = false → L j = false ∧ j ≠ i := fun j h => by simpa using h
  obtain ⟨n, hid, htm⟩ : ∃ n, R.ids[i]? = some (some n) ∧ R.tm (i + 1) = putD R.ns (R.tm i) (R.op i).dst (ptr n) := by
    obtain ⟨_, _, _, _, _, S1, h1, h2, _⟩ := drawOne_some (c.ok.step i hi)
    obtain ⟨_, _, A', hs, hh, hor⟩ := dDo_some h1
    rcases hor with ⟨hw', _, _⟩ | ⟨_, hd⟩
    · unfold Reg.tm at hw; rw [hw'] at hw; cases hw
    · cases hd with
      | still v A1 hkd => rw [hk] at hkd; cases hkd
      | reads v A1 hkd => rw [hk] at hkd; cases hkd
      | turns v A1 hkd => rw [hk] at hkd; cases hkd
      | news n _ hn e1 =>
        refine ⟨n, ?_, by show (R.st (i + 1)).tm = _; rw [h2, e1]; rfl⟩
        cases hx : R.ids[i]? with
        | none => rw [hx] at hn; cases hn
        | some x => rw [hx] at hn; simp at hn; rw [hn]
  obtain ⟨h1, h2, h3, t, z, o, h4, h5, h6, h7⟩ := c.res.new i n hid
  have ho : R.op i = o := by unfold Reg.op; rw [List.getD_eq_getElem?_getD, h4]; rfl
  have hget : (R.mem k).h.get n = some (.cells z.cells.toList t (0, 0)) := by rw [hI.new i n hid hL]; exact h7
  have hzb : ∀ v ∈ z.cells.toList, bare v = true := vokL_mem.1 (vok_cells (zeroOf_ok (w := w) h6).2.1)
  have hnq : n ∈ news L R.ids ++ R.base := List.mem_append_left _ (mem_news.2 ⟨i, hid, hL⟩)
  have hmem : ∀ m, m ∈ news (fun j => L j || j == i) R.ids ↔ m ∈ news L R.ids ∧ m ≠ n := fun m => by
    rw [mem_news, mem_news]
    constructor
    · rintro ⟨j, q1, q2⟩
      refine ⟨⟨j, q1, (hL'f j q2).1⟩, fun e => (hL'f j q2).2 ?_⟩
      subst e; exact c.res.inj j i _ q1 hid
    · rintro ⟨⟨j, q1, q2⟩, q3⟩
      refine ⟨j, q1, ?_⟩
      have : j ≠ i := fun e => by subst e; rw [hid] at q1; simp at q1; exact q3 q1.symm
      simp [q2, this]
  have hbase : n ∉ R.base := by rw [c.base]; exact h3
  obtain ⟨hR, hext⟩ := hI.rel.made (r := news (fun j => L j || j == i) R.ids ++ R.base) hnq (fun m => by
    rw [List.mem_append, List.mem_append, hmem]
    constructor
    · rintro (⟨q1, q2⟩ | q)
      · exact ⟨.inl q1, q2⟩
      · exact ⟨.inr q, fun e => hbase (by rw [← e]; exact q)⟩
    · rintro ⟨q1 | q1, q2⟩
      · exact .inl ⟨q1, q2⟩
      · exact .inr q1) hget rfl hzb
  have hwant := hI.wants c.ok c.h0 hi hL hM c.ops
  rw [hw] at hwant
  have hst := step_value (P := P) (b := b) (a := a) (k := ks) (cs := cs) (w := w) (rest := rest) (c.at_ hi) hwant.symm (fun cl e => by rw [ho, h5] at e; cases e) (alloc_run (P := P) (w := w) (ρ := a.eval) (by rw [ho]; exact h5) h6) (.inl rfl)
  refine ⟨_, k, upd φ n w.heap.size 0, _, _, hL', hst, ?_⟩
  have hroom : n < big := by have := hI.rel.room; have := hI.rel.lt n _ hget; have e : (R.mem k).next + 1 < 2 ^ 24 := hI.rel.room; have : n < (R.mem k).next := hI.rel.lt n _ hget; unfold big; omega
  refine hI.put c.ok hi hL hM hL' htm (RV_ptr.2 ?_) (fun p hp1 hp2 => ?_) hext hI.kN (fun j hj => ?_) (Nat.le_refl _) hR hI.wf (fun j m h3 h4 => hI.new j m h3 (hL'f j h4).1) ?_
  · simp [renA, upd_same]
  · show R.okp k p n = true
    rw [Reg.okp_iff]
    refine .inl ⟨Nat.lt_of_lt_of_le h2 hI.nnext, fun q => ?_, hbase⟩
    rw [mem_news] at q
    obtain ⟨j, q1, q2⟩ := q
    rw [c.res.inj j i n q1 hid, hp1] at q2; cases q2
  · rw [hL', ← hI.kL j hj]
    refine ⟨fun h => h.resolve_right fun e => ?_, .inl⟩
    rw [e] at hj
    have := hj.2.2
    rw [hk] at this; cases this
  · refine ⟨fun m hm => ?_, hI.run.next, ?_, fun b' q1 q2 => ?_, fun m ab q1 q2 q3 q4 => ?_, hI.run.pnd, hI.run.fro, hI.run.new, hI.run.os, hI.run.tape, hI.run.out⟩
    · have hmn : m ≠ n := by rintro rfl; rcases hm with hm | hm <;> omega
      rw [(upd_other φ _ _ hmn).1, (upd_other φ _ _ hmn).2]
      exact hI.run.agree m hm
    · have := hI.run.size; simp; omega
    · rw [← hI.run.keep b' q1 q2]
      show (w.heap.push _)[b']? = _
      rw [Array.getElem?_push, if_neg (by have := hI.run.size; omega)]
    · by_cases e : m = n
      · subst e; rw [upd_same]; exact .inl hI.run.size
      · rw [(upd_other φ _ _ e).1]
        exact hI.run.img m ab q1 q2 (fun q => q3 ((hmem m).2 ⟨q, e⟩)) q4
theorem Rel.downExt {A A' : AS} {q r : List Nat} (h : Rel φ (A.wp q) w) (hq : ∀ n, n ∈ q → n ∈ r) (x : Runs φ (A.wp r) w φ' (A'.wp r) w') : Ext (A.wp q).ok φ w φ' w' :=
  ⟨fun n hn => x.agree n (by rw [AS.ok_iff] at hn; exact hn.imp (·.1) id), x.fro, fun b hb => x.keep b (h.fro b hb).1 fun n ab h1 h2 h3 => (h.fro b hb).2 n ab h1 h2 fun h4 => h3 (hq n h4)⟩
theorem Inv.turn (hI : Inv R A φ0 w0 a0 L k φ a w) (c : Ctx R A ops) (hb : CtxOK b cs) (hround : b.roundOf.isSome = R.round) (hi : i < R.ops.length) (hL : L i = false) (hM : ∀ j, (R.M i).testBit j = true → L j = true) (hw : Ev.wants (R.tm i) R.ops (R.op i) = true)
    (hk : kindOf (R.op i) = .turns) : Stepped P R A φ0 w0 a0 L i ops b cs ks rest a w := by
  have hL' : ∀ j, (L j || j == i) = true ↔ L j = true ∨ j = i := fun j => by simp
  have hkn : kindOf (R.op i) ≠ .news := by rw [hk]; simp
  have hn := news_same (L := L) (L' := fun j => L j || j == i) (c.id_of hi hkn) hL'
  have hti : R.turner i := ⟨hi, hw, hk⟩
  have hopr := hI.opers c.ok c.h0 hi hL hM
  obtain ⟨v, A1, he, htm, hmn⟩ : ∃ v A1, evOper P R.c (R.rc i) R.round (R.tm i) (R.op i) ((R.mem i).wp (news (R.M i).testBit R.ids ++ R.base)) = some (v, A1, none) ∧ R.tm (i + 1) = putD R.ns (R.tm i) (R.op i).dst v ∧ R.mem (i + 1) = A1.wp R.base := by
    obtain ⟨_, _, _, _, _, S1, h1, h2, h3, _⟩ := drawOne_some (c.ok.step i hi)
    obtain ⟨_, _, A', hs, hh, hor⟩ := dDo_some h1
    rcases hor with ⟨hw', _, _⟩ | ⟨_, hd⟩
    · unfold Reg.tm at hw; rw [hw'] at hw; cases hw
    · cases hd with
      | still v A1 hkd => rw [hk] at hkd; cases hkd
      | reads v A1 hkd => rw [hk] at hkd; cases hkd
      | news n hkd => rw [hk] at hkd; cases hkd
      | turns v A1 _ he e1 e2 =>
        have hmem : R.mem i = A' := by unfold Reg.mem; rw [hh]; rfl
        refine ⟨v, A1, ?_, by show (R.st (i + 1)).tm = _; rw [h2, e1]; rfl, by unfold Reg.mem; rw [h3, e2]; rfl⟩
        rw [← pends_eq, hmem]; exact he
  have hbelow : ∀ j, R.turner j → j < i → L j = true := fun j hj hji => hM j (c.ok.order hj hti hji)
  have hki : k ≤ i := by
    rcases Nat.lt_or_ge i k with h | h
    · have := (hI.kL i hti).2 h
      rw [hL] at this; cases this
    · exact h
  have hsame : R.mem i = R.mem k := c.ok.mem_same hki (by omega) fun j h1 h2 h3 => by
    have := (hI.kL j h3).1 (hbelow j h3 h2); omega
  have hin : ∀ j, j < k → R.turner j → (R.M i).testBit j = true ∧ ∀ l, (R.M j).testBit l = true → (R.M i).testBit l = true := fun j hj htj => by
    have := c.ok.order htj hti (by omega)
    exact ⟨this, ((c.ok.masks i hi).2 j this).2⟩
  have hq : ∀ n, n ∈ news L R.ids ++ R.base → n ∈ news (R.M i).testBit R.ids ++ R.base := fun n h => by
    rw [List.mem_append] at h ⊢
    refine h.imp (fun h => ?_) id
    rw [mem_news] at h ⊢
    obtain ⟨j, h1, h2⟩ := h
    refine ⟨j, h1, ?_⟩
    cases h3 : (R.M i).testBit j with
    | false => rfl
    | true => rw [hM j h3] at h2; cases h2
  rw [hsame] at he
  have hR := hI.rel.up hq (fun n ab h1 h2 => hI.wf (R.M i).testBit (fun j hj htj => (hin j hj htj).2) n ab h1 h2)
  have hwant := hI.wants c.ok c.h0 hi hL hM c.ops
  rw [hw] at hwant
  obtain ⟨φ', w', V, D, h1, h2, h3, h4, h5, h6, h7⟩ := op_run c.cfg (c.rec_ i) hR (k := ks) (cs := cs) (a := a) (b := b) (rest := rest) hb (c.at_ hi) hwant.symm (fun x hx => (hopr x hx).1) (fun x hx => (hopr x hx).2) (by rw [hround]; exact he)
  have hD : D = [] := by cases D with
    | nil => rfl
    | cons d D => exact absurd h6 (by simp [RDL])
  subst hD
  have hA1 : A1 = (R.mem (i + 1)).wp (news (R.M i).testBit R.ids ++ R.base) := by
    rw [hmn]
    have : A1.pend = news (R.M i).testBit R.ids ++ R.base := h4.pend
    rw [← this]; rfl
  rw [hA1] at h3 h4 h5
  have hnx : (R.mem k).next ≤ (R.mem (i + 1)).next := h4.next
  refine ⟨_, i + 1, φ', _, w', hL', h1, ?_⟩
  refine hI.put c.ok hi hL hM hL' htm h2 (fun p hp1 hp2 => vok_mono (fun n hn => Reg.okp_mono (k := i + 1) (p := (R.M i).testBit) (Nat.le_refl _) hp2 hn) v h5) (hI.rel.downExt hq h4) (by omega) (fun j hj => ?_) hnx ?_ (fun p hp n ab g1 g2 => ?_) (fun j n g1 g2 => ?_) ?_
  · rw [hL']
    constructor
    · rintro (h | rfl)
      · have := (hI.kL j hj).1 h; omega
      · omega
    · intro h
      rcases Nat.lt_or_ge j i with h8 | h8
      · exact .inl (hbelow j hj h8)
      · exact .inr (by omega)
  · rw [hn]; exact hI.rel.down hq h3 h4
  · by_cases g3 : n ∈ news (R.M i).testBit R.ids ++ R.base
    · have g4 : (R.mem (i + 1)).h.get n = (R.mem k).h.get n := h4.pnd n g3
      rw [g4] at g1
      exact abok_mono (fun m hm => Reg.okp_mono hnx (fun _ h => h) hm) ab (hI.wf p (fun j hj htj => hp j (by omega) htj) n ab g1 g2)
    · exact abok_mono (fun m hm => Reg.okp_mono (k := i + 1) (p := (R.M i).testBit) (Nat.le_refl _) (hp i (by omega) hti) hm) ab (h3.wf n ab g1 g3)
  · simp only [Bool.or_eq_false_iff] at g2
    rw [← hI.new j n g1 g2.1]
    refine h4.pnd n (List.mem_append_left _ (mem_news.2 ⟨j, g1, ?_⟩))
    cases h8 : (R.M i).testBit j with
    | false => rfl
    | true => rw [hM j h8] at g2; exact absurd g2.1 (by simp)
  · rw [hn]
    exact hI.run.step' c.base.symm (fun n h => by
      rw [mem_news] at h ⊢
      obtain ⟨j, g1, g2⟩ := h
      refine ⟨j, g1, ?_⟩
      cases h8 : (R.M i).testBit j with
      | false => rfl
      | true => rw [hM j h8] at g2; cases g2) hI.rel.lt h4
theorem Inv.one (hI : Inv R A φ0 w0 a0 L k φ a w) (c : Ctx R A ops) (hb : CtxOK b cs) (hround : b.roundOf.isSome = R.round) (hi : i < R.ops.length) (hL : L i = false) (hr : ∀ e ∈ (R.op i).after.toList, bind e = true → L e.on = true) :
    Stepped P R A φ0 w0 a0 L i ops b cs ks rest a w := by
  have hM := hI.ready c.ok hi hr
  cases hw : Ev.wants (R.tm i) R.ops (R.op i) with
  | false => exact hI.skip c hi hL hM hw
  | true =>
    cases hk : kindOf (R.op i) with
    | still => exact hI.value c hb hround hi hL hM hw (.inl hk)
    | reads => exact hI.value c hb hround hi hL hM hw (.inr hk)
    | news => exact hI.makes c hi hL hM hw hk
    | turns => exact hI.turn c hb hround hi hL hM hw hk
end Go.Ev
namespace Go.Ev
open Go
variable {P : Program} {R : Reg P} {A : AS} {φ0 φ φ' : Rn} {w0 w w' : World} {a0 a : Act} {L L' : Nat → Bool} {k k' i : Nat}
variable {ops : Array Oper} {b : Frame} {cs : List Frame} {ks : List Item} {rest : List Nat}
def unl (l : Array Bool) : Nat := l.toList.countP (fun b => !b)
theorem unl_set {l : Array Bool} {i : Nat} (h : l.getD i true = false) : unl (l.setIfInBounds i true) + 1 = unl l := by
  have hi : i < l.size := by
    rcases Nat.lt_or_ge i l.size with q | q
    · exact q
    · simp [Array.getElem?_eq_none q] at h
  have hv : l[i] = false := by simpa [hi] using h
  unfold unl
  rw [Array.toList_setIfInBounds, List.countP_set (by simpa using hi)]
  have hv2 : l.toList[i] = false := by simpa using hv
  have hpos : 0 < List.countP (fun b => !b) l.toList := List.countP_pos_iff.2 ⟨_, List.getElem_mem (by simpa using hi : i < l.toList.length), by rw [hv2]; rfl⟩
  rw [hv2]
  show List.countP (fun b => !b) l.toList - 1 + 0 + 1 = _
  omega
theorem Inv.all (c : Ctx R A ops) (hb : CtxOK b cs) (hround : b.roundOf.isSome = R.round) : ∀ (fuel t : Nat) (listed : Array Bool) (L : Nat → Bool) (k : Nat) (φ : Rn) (a : Act) (w : World), unl listed ≤ fuel → listed.size = ops.size → (∀ j, L j = listed.getD j false) → Inv R A φ0 w0 a0 L k φ a w →
    ∃ L' k' φ' a' w', Steps P (lone (b.atR a (.inRegion ops (Region.linearise.go .any ops fuel t listed []) :: ks)) cs w) (lone (b.atR a' ks) cs w') ∧ Inv R A φ0 w0 a0 L' k' φ' a' w' ∧ ∀ j, j < R.ops.length → L' j = true := by
  have hsz : ops.size = R.ops.length := by rw [← c.ops]; simp
  have hend : ∀ listed : Array Bool, listed.size = ops.size → Region.ready .any ops listed = [] → ∀ i, i < R.ops.length → listed.getD i false = true := by
    intro listed hls hr i
    induction i using Nat.strongRecOn with
    | ind i ih =>
      intro hi
      have hl : i < listed.size := by omega
      cases hg : listed.getD i true with
      | true => simpa [hl] using hg
      | false =>
        have hm : i ∈ Region.ready .any ops listed := mem_ready.2 ⟨hg, R.op i, c.at_ hi, fun e he hb => by
          have h1 := ((c.ok.masks i hi).1 e (by simpa using he) hb).1
          exact ih e.on h1 (by omega)⟩
        rw [hr] at hm
        cases hm
  intro fuel
  induction fuel with
  | zero =>
    intro t listed L k φ a w hf hls hL hI
    have hr : Region.ready .any ops listed = [] := by
      apply List.eq_nil_iff_forall_not_mem.2
      intro i hi
      have := unl_set (mem_ready.1 hi).1
      omega
    exact ⟨L, k, φ, a, w, .one stepR_region_end, hI, fun j hj => by rw [hL]; exact hend listed hls hr j hj⟩
  | succ fuel ih =>
    intro t listed L k φ a w hf hls hL hI
    simp only [Region.linearise.go]
    change ∃ L' k' φ' a' w', Steps P (lone (b.atR a (.inRegion ops (match (Region.ready .any ops listed)[t % (Region.ready .any ops listed).length]? with
      | some i => Region.linearise.go .any ops fuel (t / (Region.ready .any ops listed).length) (listed.setIfInBounds i true) [i]
      | none => [].reverse) :: ks)) cs w) (lone (b.atR a' ks) cs w') ∧ _ ∧ _
    cases hi : (Region.ready .any ops listed)[t % (Region.ready .any ops listed).length]? with
    | none =>
      have hr : Region.ready .any ops listed = [] := by
        cases hr : Region.ready .any ops listed with
        | nil => rfl
        | cons x xs =>
          rw [hr] at hi
          have hlt : t % (x :: xs).length < (x :: xs).length := Nat.mod_lt _ (by simp)
          simp at hi
          simp at hlt
          omega
      exact ⟨L, k, φ, a, w, .one stepR_region_end, hI, fun j hj => by rw [hL]; exact hend listed hls hr j hj⟩
    | some i =>
      simp only []
      rw [linearise_go_acc, List.reverse_singleton, List.singleton_append]
      obtain ⟨h0, o, ho, hall⟩ := mem_ready.1 (List.mem_of_getElem? hi)
      have hlt : i < R.ops.length := by rw [← hsz]; exact (Array.getElem?_eq_some_iff.1 ho).1
      have hoo : o = R.op i := by rw [c.at_ hlt] at ho; cases ho; rfl
      have hLi : L i = false := by
        rw [hL, ← h0]
        have : i < listed.size := by omega
        simp [this]
      obtain ⟨L', k', φ', a', w', h1, h2, h3⟩ := hI.one (b := b) (cs := cs) (ks := ks) (rest := Region.linearise.go .any ops fuel (t / (Region.ready .any ops listed).length) (listed.setIfInBounds i true) []) c hb hround hlt hLi (fun e he hb => by
        rw [hL]; exact hall e (by rw [hoo]; simpa using he) hb)
      have hu := unl_set h0
      obtain ⟨L2, k2, φ2, a2, w2, h4, h5, h6⟩ := ih (t / (Region.ready .any ops listed).length) (listed.setIfInBounds i true) L' k' φ' a' w' (by omega) (by simpa using hls) (fun j => by
        by_cases e : j = i
        · subst e
          rw [(h1 j).2 (.inr rfl)]
          have : j < listed.size := by omega
          simp [this]
        · rw [getD_set_ne _ (fun h => e h.symm), ← hL]
          cases hLj : L j with
          | true => exact (h1 j).2 (.inl hLj)
          | false =>
            cases hLj' : L' j with
            | false => rfl
            | true =>
              rcases (h1 j).1 hLj' with h | h
              · rw [hLj] at h; cases h
              · exact absurd h e) h3
      exact ⟨L2, k2, φ2, a2, w2, h2.trans h4, h5, h6⟩
theorem Reg.OK.pend (h : R.OK) (h0 : (R.mem 0).pend = R.base) : ∀ i, i ≤ R.ops.length → (R.mem i).pend = R.base
  | 0, _ => h0
  | i + 1, hi => by
    have ih := h.pend h0 i (by omega)
    obtain ⟨_, _, _, _, _, S1, h1, h2, h3, _⟩ := drawOne_some (h.step i (by omega))
    obtain ⟨_, _, A', hs, hh, hor⟩ := dDo_some h1
    unfold Reg.mem at ih ⊢
    rw [h3]
    rcases hor with ⟨_, _, rfl⟩ | ⟨_, hd⟩
    · exact ih
    · cases hd with
      | news n _ _ _ e => rw [e]; exact ih
      | still v A1 _ _ _ e => rw [e]; exact ih
      | reads v A1 _ _ _ e => rw [e]; exact ih
      | turns v A1 _ _ _ e => rw [e]; rfl
theorem draw_run {c : Cfg} {rc : Nat → Rec} (hc : CfgOK P c) (hrc : ∀ i, RecOK P (rc i)) (hm : P.follows .mixedOrders = true) {idr : Nat} (hb : CtxOK b cs) {ns : Nat} {tm tm' : Trie Value} {ds : List Deferred} {A' : AS}
    (hR : Rel φ A w) (hF : FR φ A w ns tm ds a) (h : evDraw P c rc b.roundOf.isSome ns ops.toList tm A = some (tm', A')) :
    ∃ φ' w' a', Steps P (lone (b.atR a (.code (.region idr ops true) :: ks)) cs w) (lone (b.atR a' ks) cs w') ∧ Rel φ' A' w' ∧ Runs φ A w φ' A' w' ∧ FR φ' A' w' ns tm' ds a' := by
  unfold evDraw at h
  split at h
  · rename_i A0 ids hres
    split at h
    · rename_i S hS
      split at h
      · rename_i Af hsf hhs
        simp only [Option.some.injEq, Prod.mk.injEq] at h
        obtain ⟨rfl, rfl⟩ := h
        obtain ⟨l, hl, hr⟩ := reserve_spec _ _ _ _ _ hres
        simp only [List.reverse_nil, List.nil_append] at hl
        subst hl
        obtain ⟨st, hst0, hstN, hstep⟩ := drawAll_hist _ _ _ _ _ _ _ _ _ _ _ hS
        simp only [Nat.zero_add] at hstN hstep
        let R : Reg P := { c, rc, round := b.roundOf.isSome, ns, ops := ops.toList, base := A.pend, ids, st }
        have hRops : R.ops = ops.toList := rfl
        have hmem0 : R.mem 0 = A0 := by show (st 0).hs.headD _ = A0; rw [hst0]; rfl
        have hOK : R.OK := by
          refine ⟨fun i hi => hstep i (R.op i) ?_, by show (st 0).ms = []; rw [hst0], by show (st 0).sn = _; rw [hst0], by show (st 0).ts = _; rw [hst0], by show (st 0).rs = _; rw [hst0], ⟨A0, by show (st 0).hs = _; rw [hst0]⟩, hF.tmr.2.2.1⟩
          show ops.toList[i]? = some (ops.toList.getD i default)
          rw [List.getD_eq_getElem?_getD, List.getElem?_eq_getElem hi]; rfl
        have htm0 : R.tm 0 = tm := by show (st 0).tm = tm; rw [hst0]
        have ctx : Ctx R A ops := ⟨hOK, fun t ht => by rw [htm0]; exact hF.tmr.2.2.2 t ht, hc, hrc, by rw [hmem0]; exact hr, rfl, rfl⟩
        have hcase : ∀ n ab, A0.h.get n = some ab → (n < A.next ∧ A.h.get n = some ab) ∨ (A.next ≤ n ∧ ∃ i : Nat, ids[i]? = some (some n)) := fun n ab hn => by
          rcases Nat.lt_or_ge n A.next with h1 | h1
          · exact .inl ⟨h1, by rw [← hr.old n h1]; exact hn⟩
          · exact .inr ⟨h1, hr.all hR.lt n ab hn h1⟩
        have hokp : ∀ (p : Nat → Bool) (n : Nat), A.ok n = true → R.okp 0 p n = true := fun p n hn => by
          rw [Reg.okp_iff, hmem0]
          rw [AS.ok_iff] at hn
          refine hn.imp (fun h1 => ⟨Nat.lt_of_lt_of_le h1.1 hr.next, fun h2 => ?_, h1.2⟩) id
          rw [mem_news] at h2
          obtain ⟨i, h3, _⟩ := h2
          have := (hr.new i n h3).1; omega
        have hall : ∀ n, (∃ i : Nat, ids[i]? = some (some n)) → n ∈ news (fun _ => false) R.ids := fun n ⟨i, hi⟩ => mem_news.2 ⟨i, hi, rfl⟩
        have hI : Inv R A φ w a (fun _ => false) 0 φ a { w with drawn := w.drawn + 1 } := by
          refine ⟨fun i hi => by simp at hi, Nat.zero_le _, fun j _ => by simp, hF.tmr.1, rfl, fun t i ht hi hw => ?_, ?_, fun p _ n ab hn hnp => ?_, fun i n _ _ => rfl, Nat.le_refl _, ?_⟩
          · have hsame : tget (R.tm i) t = tget tm t := by
              rw [hOK.tm_same ht (Nat.zero_le i) hi fun l _ h2 h3 => by have := (hw l (by omega) h3).2 h2; simp at this, htm0]
            rw [hsame]
            refine ⟨(hF.tmr.2.1 t).ext (hR.ext (Runs.drew _ _ _ _)) _ _ ?_, fun p _ => vok_mono (hokp p) _ ?_⟩ <;>
            · unfold tget
              cases ht : tm.get t with
              | none => rfl
              | some v => exact Trie.all_get hF.tok ht
          · rw [hmem0]
            refine Rel.drew (A := A0.wp (news (fun _ => false) R.ids ++ R.base)) (w := w) ?_ (w.drawn + 1)
            refine ⟨fun n ab h1 h2 => ?_, fun n ab h1 => ?_, fun n m x y h1 h2 h3 h4 h5 h6 e => ?_, fun n ab h1 h2 => ?_, fun b' hb' => ⟨(hR.fro b' hb').1, fun n ab h1 h2 h3 e => ?_⟩, hr.room hR.room⟩
            · have h2' : n ∉ news (fun _ => false) R.ids ∧ n ∉ A.pend := by
                have : n ∉ news (fun _ => false) R.ids ++ A.pend := h2
                simpa using this
              rcases hcase n ab h1 with h3 | h3
              · exact hR.obj n ab h3.2 h2'.2
              · exact absurd (hall n h3.2) h2'.1
            · rcases hcase n ab h1 with h3 | ⟨_, i, hi⟩
              · exact Nat.lt_of_lt_of_le h3.1 hr.next
              · exact (hr.new i n hi).2.1
            · have h3' : n ∉ news (fun _ => false) R.ids ∧ n ∉ A.pend := by
                have : n ∉ news (fun _ => false) R.ids ++ A.pend := h3
                simpa using this
              have h6' : m ∉ news (fun _ => false) R.ids ∧ m ∉ A.pend := by
                have : m ∉ news (fun _ => false) R.ids ++ A.pend := h6
                simpa using this
              rcases hcase n x h1 with h7 | h7
              · rcases hcase m y h4 with h8 | h8
                · exact hR.inj n m x y h7.2 h2 h3'.2 h8.2 h5 h6'.2 e
                · exact absurd (hall m h8.2) h6'.1
              · exact absurd (hall n h7.2) h3'.1
            · have h2' : n ∉ news (fun _ => false) R.ids ∧ n ∉ A.pend := by
                have : n ∉ news (fun _ => false) R.ids ++ A.pend := h2
                simpa using this
              rcases hcase n ab h1 with h3 | h3
              · refine abok_mono (fun m hm => ?_) ab (hR.wf n ab h3.2 h2'.2)
                have := hokp (fun _ => false) m hm
                unfold Reg.okp at this; rw [hmem0] at this; exact this
              · exact absurd (hall n h3.2) h2'.1
            · have h3' : n ∉ news (fun _ => false) R.ids ∧ n ∉ A.pend := by
                have : n ∉ news (fun _ => false) R.ids ++ A.pend := h3
                simpa using this
              rcases hcase n ab h1 with h4 | h4
              · exact (hR.fro b' hb').2 n ab h4.2 h2 h3'.2 e
              · exact absurd (hall n h4.2) h3'.1
          · rw [hmem0] at hn
            have hnp' : n ∉ news p R.ids ∧ n ∉ A.pend := by
              have : n ∉ news p R.ids ++ A.pend := hnp
              simpa using this
            rcases hcase n ab hn with h3 | ⟨_, i, hi⟩
            · exact abok_mono (hokp p) ab (hR.wf n ab h3.2 hnp'.2)
            · obtain ⟨_, _, _, t, z, o, h4, h5, h6, h7⟩ := hr.new i n hi
              rw [h7] at hn; cases hn
              exact vokL_mem.2 fun v hv => bare_ok (vokL_mem.1 (vok_cells (zeroOf_ok (w := w) h6).2.1) v hv)
          · rw [hmem0]
            refine ⟨fun _ _ => ⟨rfl, rfl⟩, hr.next, Nat.le_refl _, fun _ _ _ => rfl, fun n ab h1 h2 h3 h4 => ?_, fun n hn => ?_, fun _ h => h, fun _ h => .inl h, rfl, rfl, rfl⟩
            · rcases hcase n ab h1 with h5 | h5
              · exact .inr ⟨n, ab, h5.2, h2, h4, rfl⟩
              · exact absurd (hall n h5.2) h3
            · cases hg : A0.h.get n with
              | none =>
                cases hg2 : A.h.get n with
                | none => rfl
                | some ab => rw [hr.old n (hR.lt n ab hg2), hg2] at hg; cases hg
              | some ab =>
                rcases hcase n ab hg with h5 | ⟨_, i, hi⟩
                · exact h5.2.symm
                · exact absurd hn (hr.new i n hi).2.2.1
        obtain ⟨L', k', φ', a', w', h1, h2, h3⟩ := Inv.all (b := b) (cs := cs) (ks := ks) ctx hb rfl ops.size (w.tape w.drawn (.order b.fn idr)) (Array.replicate ops.size false) _ _ _ _ _ (by
          unfold unl; exact Nat.le_trans List.countP_le_length (by simp)) (by simp) (fun j => by
          simp only [Array.getD_eq_getD_getElem?, Array.getElem?_replicate]; split <;> rfl) hI
        have hlen : ops.toList.length = R.ops.length := rfl
        have hmemN : R.mem k' = Af := by
          have := hOK.mem_same h2.kN (Nat.le_refl _) fun j h4 h5 h6 => by
            have := (h2.kL j h6).1 (h3 j h6.1); omega
          rw [← this]
          show (st ops.toList.length).hs.headD _ = Af
          rw [hstN, hhs]; rfl
        have hnews : news L' R.ids = [] := by
          apply List.eq_nil_iff_forall_not_mem.2
          intro n hn
          rw [mem_news] at hn
          obtain ⟨i, h4, h5⟩ := hn
          have : i < R.ops.length := by
            have := (List.getElem?_eq_some_iff.1 h4).1
            have h6 := hr.len
            rw [← hlen, ← h6]; exact this
          rw [h3 i this] at h5; cases h5
        have hpend : Af.pend = A.pend := by
          have := hOK.pend (by rw [hmem0]; exact hr.pend) k' h2.kN
          rw [hmemN] at this; exact this
        have hwp : (R.mem k').wp (news L' R.ids ++ R.base) = Af := by
          rw [hnews, hmemN]
          show Af.wp A.pend = Af
          rw [← hpend]; rfl
        have hokf : R.okp k' L' = Af.ok := by unfold Reg.okp; rw [hwp]
        have hRel : Rel φ' Af w' := by have := h2.rel; rw [hwp] at this; exact this
        have hRuns : Runs φ A w φ' Af w' := by
          have h := h2.run
          rw [hmemN, hnews] at h
          exact ⟨h.agree, h.next, hpend, h.size, h.keep, fun n ab q1 q2 q3 => h.img n ab q1 q2 (by simp) q3, h.pnd, h.fro, h.new, h.os, h.tape, h.out⟩
        have htmN : R.tm R.ops.length = S.tm := by show (st ops.toList.length).tm = _; rw [hstN]
        have hnone : ∀ t, ns ≤ t → S.tm.get t = none := fun t ht => by rw [← htmN]; exact hOK.tm_none ctx.h0 ht _ (Nat.le_refl _)
        have htmp : ∀ t, t < ns → RV φ' w' (tget S.tm t) (a'.tmps.getD t undef) ∧ vok Af.ok (tget S.tm t) = true := fun t ht => by
          have := h2.tmp t R.ops.length ht (Nat.le_refl _) fun j hj _ => ⟨fun _ => hj, fun _ => h3 j hj⟩
          rw [htmN] at this
          refine ⟨this.1, ?_⟩
          rw [← hokf]
          exact this.2 L' fun j hj _ => ⟨h3 j hj, fun l hl => h3 l (by have := ((hOK.masks j hj).2 l hl).1; omega)⟩
        refine ⟨φ', w', a', ?_, hRel, hRuns, ⟨h2.size, fun t => ?_, hF.tmr.2.2.1, hnone⟩, ?_, ?_, ?_⟩
        · refine .head stepR_region_draw ?_
          simp only [Region.schedule, hm, Bool.true_or, if_true, Region.linearise]
          exact h1
        · rcases Nat.lt_or_ge t ns with h4 | h4
          · exact (htmp t h4).1
          · have h5 : tget S.tm t = undef := by unfold tget; rw [hnone t h4]; rfl
            have h6 : a'.tmps.getD t undef = undef := by rw [Array.getD_eq_getD_getElem?, Array.getElem?_eq_none (by rw [h2.size]; exact h4)]; rfl
            rw [h5, h6]; exact RV_undef.2 rfl
        · refine Trie.all_of fun n x hx => ?_
          rcases Nat.lt_or_ge n ns with h4 | h4
          · have := (htmp n h4).2
            unfold tget at this; rw [hx] at this; exact this
          · rw [hnone n h4] at hx; cases hx
        · rw [h2.defers]; exact RDL.ext (hR.ext hRuns) _ _ hF.dso hF.dsr
        · exact List.all_eq_true.2 fun d hd => dok_mono hRuns.ok d (List.all_eq_true.1 hF.dso d hd)
      · cases h
    · cases h
  · cases h
end Go.Ev
