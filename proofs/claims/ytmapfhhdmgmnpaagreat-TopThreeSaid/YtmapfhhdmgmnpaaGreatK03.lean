import Derived.ChangeKeysEq
import Derived.Laws.StructEq
import Derived.AtR
import Derived.RangeFuncRecord
import Derived.Test.YtmapfhhdmgmnpaaGreatK02
namespace Go.Ev
open Go
variable {P : Program} {φ : Rn} {w : World} {A : AS}
theorem mapM_bytes : ∀ (l : List Value) (bs : List UInt8), l.mapM byte? = some bs → ∃ ns : List Int, l = ns.map (Value.int .u8) ∧ bs = ns.map fun n => UInt8.ofNat n.toNat
  | [], bs, h => by simp at h; subst h; exact ⟨[], rfl, rfl⟩
  | v :: l, bs, h => by
    rw [List.mapM_cons] at h
    cases hv : byte? v with
    | none => simp [hv] at h
    | some b =>
      cases hl : l.mapM byte? with
      | none => simp [hv, hl] at h
      | some bs' =>
        simp [hv, hl] at h
        obtain ⟨ns, rfl, rfl⟩ := mapM_bytes l bs' hl
        unfold byte? at hv
        split at hv
        · rename_i n
          simp only [Option.some.injEq] at hv
          exact ⟨n :: ns, rfl, by rw [← h, ← hv]; rfl⟩
        · cases hv
theorem bytesOf_some {l : List Value} {s : ByteArray} (h : bytesOf? l = some s) : ∃ ns : List Int, l = ns.map (Value.int .u8) ∧ s = ⟨(ns.map fun n => UInt8.ofNat n.toNat).toArray⟩ := by
  unfold bytesOf? at h
  obtain ⟨bs, hb, rfl⟩ := Option.map_eq_some_iff.1 h
  obtain ⟨ns, h1, h2⟩ := mapM_bytes l bs hb
  exact ⟨ns, h1, by rw [h2]⟩
theorem foldl_push (ns : List Int) : ∀ s : ByteArray, ns.foldl (fun r n => r.push (UInt8.ofNat n.toNat)) s = ⟨s.data ++ (ns.map fun n => UInt8.ofNat n.toNat).toArray⟩ := by
  induction ns with
  | nil => intro s; cases s; simp
  | cons n ns ih =>
    intro s
    simp only [List.foldl_cons, ih, List.map_cons]
    congr 1
    apply Array.ext'
    simp [ByteArray.push]
theorem RVL_ints {k : IntKind} {ns : List Int} {L : List Value} (h : RVL φ w (ns.map (Value.int k)) L) : L = ns.map (Value.int k) := by
  refine (RVL.bare _ _ ?_).1 h
  rw [vokL_eq, List.all_eq_true]
  intro v hv
  obtain ⟨n, _, rfl⟩ := List.mem_map.1 hv
  rfl
theorem aconvert_ok (hO : ObjRel φ A w) {src dst : TypeId} {x X v : Value} (ho : vok A.ok x = true) (hx : RV φ w x X) (h : aconvert P A src dst x = some v) :
    ∃ V, (convert src dst X).run P w = .ok V w ∧ RV φ w v V := by
  unfold aconvert at h
  split at h
  · rename_i e hu hd
    split at h
    · rename_i n he hn
      split at h
      · rename_i cs hc
        obtain ⟨s, hs, rfl⟩ := Option.map_eq_some_iff.1 h
        obtain ⟨ns, rfl, rfl⟩ := bytesOf_some hs
        obtain ⟨a, n', cap, L, rfl, h1, h2, h3⟩ := sliceCells_ok hO ho hx hc
        obtain ⟨a', cap', he'⟩ := sliceLen_ok hx hn
        cases he'
        have hL := RVL_ints h1
        refine ⟨_, ?_, RV_self rfl⟩
        rw [run_convert_bytes_string w src dst e a _ cap hu he hd]
        cases a with
        | none =>
          simp only at h3
          have : ns = [] := by rw [hL] at h2; simp at h2; exact List.eq_nil_of_length_eq_zero (by omega)
          subst this
          simp [Conv.bytesToString]; rfl
        | some a =>
          obtain ⟨h4, h5⟩ := h3
          subst hL
          rw [run_bytesToString w a _ cap ns (run_loadCells0 h4 h2 h5), foldl_push]
          simp
      · cases h
    · cases h
  · cases h
theorem RV_nilFunc {V : Value} : RV φ w .nilFunc V ↔ V = .nilFunc := by simp only [RV]
theorem RV_nilIface {V : Value} : RV φ w .nilIface V ↔ V = .nilIface := by simp only [RV]
theorem RV_nilPtr {V : Value} : RV φ w (.pointer none) V ↔ V = .pointer none := by simp only [RV]
theorem RV_nilMap {V : Value} : RV φ w (.map none) V ↔ V = .map none := by simp only [RV]
theorem RV_map {r : Nat} {V : Value} : RV φ w (.map (some r)) V ↔ V = .map (some (φ.b r)) := by simp only [RV]
theorem RV_iface {t : TypeId} {v V : Value} : RV φ w (.iface t v) V ↔ ∃ u, V = .iface t u ∧ RV φ w v u := by simp only [RV]
theorem RV_fn {f : FuncId} {a b : Array Value} {V : Value} (h : RV φ w (.func (.func f) a b) V) : ∃ F C, V = .func (.func f) F C ∧ RVL φ w a.toList F.toList ∧ RVL φ w b.toList C.toList := by
  simp only [RV, funRel] at h
  obtain ⟨F, C, h1, h2, h3⟩ := h
  exact ⟨F, C, h3, RVA_iff.1 h1, RVA_iff.1 h2⟩
theorem negOf_some {op : BinOp} {neg : Bool} (h : negOf op = some neg) : (op = .eql ∧ neg = false) ∨ (op = .neq ∧ neg = true) := by
  unfold negOf at h
  split at h
  · cases h; exact .inl ⟨rfl, rfl⟩
  · cases h; exact .inr ⟨rfl, rfl⟩
  · cases h
theorem aeq_run {op : BinOp} {t : TypeId} {X Y : Value} {neg b : Bool} (x y : Operand) (hn : negOf op = some neg) (hg : (eqGuard op t x y X Y).run P w = .ok () w)
    (hb : binOp op t X Y = (match op with | .eql => (do pure (.bool (← Op.equal t X Y))) | _ => (do pure (.bool (!(← Op.equal t X Y)))) : Sem Value))
    (he : (Op.equal t X Y).run P w = .ok b w) : (do eqGuard op t x y X Y; binOp op t X Y : Sem Value).run P w = .ok (.bool (b != neg)) w := by
  rw [Sem.run_bind, hg, Result.andThen_ok, hb]
  rcases negOf_some hn with ⟨rfl, rfl⟩ | ⟨rfl, rfl⟩ <;> simp [he]
theorem equalIn_nils {d : TypeDesc} {t : TypeId} {X Y : Value} {b : Bool} (hu : P.underlying t = some d) (hd : fitsNil d X = true) (h : nils X Y = some b) (n : Nat) : (Op.equalIn (n + 1) t X Y).run P w = .ok b w := by
  unfold nils at h
  split at h <;> (try cases h) <;>
    (cases d <;> simp only [fitsNil, Bool.false_eq_true] at hd <;> simp only [Op.equalIn, Sem.run_bind, run_underlying hu, Result.andThen_ok, Sem.run_pure] <;> rfl)
theorem nils_RV {x X y Y : Value} {b : Bool} (hx : RV φ w x X) (hy : RV φ w y Y) (hnil : nils x y = some b) : nils X Y = some b ∧ (∀ d, fitsNil d x = true → fitsNil d X = true) ∧ (∀ op t, binOp op t X Y = (match op with | .eql => (do pure (.bool (← Op.equal t X Y))) | .neq => (do pure (.bool (!(← Op.equal t X Y)))) | _ => binOp op t X Y : Sem Value)) ∧
    ∀ (op : BinOp) (t : TypeId) (ox oy : Operand), (eqGuard op t ox oy X Y).run P w = .ok () w := by
  unfold nils at hnil
  split at hnil <;> (try cases hnil) <;>
    first
      | (cases RV_nilPtr.1 hy; cases RV_ptr.1 hx; skip)
      | (cases RV_nilPtr.1 hx; cases RV_ptr.1 hy; skip)
      | (cases RV_nilPtr.1 hx; cases RV_nilPtr.1 hy; skip)
      | (cases RV_none.1 hy; cases RV_slice.1 hx; skip)
      | (cases RV_none.1 hx; cases RV_slice.1 hy; skip)
      | (cases RV_none.1 hx; cases RV_none.1 hy; skip)
      | (cases RV_nilMap.1 hy; cases RV_map.1 hx; skip)
      | (cases RV_nilMap.1 hx; cases RV_map.1 hy; skip)
      | (cases RV_nilMap.1 hx; cases RV_nilMap.1 hy; skip)
      | (cases RV_nilFunc.1 hy; obtain ⟨_, _, rfl, _, _⟩ := RV_fn hx; skip)
      | (cases RV_nilFunc.1 hx; obtain ⟨_, _, rfl, _, _⟩ := RV_fn hy; skip)
      | (cases RV_nilFunc.1 hx; cases RV_nilFunc.1 hy; skip)
      | (cases RV_nilIface.1 hy; obtain ⟨_, rfl, _⟩ := RV_iface.1 hx; skip)
      | (cases RV_nilIface.1 hx; obtain ⟨_, rfl, _⟩ := RV_iface.1 hy; skip)
      | skip
  all_goals
    refine ⟨rfl, fun d hd => ?_, fun op t => ?_, fun op t ox oy => ?_⟩
    · cases d <;> first | rfl | (simp only [fitsNil, Bool.false_eq_true] at hd)
    · cases op <;> rfl
    · cases op <;> rfl
theorem aeq_ok {op : BinOp} {t : TypeId} {x X y Y v : Value} (ox oy : Operand) (hx : RV φ w x X) (hy : RV φ w y Y) (h : aeq P op t x y = some v) :
    (do eqGuard op t ox oy X Y; binOp op t X Y : Sem Value).run P w = .ok v w ∧ bare v = true := by
  unfold aeq at h
  split at h
  · rename_i neg b d hn hnil hu
    split at h
    · rename_i hd
      simp only [Option.some.injEq] at h
      subst h
      refine ⟨?_, rfl⟩
      obtain ⟨h1, h2, h3, h4⟩ := nils_RV (P := P) hx hy hnil
      refine aeq_run ox oy hn (h4 _ _ _ _) ?_ (equalIn_nils hu (h2 d hd) h1 9999)
      rw [h3]
      rcases negOf_some hn with ⟨rfl, _⟩ | ⟨rfl, _⟩ <;> rfl
    · cases h
  · cases h
end Go.Ev
namespace Go.Ev
open Go
variable {P : Program} {φ : Rn} {w : World} {A : AS}
def intAt (l : List Value) (i : Nat) : Int := match l[i]? with | some (.int _ n) => n | _ => 0
theorem sameInts_spec : ∀ (a b : List Value) (r : Bool), sameInts a b = some r → a.length = b.length ∧ (∀ (i : Nat) (x : Value), a[i]? = some x → ∃ k m n, x = .int k m ∧ b[i]? = some (.int k n)) ∧
    (r = true ↔ ∀ i, i < a.length → intAt a i = intAt b i) ∧ (∀ v ∈ a, bare v = true) ∧ ∀ v ∈ b, bare v = true
  | [], [], r, h => by
    simp only [sameInts, Option.some.injEq] at h; subst h
    exact ⟨rfl, by simp, by simp, by simp, by simp⟩
  | v :: a, u :: b, r, h => by
    unfold sameInts at h
    split at h
    · rename_i h1 _; cases h1
    · rename_i j x l k y m h1 h2
      cases h1; cases h2
      split at h
      · rename_i e
        subst e
        obtain ⟨t, ht, hr⟩ := Option.map_eq_some_iff.1 h
        obtain ⟨h3, h4, h5, h6, h7⟩ := sameInts_spec a b t ht
        refine ⟨by simp [h3], fun i z hz => ?_, ?_, ?_, ?_⟩
        · cases i with
          | zero => simp at hz; exact ⟨j, x, y, hz.symm, rfl⟩
          | succ i => simpa using h4 i z (by simpa using hz)
        · rw [← hr, Bool.and_eq_true, decide_eq_true_eq, h5]
          constructor
          · rintro ⟨e1, e2⟩ i hi
            cases i with
            | zero => exact e1
            | succ i => exact e2 i (by simpa using hi)
          · intro hall
            exact ⟨hall 0 (by simp), fun i hi => hall (i + 1) (by simpa using hi)⟩
        · intro z hz
          rcases List.mem_cons.1 hz with rfl | hz
          · rfl
          · exact h6 z hz
        · intro z hz
          rcases List.mem_cons.1 hz with rfl | hz
          · rfl
          · exact h7 z hz
      · cases h
    · cases h
  | [], _ :: _, r, h => by simp [sameInts] at h
  | _ :: _, [], r, h => by unfold sameInts at h; split at h <;> simp_all
theorem run_eqItems_ints {e : TypeId} {k : IntKind} (hu : P.underlying e = some (.int k)) (d : Nat) (a b : List Value) (hab : ∀ (i : Nat) (x : Value), a[i]? = some x → ∃ k m n, x = .int k m ∧ b[i]? = some (.int k n)) :
    ∀ is : List Nat, (∀ i ∈ is, i < a.length) → (Op.eqItems (d + 1) e 1 a.toArray b.toArray is).run P w = .ok (is.all fun i => decide (intAt a i = intAt b i)) w
  | [], _ => by simp [Op.eqItems]
  | i :: is, h => by
    have hi := h i (by simp)
    obtain ⟨j, m, n, h1, h2⟩ := hab i a[i] (List.getElem?_eq_getElem hi)
    have h3 : a[i]? = some (.int j m) := by rw [List.getElem?_eq_getElem hi, h1]
    have hag : isag P e = some false := by simp [isag, hu]
    have pa : (Go.part e a.toArray (i * 1)).run P w = .ok (.int j m) w := by simp [Go.part, run_isAgg hag, h3]
    have pb : (Go.part e b.toArray (i * 1)).run P w = .ok (.int j n) w := by simp [Go.part, run_isAgg hag, h2]
    have ia : intAt a i = m := by simp [intAt, h3]
    have ib : intAt b i = n := by simp [intAt, h2]
    simp only [Op.eqItems, Sem.run_bind, pa, pb, Result.andThen_ok]
    rw [run_equalIn_int w d e j k m n hu]
    simp only [Result.andThen_ok, List.all_cons, ia, ib]
    by_cases e : m = n
    · subst e
      simp only [beq_self_eq_true, Bool.not_true, Bool.false_eq_true, if_false, decide_true, Bool.true_and]
      exact run_eqItems_ints hu d a b hab is fun j hj => h j (by simp [hj])
    · have : (m == n) = false := by simpa using e
      simp [this, e]
theorem run_eqn {op : BinOp} {t : TypeId} {xs ys : Array Value} {neg r : Bool} (ox oy : Operand) (hn : negOf op = some neg) (hg : P.eqGuardType P.depth t = false)
    (h : (Op.equalIn 10000 t (.agg xs) (.agg ys)).run P w = .ok r w) : (do eqGuard op t ox oy (.agg xs) (.agg ys); binOp op t (.agg xs) (.agg ys) : Sem Value).run P w = .ok (.bool (r != neg)) w := by
  have hgd : (eqGuard op t ox oy (.agg xs) (.agg ys)).run P w = .ok () w := by
    rcases negOf_some hn with ⟨rfl, rfl⟩ | ⟨rfl, rfl⟩ <;> simp [eqGuard, hg]
  rw [Sem.run_bind, hgd, Result.andThen_ok]
  rcases negOf_some hn with ⟨rfl, rfl⟩ | ⟨rfl, rfl⟩
  · rw [run_eql_struct, h]; simp
  · rw [run_neq_struct, h]; simp
theorem RVL_self_of {l L : List Value} (h : RVL φ w l L) (hb : ∀ v ∈ l, bare v = true) : L = l := (RVL.bare l L (vokL_mem.2 hb)).1 h
theorem aeqArr_ok {op : BinOp} {t : TypeId} {x X y Y v : Value} (ox oy : Operand) (hx : RV φ w x X) (hy : RV φ w y Y) (h : aeqArr P op t x y = some v) :
    (do eqGuard op t ox oy X Y; binOp op t X Y : Sem Value).run P w = .ok v w ∧ bare v = true := by
  unfold aeqArr at h
  split at h
  · rename_i neg len elem a b hn hu
    split at h
    · rename_i k s r hk hs hr
      split at h
      · rename_i hc
        obtain ⟨rfl, hla, hlb⟩ := hc
        simp only [Option.some.injEq] at h; subst h
        refine ⟨?_, rfl⟩
        obtain ⟨h1, h2, h3, h4, h5⟩ := sameInts_spec _ _ _ hr
        obtain ⟨X', rfl, hX⟩ := hx
        obtain ⟨Y', rfl, hY⟩ := hy
        have e1 : X' = a.toList.toArray := by rw [← RVL_self_of (RVA_iff.1 hX) h4]
        have e2 : Y' = b.toList.toArray := by rw [← RVL_self_of (RVA_iff.1 hY) h5]
        subst e1 e2
        have hgt : P.eqGuardType P.depth t = false := by
          unfold Program.depth
          rw [show 2 * (P.types.size + Made.depth) + 2 = (2 * (P.types.size + Made.depth) + 1) + 1 from rfl]
          simp [Program.eqGuardType, hu, hk]
        refine run_eqn ox oy hn hgt ?_
        obtain ⟨i, hi, hi1⟩ := Option.map_eq_some_iff.1 hs
        have hcell : P.cellsOf elem = 1 := by simp [Program.cellsOf, hi, hi1]
        rw [run_equalIn_array w 9999 _ _ hu hi, hcell, run_eqItems_ints hk 9998 a.toList b.toList h2 (List.range len) (fun i hi => by simp at hi; omega)]
        congr 1
        rw [Bool.eq_iff_iff, h3, List.all_eq_true]
        simp only [List.mem_range, decide_eq_true_eq]
        rw [hla]
      · cases h
    · cases h
  · cases h
theorem sameNow_run {t : TypeId} {d : TypeDesc} {x y : Value} {r : Bool} (hu : P.underlying t = some d) (h : Instr.sameNow d x y = some r) (n : Nat) : (Op.equalIn (n + 1) t x y).run P w = .ok r w := by
  unfold Instr.sameNow at h
  split at h
  · rename_i k a k' b c
    split at h
    · rename_i e
      simp only [Option.some.injEq] at h; subst h e
      exact run_equalIn_int w n t _ _ _ _ hu
    · cases h
  · simp only [Option.some.injEq] at h; subst h
    rw [run_equalIn_string w n t _ _ hu, beq_toListBytes]
  · simp only [Option.some.injEq] at h; subst h
    exact run_equalIn_bool w n t _ _ hu
  · cases h
theorem sameFields_run (a b : Array Value) (n : Nat) : ∀ (fs : List Field) (r : Bool), sameFields P a b fs = some r → (Op.eqFields (n + 1) a b fs).run P w = .ok r w
  | [], r, h => by simp only [sameFields, Option.some.injEq] at h; subst h; simp [Op.eqFields]
  | f :: fs, r, h => by
    unfold sameFields at h
    split at h
    · rename_i d x y hi hu hx hy
      split at h
      · rename_i r1 r2 h1 h2
        split at h
        · rename_i hne
          simp only [Option.some.injEq] at h; subst h
          have ih := sameFields_run a b n fs r2 h2
          have pa : (Go.part f.type a f.offset).run P w = .ok x w := by simp [Go.part, run_isAgg hi, hx]
          have pb : (Go.part f.type b f.offset).run P w = .ok y w := by simp [Go.part, run_isAgg hi, hy]
          simp only [Op.eqFields, if_pos hne, Sem.run_bind, pa, pb, Result.andThen_ok, sameNow_run hu h1]
          cases r1
          · simp
          · simp [ih]
        · cases h
      · cases h
    · cases h
theorem aeqSt_ok {op : BinOp} {t : TypeId} {x X y Y v : Value} (ox oy : Operand) (hx : RV φ w x X) (hy : RV φ w y Y) (h : aeqSt P op t x y = some v) :
    (do eqGuard op t ox oy X Y; binOp op t X Y : Sem Value).run P w = .ok v w ∧ bare v = true := by
  unfold aeqSt at h
  split at h
  · rename_i neg fields a b hn hu
    split at h
    · rename_i r hr
      split at h
      · rename_i hc
        obtain ⟨h1, h2, h3, h4⟩ := hc
        simp only [Option.some.injEq] at h; subst h
        refine ⟨?_, rfl⟩
        obtain ⟨X', rfl, hX⟩ := hx
        obtain ⟨Y', rfl, hY⟩ := hy
        have e1 : X' = a := Array.ext' (RVL_self_of (RVA_iff.1 hX) (List.all_eq_true.1 h3))
        have e2 : Y' = b := Array.ext' (RVL_self_of (RVA_iff.1 hY) (List.all_eq_true.1 h4))
        subst e1 e2
        refine run_eqn ox oy hn h2 ?_
        have hf : P.fieldsOf t = fields := by simp [Program.fieldsOf, hu]
        rw [run_equalIn_struct w 9999 t _ _ (by rw [hf]; exact hu) h1, hf]
        exact sameFields_run _ _ 9998 _ _ hr
      · cases h
    · cases h
  · cases h
theorem RV_str {s : ByteArray} {V : Value} : RV φ w (.string s) V ↔ V = .string s := RV.bare _ _ rfl
theorem RV_bool {b : Bool} {V : Value} : RV φ w (.bool b) V ↔ V = .bool b := RV.bare _ _ rfl
theorem abin_ok {op : BinOp} {t : TypeId} {x X y Y v : Value} (ox oy : Operand) (hx : RV φ w x X) (hy : RV φ w y Y) (h : abin P op t x y = some v) :
    (do eqGuard op t ox oy X Y; binOp op t X Y : Sem Value).run P w = .ok v w := by
  unfold abin at h
  split at h
  · rename_i k a k' b
    cases RV_int.1 hx; cases RV_int.1 hy
    have hg : (eqGuard op t ox oy (.int k a) (.int k' b)).run P w = .ok () w := by cases op <;> rfl
    rw [Sem.run_bind, hg, Result.andThen_ok]
    cases op <;> simp only at h <;>
      first
        | exact pureRun_run h w
        | (split at h
           · rename_i e; subst e; have := pureRun_run h w; simpa [binOp] using this
           · cases h)
  · rename_i a b
    cases RV_str.1 hx; cases RV_str.1 hy
    have hg : (eqGuard op t ox oy (.string a) (.string b)).run P w = .ok () w := by cases op <;> rfl
    rw [Sem.run_bind, hg, Result.andThen_ok]
    have := pureRun_run h w
    cases op <;> exact this
  · rename_i a b
    cases RV_bool.1 hx; cases RV_bool.1 hy
    split at h
    · rename_i neg hu hn
      simp only [Option.some.injEq] at h; subst h
      refine aeq_run ox oy hn ?_ ?_ (run_equal_bool w t a b hu)
      · rcases negOf_some hn with ⟨rfl, _⟩ | ⟨rfl, _⟩ <;> rfl
      · rcases negOf_some hn with ⟨rfl, _⟩ | ⟨rfl, _⟩ <;> rfl
    · cases h
  · cases h
theorem aeqRow_ok {op : BinOp} {t : TypeId} {x X y Y v : Value} (ox oy : Operand) (hx : RV φ w x X) (hy : RV φ w y Y) (h : aeqRow P op t x y = some v) :
    (do eqGuard op t ox oy X Y; binOp op t X Y : Sem Value).run P w = .ok v w ∧ bare v = true := by
  unfold aeqRow at h
  split at h
  · rename_i neg n cs m c e hn hr hu
    split at h
    · cases h
    · rename_i h0
      simp only [Option.some.injEq] at h; subst h
      rw [rowOf_some hr, RV_frow] at hx
      obtain ⟨F, _, h2⟩ := hx
      have hY : Y = .slice none m c := hy
      subst hY
      rcases h2 with ⟨_, h3, _⟩ | ⟨a, cap, rfl, _, _⟩
      · exact absurd h3 h0
      ·
        have hx' : RV ⟨fun b => b, fun _ => cap, fun _ => False⟩ w (.slice (some a) n big) (.slice (some a) n cap) := by
          show Value.slice (some a) n cap = .slice (some (renA _ a)) n (renCap _ a.block big)
          unfold renCap renA
          rw [if_neg (by omega)]; simp
        refine aeq_ok (φ := ⟨fun b => b, fun _ => cap, fun _ => False⟩) ox oy hx' (show RV _ w (.slice none m c) (.slice none m c) from rfl) ?_
        unfold aeq
        rw [hn, hu]
        rfl
  · cases h
theorem aBin_ok {op : BinOp} {t : TypeId} {x X y Y v : Value} (ox oy : Operand) (hx : RV φ w x X) (hy : RV φ w y Y) (h : aBin P op t x y = some v) :
    (do eqGuard op t ox oy X Y; binOp op t X Y : Sem Value).run P w = .ok v w ∧ bare v = true := by
  unfold aBin at h
  split at h
  · rename_i u hu
    split at h
    · rename_i hb
      simp only [Option.some.injEq] at h; subst h
      exact ⟨abin_ok ox oy hx hy hu, hb⟩
    · cases h
  · split at h
    · rename_i u hu
      simp only [Option.some.injEq] at h; subst h
      exact aeq_ok ox oy hx hy hu
    · split at h
      · rename_i u hu
        simp only [Option.some.injEq] at h; subst h
        exact aeqArr_ok ox oy hx hy hu
      · split at h
        · rename_i u hu
          simp only [Option.some.injEq] at h; subst h
          exact aeqRow_ok ox oy hx hy hu
        · exact aeqSt_ok ox oy hx hy h
end Go.Ev
namespace Go.Ev
open Go
variable {P : Program} {φ : Rn} {w : World} {A : AS}
theorem wrap_nat {n : Nat} (h : n ≤ 16777216) : IntKind.i64.wrap (n : Int) = n := by
  unfold IntKind.wrap
  have h1 : (n : Int) % (2 ^ IntKind.i64.bits : Int) = n := by show (n : Int) % (2 ^ 64 : Int) = n; omega
  simp only [h1]
  rw [if_neg]
  simp only [Bool.and_eq_true, decide_eq_true_eq]
  rintro ⟨_, h2⟩
  have h3 : (2 : Int) ^ 63 ≤ n := h2
  omega
theorem cellsAt_vok (hR : Rel φ A w) {n off k : Nat} (ho : A.ok n = true) {cs : List Value} (hc : cellsAt A n off k = some cs) : vokL A.ok cs = true := by
  unfold cellsAt at hc
  cases hg : A.h.get n with
  | none => simp [hg] at hc
  | some ab =>
    have hwf := hR.wf n ab hg (hR.toObj.of_ok hg ho).2
    have fin : ∀ all : List Value, vokL A.ok all = true → (if off + k ≤ all.length then some ((all.drop off).take k) else none) = some cs → vokL A.ok cs = true := by
      intro all ha he
      split at he
      · simp only [Option.some.injEq] at he; subst he
        rw [vokL_mem] at ha ⊢
        exact fun v hv => ha v (List.mem_of_mem_drop (List.mem_of_mem_take hv))
      · cases he
    rw [hg] at hc
    cases ab with
    | cells all e fz => exact fin all hwf hc
    | grown all e s => exact fin all hwf hc
    | _ => simp at hc
theorem part_vok {ok : Nat → Bool} {cs r : List Value} {off k : Nat} (h : part cs off k = some r) (hv : vokL ok cs = true) : vokL ok r = true := by
  obtain ⟨_, rfl⟩ := part_some h
  rw [vokL_mem] at hv ⊢
  exact fun v hv' => hv v (List.mem_of_mem_drop (List.mem_of_mem_take hv'))
theorem frow_vok {ok : Nat → Bool} {n : Nat} {cs : List Value} (h : vok ok (frow n cs) = true) : vokL ok cs = true := by
  simp only [frow, vok, vokA, Bool.and_eq_true] at h; exact h.2.1
theorem sliceCells_vok (hR : Rel φ A w) {x : Value} (ho : vok A.ok x = true) {k : Nat} {cs : List Value} (h : sliceCells A x k = some cs) : vokL A.ok cs = true := by
  unfold sliceCells at h
  split at h
  · split at h
    · simp only [Option.some.injEq] at h; subst h; rfl
    · split at h
      · exact cellsAt_vok hR ho h
      · cases h
  · split at h
    · simp only [Option.some.injEq] at h; subst h; rfl
    · cases h
  · split at h
    · rename_i hr
      rw [rowOf_some hr] at ho
      exact part_vok h (frow_vok ho)
    · cases h
theorem run_lenOf {a : Option Addr} {n c : Nat} : (Builtin.lenOf (.slice a n c)).run P w = .ok n w := rfl
structure Adds (P : Program) (elem : TypeId) (size : Nat) (zeros : Bool) (X : Value) (n : Nat) (NEW : List Value) (w : World) : Prop where
  len : NEW.length = n * size
  yes : zeros = true → ∃ k, X = .int k n
  zero : zeros = true → n ≤ 16777216 ∧ ∃ z, (∀ w' : World, (zeroValue elem).run P w' = .ok z w') ∧ (n * size ≠ 0 → NEW.toArray = Builtin.zeroCells z.cells n)
  no : zeros = false → (∀ w' : World, (Builtin.lenOf X).run P w' = .ok n w') ∧ ∀ w' : World, w'.heap = w.heap → (Builtin.firstCells size n X).run P w' = .ok NEW.toArray w'
theorem Cells.heap {w w' : World} (h : w'.heap = w.heap) {a : Addr} {L : List Value} (hc : Cells w a L) : Cells w' a L := by
  intro i V hV
  have := hc i V hV
  unfold World.cell? at this ⊢
  rw [h]; exact this
theorem Adds.run {elem : TypeId} {size n : Nat} {zeros : Bool} {X : Value} {NEW : List Value} (h : Adds P elem size zeros X n NEW w) {w' : World} (hw : w'.heap = w.heap) :
    (if (!zeros) = true then Builtin.firstCells size n X else if n * size = 0 then pure #[] else do pure (Builtin.zeroCells (← zeroValue elem).cells n) : Sem (Array Value)).run P w' = .ok NEW.toArray w' := by
  cases zeros with
  | false => exact (h.no rfl).2 w' hw
  | true =>
    obtain ⟨_, z, h1, h2⟩ := h.zero rfl
    simp only [Bool.not_true, Bool.false_eq_true, if_false]
    by_cases h0 : n * size = 0
    · rw [if_pos h0]
      have : NEW = [] := List.eq_nil_of_length_eq_zero (by rw [h.len, h0])
      subst this; rfl
    · rw [if_neg h0]
      simp [h1, h2 h0]
theorem newCells_ok (hR : Rel φ A w) {elem : TypeId} {size : Nat} {zeros : Bool} {x X : Value} {new : List Value} {n : Nat} (ho : vok A.ok x = true) (hx : RV φ w x X)
    (h : newCells P A elem size zeros x = some (new, n)) (hl : new.length = n * size) : ∃ NEW, RVL φ w new NEW ∧ Adds P elem size zeros X n NEW w ∧ vokL A.ok new = true := by
  unfold newCells at h
  cases zeros with
  | true =>
    simp only [if_true] at h
    split at h
    · rename_i m z hm hz
      obtain ⟨k, rfl⟩ := nat_RV hm hx
      have hzb := (zeroOf_ok (w := w) hz).2.1
      split at h
      · cases h
      · rename_i hle
        split at h
        · rename_i h0
          simp only [Option.some.injEq, Prod.mk.injEq] at h
          obtain ⟨rfl, rfl⟩ := h
          exact ⟨[], rfl, ⟨by simpa using hl, fun _ => ⟨k, rfl⟩, fun _ => ⟨by omega, z, fun w' => (zeroOf_ok hz).1, fun h => absurd h0 h⟩, fun h => (by cases h)⟩, rfl⟩
        · rename_i h0
          simp only [Option.some.injEq, Prod.mk.injEq] at h
          obtain ⟨rfl, rfl⟩ := h
          have hb : ∀ v ∈ (Builtin.zeroCells z.cells m).toList, bare v = true := by
            intro v hv
            simp only [Builtin.zeroCells, Array.toList_map, List.mem_map] at hv
            obtain ⟨i, _, rfl⟩ := hv
            have hzc : ∀ u ∈ z.cells.toList, bare u = true := vokL_mem.1 (vok_cells hzb)
            by_cases hlt : i % z.cells.size < z.cells.size
            · rw [getElem!_pos z.cells _ hlt]; exact hzc _ (by simp)
            · rw [getElem!_neg z.cells _ hlt]; rfl
          exact ⟨_, (RVL.bare _ _ (vokL_mem.2 hb)).2 rfl, ⟨hl, fun _ => ⟨k, rfl⟩, fun _ => ⟨by omega, z, fun w' => (zeroOf_ok hz).1, fun _ => rfl⟩, fun h => (by cases h)⟩, vokL_mem.2 fun v hv => bare_ok (hb v hv)⟩
    · cases h
  | false =>
    simp only [Bool.false_eq_true, if_false] at h
    split at h
    · rename_i s
      simp only [Option.some.injEq, Prod.mk.injEq] at h
      obtain ⟨rfl, rfl⟩ := h
      cases RV_str.1 hx
      have hb : ∀ v ∈ (s.data.toList.map fun b => Value.int .u8 b.toNat), bare v = true := by
        intro v hv
        obtain ⟨b, _, rfl⟩ := List.mem_map.1 hv
        rfl
      refine ⟨_, (RVL.bare _ _ (vokL_mem.2 hb)).2 rfl, ⟨hl, fun h => (by cases h), fun h => (by cases h), fun _ => ⟨fun w' => rfl, fun w' _ => ?_⟩⟩, vokL_mem.2 fun v hv => bare_ok (hb v hv)⟩
      simp only [Builtin.firstCells, Sem.run_pure]
      congr 1
      apply Array.ext'
      have : (s.extract 0 s.size) = s := by simp
      rw [this]; simp
    · rename_i y hy
      split at h
      · rename_i m hm
        split at h
        · rename_i cs hc
          simp only [Option.some.injEq, Prod.mk.injEq] at h
          obtain ⟨rfl, rfl⟩ := h
          obtain ⟨a, n', cap, L, rfl, h1, h2, h3⟩ := sliceCells_ok hR.toObj ho hx hc
          obtain ⟨a', cap', he'⟩ := sliceLen_ok hx hm
          cases he'
          refine ⟨L, h1, ⟨h2, fun h => (by cases h), fun h => (by cases h), fun _ => ⟨fun w' => rfl, fun w' hw => ?_⟩⟩, ?_⟩
          · cases a with
            | none =>
              simp only at h3
              have : L = [] := List.eq_nil_of_length_eq_zero (by omega)
              subst this; simp [Builtin.firstCells]
            | some a =>
              simp only [Builtin.firstCells]
              exact run_loadCells0 h3.1 h2 (h3.2.heap hw)
          · exact sliceCells_vok hR ho hc
        · cases h
      · cases h
structure App (P : Program) (argTypes : Array TypeId) (elem : TypeId) (i : TypeInfo) (z : Value) (zeros : Bool) (n : Nat) : Prop where
  st : ∃ s, argTypes[0]? = some s ∧ P.underlying s = some (.slice elem)
  zs : isZeros P argTypes[1]? = some zeros
  info : P.info? elem = some i
  zero : i.zero = some z
  bytes : i.bytes ≤ 4096
theorem isZeros_some {x : Option TypeId} {zeros : Bool} (h : isZeros P x = some zeros) : ∃ xt d, x = some xt ∧ P.underlying xt = some d ∧ ((∃ k, d = .int k) ∧ zeros = true ∨ (∀ k, d ≠ .int k) ∧ zeros = false) := by
  unfold isZeros at h
  split at h
  · rename_i xt
    split at h
    · rename_i k hu; cases h; exact ⟨xt, _, rfl, hu, .inl ⟨⟨k, rfl⟩, rfl⟩⟩
    · rename_i d hd hu; cases h; exact ⟨xt, _, rfl, hu, .inr ⟨fun k e => by first | exact hd k e | exact hd k (by rw [hu, e]), rfl⟩⟩
    · cases h
  · cases h
theorem run_append_room {argTypes : Array TypeId} {elem ty : TypeId} {i : TypeInfo} {z X : Value} {zeros : Bool} {n sLen sCap : Nat} {base : Option Addr} {NEW : List Value} (h : App P argTypes elem i z zeros n) (hA : Adds P elem i.size zeros X n NEW w)
    (hn : sLen + n ≤ sCap) : (Builtin.append_ argTypes ty #[.slice base sLen sCap, X]).run P w =
      ((match base with | some a => storeCells (a.add (sLen * i.size)) NEW | none => pure () : Sem Unit).run P w).andThen fun _ w' => .ok (.slice base (sLen + n) sCap) w' := by
  obtain ⟨s, h1, h2⟩ := h.st
  have hs : szof P elem = some i.size := by simp [szof, h.info]
  obtain ⟨xt, d, hx, hd, hor⟩ := isZeros_some h.zs
  have hrun := hA.run (w' := w) rfl
  unfold Builtin.append_
  simp only [h1, hx, List.getElem?_toArray, List.getElem?_cons_zero, List.getElem?_cons_succ, Sem.run_bind, run_underlying h2, run_underlying hd, Result.andThen_ok, run_sizeOf hs, Sem.run_pure]
  have hbytes := h.bytes
  rcases hor with ⟨⟨k0, rfl⟩, rfl⟩ | ⟨hni, rfl⟩
  ·   obtain ⟨k, rfl⟩ := hA.yes rfl
      obtain ⟨hle, _⟩ := hA.zero rfl
      simp only [Bool.not_true, Bool.false_eq_true, if_false, if_true] at hrun ⊢
      have hb : ¬ ((n : Int) * (i.bytes : Int) > 2 ^ 48) := by
        have : n * i.bytes ≤ 16777216 * 4096 := Nat.mul_le_mul hle hbytes
        omega
      simp only [asInt, asIntOf, Sem.run_bind, Sem.run_pure, Result.andThen_ok, wrap_nat hle, run_typeInfo h.info, if_neg hb, if_neg (show ¬ ((n : Int) < 0) by omega), Int.toNat_natCast, if_pos hn]
      rw [hrun]
      simp only [Result.andThen_ok]
      cases base <;> simp
  · cases d with
    | int k => exact absurd rfl (hni k)
    | _ =>
        simp only [Bool.not_false, if_true, Bool.false_eq_true, if_false, Sem.run_bind] at hrun ⊢
        rw [(hA.no rfl).1 w]
        simp only [Result.andThen_ok, if_pos hn, Sem.run_bind]
        rw [hrun]
        simp only [Result.andThen_ok]
        cases base <;> simp
theorem run_append_more {argTypes : Array TypeId} {elem ty : TypeId} {i : TypeInfo} {z X : Value} {zeros : Bool} {n sLen sCap : Nat} {base : Option Addr} {OLD NEW : List Value} (h : App P argTypes elem i z zeros n) (hA : Adds P elem i.size zeros X n NEW w)
    (hn : ¬ sLen + n ≤ sCap) (hle : sLen + n ≤ 16777216) (hold : (Builtin.firstCells i.size sLen (.slice base sLen sCap)).run P w.drew = .ok OLD.toArray w.drew) :
    (Builtin.append_ argTypes ty #[.slice base sLen sCap, X]).run P w =
      .ok (.slice (some ⟨w.heap.size, 0, none⟩) (sLen + n) (grownCap w (sLen + n) sCap elem)) (w.drew.alloc (.cells (OLD ++ NEW ++ (Builtin.zeroCells z.cells (grownCap w (sLen + n) sCap elem - (sLen + n))).toList).toArray elem)) := by
  obtain ⟨s, h1, h2⟩ := h.st
  have hs : szof P elem = some i.size := by simp [szof, h.info]
  obtain ⟨xt, d, hx, hd, hor⟩ := isZeros_some h.zs
  have hrun := hA.run (w' := w.drew) rfl
  have hbytes := h.bytes
  have hfit : ¬ (Builtin.nextslicecap (sLen + n) sCap * i.bytes > 2 ^ 48) := by
    have h3 := nextslicecap_le (need := sLen + n) (old := sCap) (by omega)
    have : Builtin.nextslicecap (sLen + n) sCap * i.bytes ≤ 33554432 * 4096 := Nat.mul_le_mul (by omega) hbytes
    omega
  have hmax : ¬ ((sLen + n : Nat) : Int) > IntKind.i64.max := by
    have : IntKind.i64.max = 9223372036854775807 := by decide
    rw [this]; omega
  have hcell : ∀ (l : List Value), (OLD.toArray ++ NEW.toArray ++ l.toArray) = (OLD ++ NEW ++ l).toArray := fun l => by simp
  have fin : ∀ q : Array Value, (OLD.toArray ++ NEW.toArray ++ q) = (OLD ++ NEW ++ q.toList).toArray := fun q => by rw [← hcell]
  unfold Builtin.append_
  simp only [h1, hx, List.getElem?_toArray, List.getElem?_cons_zero, List.getElem?_cons_succ, Sem.run_bind, run_underlying h2, run_underlying hd, Result.andThen_ok, run_sizeOf hs, Sem.run_pure]
  rcases hor with ⟨⟨k0, rfl⟩, rfl⟩ | ⟨hni, rfl⟩
  ·   obtain ⟨k, rfl⟩ := hA.yes rfl
      obtain ⟨hle, _⟩ := hA.zero rfl
      simp only [Bool.not_true, Bool.false_eq_true, if_false, if_true] at hrun ⊢
      have hb : ¬ ((n : Int) * (i.bytes : Int) > 2 ^ 48) := by
        have : n * i.bytes ≤ 16777216 * 4096 := Nat.mul_le_mul hle hbytes
        omega
      simp only [asInt, asIntOf, Sem.run_bind, Sem.run_pure, Result.andThen_ok, wrap_nat hle, run_typeInfo h.info, if_neg hb, if_neg (show ¬ ((n : Int) < 0) by omega), Int.toNat_natCast, if_neg hn, hmax, false_and, if_false, if_neg hfit, run_choose, Question.forced, Bool.false_eq_true, World.drew_eq, run_askRoom, hold, hrun]
      rw [run_zeroValue h.info h.zero]
      simp only [Result.andThen_ok, newRow, Sem.run_bind, run_newObj, Sem.run_pure, fin]
      rfl
  · cases d with
    | int k => exact absurd rfl (hni k)
    | _ =>
        simp only [Bool.not_false, if_true, Bool.false_eq_true, if_false, Sem.run_bind] at hrun ⊢
        rw [(hA.no rfl).1 w]
        simp only [Result.andThen_ok, if_neg hn, Sem.run_bind, run_typeInfo h.info, hmax, false_and, if_false, if_neg hfit, run_choose, Question.forced, Bool.false_eq_true, World.drew_eq, run_askRoom, hold, hrun, Sem.run_pure]
        rw [run_zeroValue h.info h.zero]
        simp only [Result.andThen_ok, newRow, Sem.run_bind, run_newObj, Sem.run_pure, fin]
        rfl
end Go.Ev
namespace Go.Ev
open Go
variable {P : Program} {φ : Rn} {w : World} {A : AS}
theorem le_grownCap {need old : Nat} {e : TypeId} : need ≤ grownCap w need old e := Nat.le_add_right _ _
theorem newGrown_ok (hR : Rel φ A w) {elem : TypeId} {cs CS Z : List Value} {s x n : Nat} {A' : AS} (hv : vokL A.ok cs = true) (hC : RVL φ w cs CS) (hZ : Z.length = x * s)
    (h : anew A (.grown cs elem s) = some (n, A')) :
    ∃ φ', φ'.b n = w.heap.size ∧ φ'.x n = x ∧ Rel φ' A' (w.alloc (.cells (CS ++ Z).toArray elem)) ∧ Runs φ A w φ' A' (w.alloc (.cells (CS ++ Z).toArray elem)) := by
  obtain ⟨rfl, rfl, h1, h2⟩ := anew_some h
  have he : Ext A.ok φ w (upd φ A.next w.heap.size x) (w.alloc (.cells (CS ++ Z).toArray elem)) := ext_upd hR _ _ fun b hb => by
    show (w.heap.push _)[b]? = _
    rw [Array.getElem?_push, if_neg (by have := (hR.fro b hb).1; omega)]
  have hlen := hC.length
  obtain ⟨h3, h4⟩ := hR.alloc (ab := .grown cs elem s) (o := .cells (CS ++ Z).toArray elem) x h1 h2 (vokL_mono (fun n hn => put_ok A _ n hn) _ hv)
    ⟨_, rfl, by rw [List.take_append, hlen]; simpa using hC.ext he _ _ hv, by simp [hlen, hZ]⟩
  exact ⟨_, upd_same _ _ _ _, upd_same' _ _ _ _, h3, h4⟩
theorem zeroCells_length (z : Array Value) (n : Nat) : (Builtin.zeroCells z n).toList.length = n * z.size := by simp [Builtin.zeroCells]
theorem grow_new (hR : Rel φ A w) {argTypes : Array TypeId} {elem ty : TypeId} {i : TypeInfo} {z X : Value} {zeros : Bool} {n sLen sCap : Nat} {base : Option Addr} {old OLD new NEW : List Value}
    (h : App P argTypes elem i z zeros n) (hA : Adds P elem i.size zeros X n NEW w) (hz : z.cells.size = i.size)
    (hn : ¬ sLen + n ≤ sCap) (hle : sLen + n ≤ 16777216) (hold : (Builtin.firstCells i.size sLen (.slice base sLen sCap)).run P w.drew = .ok OLD.toArray w.drew)
    (ho : RVL φ w old OLD) (hw : RVL φ w new NEW) (hov : vokL A.ok old = true) (hnv : vokL A.ok new = true) {A' : AS} {b : Nat} (ha : anew A (.grown (old ++ new) elem i.size) = some (b, A')) :
    Turns P φ A w (Builtin.append_ argTypes ty #[.slice base sLen sCap, X]) (.slice (some ⟨b, 0, none⟩) (sLen + n) (big + (sLen + n))) A' := by
  have hrun := run_append_more (P := P) (ty := ty) h hA hn hle hold
  have hd := hR.drew (w.drawn + 1)
  have hx : Ext A.ok φ w φ w.drew := ⟨fun _ _ => ⟨rfl, rfl⟩, fun _ h => h, fun _ _ => rfl⟩
  obtain ⟨φ', h1, h2, h3, h4⟩ := newGrown_ok (w := w.drew) hd (Z := (Builtin.zeroCells z.cells (grownCap w (sLen + n) sCap elem - (sLen + n))).toList) (s := i.size) (x := grownCap w (sLen + n) sCap elem - (sLen + n))
    (by rw [vokL_append, hov, hnv]; rfl) ((ho.ext hx _ _ hov).append (hw.ext hx _ _ hnv)) (by rw [zeroCells_length, hz]) ha
  refine ⟨_, φ', _, hrun, ?_, h3, (Runs.drew φ A w (w.drawn + 1)).trans h4⟩
  rw [RV_slice]
  have : renCap φ' b (big + (sLen + n)) = grownCap w (sLen + n) sCap elem := by
    have hg := le_grownCap (w := w) (need := sLen + n) (old := sCap) (e := elem)
    unfold renCap; rw [if_neg (by omega), h2]; omega
  show _ = Value.slice (some (renA φ' ⟨b, 0, none⟩)) _ (renCap φ' b _)
  rw [this, renA, h1]
  rfl
theorem append1_ok (hR : Rel φ A w) {argTypes : Array TypeId} {elem ty sT : TypeId} {zeros : Bool} {s S x X v : Value} {A' : AS} (hos : vok A.ok s = true) (hox : vok A.ok x = true) (hs : RV φ w s S) (hx : RV φ w x X)
    (hst : argTypes[0]? = some sT) (hsu : P.underlying sT = some (.slice elem)) (hz : isZeros P argTypes[1]? = some zeros) (h : append1 P A elem zeros s x = some (v, A')) :
    Turns P φ A w (Builtin.append_ argTypes ty #[S, X]) v A' := by
  unfold append1 at h
  split at h
  · rename_i i z base sLen sCap hi hzo
    obtain ⟨hz1, hz2, i', hi', hz3⟩ := zeroOf_ok (w := w) hzo
    rw [hi] at hi'; cases hi'
    split at h
    · rename_i hzl
      have hzs : z.cells.size = i.size := by simpa using hzl
      split at h
      · rename_i new n hnew
        split at h
        · cases h
        · rename_i hc
          have hle : sLen + n ≤ 16777216 := by omega
          have hbytes : i.bytes ≤ 4096 := by omega
          have hsize : i.size ≠ 0 := by omega
          have hnl : new.length = n * i.size := by omega
          obtain ⟨NEW, hN1, hN2, hN3⟩ := newCells_ok hR hox hx hnew hnl
          have hApp : App P argTypes elem i z zeros n := ⟨⟨sT, hst, hsu⟩, hz, hi, hz3, hbytes⟩
          split at h
          ·
            split at h
            · cases h
            · rename_i hz0
              have hl0 : sLen = 0 := by omega
              have hc0 : sCap = 0 := by omega
              subst hl0 hc0
              cases RV_none.1 hs
              unfold appendNew at h
              split at h
              · rename_i hn0
                subst hn0
                simp only [Option.some.injEq, Prod.mk.injEq] at h
                obtain ⟨rfl, rfl⟩ := h
                refine ⟨.slice none 0 0, φ, w, ?_, RV_none.2 rfl, hR, Runs.refl _ _ _⟩
                rw [run_append_room hApp hN2 (by omega)]
                rfl
              · rename_i hn0
                split at h
                · rename_i b A1 ha
                  simp only [Option.some.injEq, Prod.mk.injEq] at h
                  obtain ⟨rfl, rfl⟩ := h
                  have := grow_new (P := P) (ty := ty) (base := none) (old := []) (OLD := []) hR hApp hN2 hzs (sLen := 0) (sCap := 0) (by omega) (by omega) rfl rfl hN1 rfl hN3 ha
                  simpa using this
                · cases h
          · rename_i a
            unfold appendAt at h
            split at h
            · cases h
            · rename_i hsp
              have hspot : a.spot = none := by simpa using hsp
              have hS := RV_slice.1 hs
              subst hS
              have hoa : A.ok a.block = true := hos
              have hknown : (if sCap < big then sCap else sCap - big) ≤ renCap φ a.block sCap := by unfold renCap; split <;> omega
              generalize hkn : (if sCap < big then sCap else sCap - big) = known at h hknown
              split at h
              ·
                rename_i hle2
                split at h
                · rename_i A1 hsc
                  simp only [Option.some.injEq, Prod.mk.injEq] at h
                  obtain ⟨rfl, rfl⟩ := h
                  obtain ⟨w', h1, h2, h3⟩ := setCells_ok (P := P) hR hoa hN3 hN1 hsc
                  refine ⟨_, φ, w', ?_, RV_slice.2 rfl, h2, h3⟩
                  rw [run_append_room hApp hN2 (by omega)]
                  have e : (renA φ a).add (sLen * i.size) = ⟨φ.b a.block, a.off + sLen * i.size, none⟩ := by rw [add_off _ _ (show (renA φ a).spot = none from hspot)]; rfl
                  simp only [e, h1, Result.andThen_ok]
                · cases h
              · rename_i hgt
                split at h
                · cases h
                · rename_i old hold
                  obtain ⟨OLD, hO1, hO2, hO3⟩ := cellsAt_ok hR.toObj hoa hold
                  have hOlen : OLD.length = sLen * i.size := by rw [← hO1.length, hO3]
                  have hov := cellsAt_vok hR hoa hold
                  have ea : (⟨φ.b a.block, a.off, none⟩ : Addr) = renA φ a := by cases a; simp_all [renA]
                  rw [ea] at hO2
                  have hfirst : ∀ c, (Builtin.firstCells i.size sLen (.slice (some (renA φ a)) sLen c)).run P w.drew = .ok OLD.toArray w.drew := fun c => by
                    simp only [Builtin.firstCells]
                    exact run_loadCells (show (renA φ a).spot = none from hspot) hOlen (hO2.heap rfl)
                  split at h
                  ·
                    rename_i hlt
                    rw [if_pos hlt] at hkn; rw [← hkn] at hgt
                    split at h
                    · rename_i b A1 ha
                      simp only [Option.some.injEq, Prod.mk.injEq] at h
                      obtain ⟨rfl, rfl⟩ := h
                      have hcap : renCap φ a.block sCap = sCap := by unfold renCap; rw [if_pos hlt]
                      rw [hcap]
                      exact grow_new (P := P) (ty := ty) hR hApp hN2 hzs hgt hle (hfirst _) hO1 hN1 hov hN3 ha
                    · cases h
                  · rename_i hge
                    rw [if_neg hge] at hkn; rw [← hkn] at hgt
                    split at h
                    · cases h
                    · rename_i hoff
                      have hoff : a.off = 0 := by omega
                      split at h
                      · rename_i cs e' s' hg
                        split at h
                        · rename_i hcond
                          obtain ⟨he, hs', hk, hoc, hnc⟩ := hcond
                          rw [he, hs'] at hg
                          split at h
                          · rename_i b A1 ha
                            simp only [Option.some.injEq, Prod.mk.injEq] at h
                            obtain ⟨rfl, rfl⟩ := h
                            have hp := (hR.toObj.of_ok hg hoa).2
                            have hlt := hR.lt _ _ hg
                            obtain ⟨c, hc1, hc2, hc3⟩ := hR.obj _ _ hg hp
                            have hcap : renCap φ a.block sCap = sCap - big + φ.x a.block := by unfold renCap; rw [if_neg hge]
                            rw [hcap]
                            by_cases hin : sLen + n ≤ sCap - big + φ.x a.block
                            ·
                              obtain ⟨rfl, rfl, hr1, hr2⟩ := anew_some ha
                              have hcs : c.size = (sCap - big + φ.x a.block) * i.size := by rw [hc3, ← hk, Nat.add_mul]
                              have hNlen : NEW.length = n * i.size := by rw [← hN1.length, hnl]
                              have hfit : sLen * i.size + n * i.size ≤ c.size := by rw [hcs, ← Nat.add_mul]; exact Nat.mul_le_mul_right _ hin
                              obtain ⟨w', hw1, c', hw2, hw3⟩ := run_storeCells (P := P) (a := ⟨φ.b a.block, sLen * i.size, none⟩) rfl NEW 0 w c elem hc1 (by simp; omega) (cellv_all hnc hN1)
                              have hx2 : Ext A.ok φ w (upd φ A.next (φ.b a.block) (sCap - big + φ.x a.block - (sLen + n))) w' := ext_upd hR _ _ fun b hb => hw2.other b fun e => (hR.fro b hb).2 _ _ hg rfl hp e.symm
                              have hcl : cs.length ≤ c.toList.length := by simp; omega
                              have hOc : OLD = c.toList.take (sLen * i.size) := by
                                refine List.ext_getElem? fun j => ?_
                                rw [List.getElem?_take]
                                by_cases hj : j < OLD.length
                                · have := hO2 j _ (List.getElem?_eq_getElem hj)
                                  rw [← ea, hoff, cell_of hc1, Nat.zero_add] at this
                                  rw [if_pos (by omega), List.getElem?_eq_getElem hj, ← this]; simp
                                · rw [if_neg (by omega), List.getElem?_eq_none (by omega)]
                              obtain ⟨h3, h4⟩ := hR.grow (ab' := .grown (old ++ new) elem i.size) (w' := w') (sCap - big + φ.x a.block - (sLen + n)) hg rfl hp hr1 hr2
                                (by show vokL _ _ = true; rw [vokL_append]; rw [vokL_mono (fun n hn => put_ok A _ n hn) _ hov, vokL_mono (fun n hn => put_ok A _ n hn) _ hN3]; rfl) hw2.size
                                ⟨c', hw2.at_, by
                                  have e1 : c'.toList.take (old ++ new).length = OLD ++ NEW := by
                                    rw [hw3, List.length_append, hO3, hnl]
                                    unfold splice
                                    simp only [Nat.add_zero]
                                    rw [← hOc, List.take_append_of_le_length (by simp [hOlen, hNlen]), List.take_of_length_le (by simp [hOlen, hNlen])]
                                  rw [e1]
                                  exact (hO1.ext hx2 _ _ hov).append (hN1.ext hx2 _ _ hN3), by
                                  have e2 : c'.size = c.size := by
                                    have e6 := congrArg List.length hw3
                                    rw [splice_length _ _ _ (by show sLen * i.size + 0 + NEW.length ≤ c.toList.length; rw [hNlen, Nat.add_zero]; simpa using hfit)] at e6
                                    simpa using e6
                                  have e5 : sLen + n + (sCap - big + φ.x a.block - (sLen + n)) = sCap - big + φ.x a.block := by omega
                                  rw [e2, hcs, List.length_append, hO3, hnl, ← Nat.add_mul, ← Nat.add_mul, e5]⟩
                                hw2.other hw2.os hw2.tape hw2.out
                              refine ⟨.slice (some (renA φ a)) (sLen + n) (sCap - big + φ.x a.block), _, w', ?_, ?_, h3, h4⟩
                              · rw [run_append_room hApp hN2 hin]
                                have e : (renA φ a).add (sLen * i.size) = ⟨φ.b a.block, sLen * i.size, none⟩ := by rw [add_off _ _ (show (renA φ a).spot = none from hspot)]; simp [renA, hoff]
                                simp only [e, hw1, Result.andThen_ok]
                              · rw [RV_slice]
                                have e3 : renCap (upd φ A.next (φ.b a.block) (sCap - big + φ.x a.block - (sLen + n))) A.next (big + (sLen + n)) = sCap - big + φ.x a.block := by
                                  unfold renCap; rw [if_neg (by omega), upd_same']; omega
                                have e4 : renA (upd φ A.next (φ.b a.block) (sCap - big + φ.x a.block - (sLen + n))) ⟨A.next, 0, none⟩ = renA φ a := by
                                  rw [← ea, hoff]; unfold renA; rw [upd_same]
                                show _ = Value.slice (some (renA _ ⟨A.next, 0, none⟩)) _ (renCap _ A.next _)
                                rw [e3, e4]
                            ·
                              obtain ⟨k1, k2⟩ := hR.kill hlt hp
                              have := grow_new (P := P) (ty := ty) (A := A.set a.block .dead) k1 hApp hN2 hzs hin hle (hfirst _) hO1 hN1 hov hN3 ha
                              obtain ⟨V, φ', w', q1, q2, q3, q4⟩ := this
                              exact ⟨V, φ', w', q1, q2, q3, k2.trans q4⟩
                          · cases h
                        · cases h
                      · cases h
      · cases h
    · cases h
  · cases h
end Go.Ev
namespace Go.Ev
open Go
variable {P : Program} {φ : Rn} {w : World} {A : AS}
theorem acopy_ok (hR : Rel φ A w) {argTypes : Array TypeId} {ty : TypeId} {s S x X v : Value} {A' : AS} (hos : vok A.ok s = true) (hox : vok A.ok x = true) (hs : RV φ w s S) (hx : RV φ w x X)
    (h : acopy P A argTypes [s, x] = some (v, A')) : Turns P φ A w (Builtin.copy_ argTypes ty #[S, X]) v A' := by
  unfold acopy at h
  split at h
  · rename_i dT a dLen cap src hT heq
    simp only [List.cons.injEq, and_true] at heq
    obtain ⟨rfl, rfl⟩ := heq
    split at h
    · rename_i elem len hu hlen
      split at h
      · rename_i sz hsz
        split at h
        · cases h
        · rename_i hsp
          have hspot : a.spot = none := by simpa using hsp
          split at h
          · rename_i cells hc
            split at h
            · rename_i A1 hsc
              simp only [Option.some.injEq, Prod.mk.injEq] at h
              obtain ⟨rfl, rfl⟩ := h
              cases RV_slice.1 hs
              obtain ⟨b, n', cap', L, rfl, h1, h2, h3⟩ := sliceCells_ok hR.toObj hox hx hc
              obtain ⟨a', cap2, he'⟩ := sliceLen_ok hx hlen
              cases he'
              obtain ⟨w', q1, q2, q3⟩ := setCells_ok (P := P) hR (show A.ok a.block = true from hos) (sliceCells_vok hR hox hc) h1 hsc
              refine ⟨goInt (Nat.min len dLen), φ, w', ?_, RV_self rfl, q2, q3⟩
              have e : (renA φ a) = ⟨φ.b a.block, a.off, none⟩ := by cases a; simp_all [renA]
              have hf : (Builtin.firstCells sz (Nat.min len dLen) (.slice b len cap')).run P w = .ok L.toArray w := by
                cases b with
                | none =>
                  simp only at h3
                  have : L = [] := List.eq_nil_of_length_eq_zero (by omega)
                  subst this; simp [Builtin.firstCells]
                | some b => simp only [Builtin.firstCells]; exact run_loadCells0 h3.1 h2 h3.2
              unfold Builtin.copy_
              simp only [hT, List.getElem?_toArray, List.getElem?_cons_zero, List.getElem?_cons_succ, Sem.run_bind, run_underlying hu, Result.andThen_ok, run_lenOf, run_sizeOf hsz, hf, e, q1, Sem.run_pure]
            · cases h
          · cases h
      · cases h
    · cases h
  · cases h
theorem operands_eq (op : Op) (hs : ∀ cs b, op ≠ .select cs b) : op.operands.toList = opsL op := by
  cases op with
  | select cs b => exact absurd rfl (hs cs b)
  | call c => simp only [Op.operands, Call.operands, opsL]; cases c.callee <;> simp
  | go c => simp only [Op.operands, Call.operands, opsL]; cases c.callee <;> simp
  | defer c => simp only [Op.operands, Call.operands, opsL]; cases c.callee <;> simp
  | _ => simp [Op.operands, opsL]
theorem aBare_ok {tm : Trie Value} {o : Oper} {v : Value} {A' : AS} {ρ : Operand → Value} (hs : ∀ cs b, o.op ≠ .select cs b) (hρ : ∀ x ∈ opsL o.op, RV φ w (ev tm x) (ρ x)) (h : aBare P tm o A = some (v, A')) :
    A' = A ∧ (execOp ρ o).run P w = .ok (.value v) w ∧ RV φ w v v := by
  unfold aBare at h
  split at h
  · rename_i hb
    have hb := List.all_eq_true.1 hb
    have hc : execOp ρ o = execOp (ev tm) o := execOp_congr o hs fun x hx => by
      have hx' : x ∈ opsL o.op := by rw [← operands_eq o.op hs]; simpa using hx
      exact (RV.bare _ _ (hb x hx')).1 (hρ x hx')
    split at h
    · rename_i u hu
      split at h
      · rename_i hbu
        simp only [Option.some.injEq, Prod.mk.injEq] at h
        obtain ⟨rfl, rfl⟩ := h
        exact ⟨rfl, by rw [hc]; exact pureRun_run hu w, RV_self hbu⟩
      · cases h
    · cases h
  · cases h
def isVal (o : Oper) : Bool :=
  match o.op with
  | .alloc _ | .box _ _ | .buildSlice _ _ _ | .store _ _ _ | .makeMap _ _ | .mapUpdate _ _ _ _ => false
  | .call c => (match c.callee with | .builtin .append | .builtin .copy => false | _ => true)
  | _ => true
theorem val_ok (hO : ObjRel φ A w) {tm : Trie Value} {o : Oper} {v : Value} {A' : AS} {ρ : Operand → Value} (hv : isVal o = true) (hρ : ∀ x ∈ opsL o.op, RV φ w (ev tm x) (ρ x)) (hk : ∀ x ∈ opsL o.op, vok A.ok (ev tm x) = true)
    (h : aop P tm o A = some (v, A')) : A' = A ∧ ∃ V, (execOp ρ o).run P w = .ok (.value V) w ∧ RV φ w v V := by
  have hs : ∀ cs b, o.op ≠ .select cs b := by
    intro cs b e
    unfold aop at h; rw [e] at h; simp [aopOf] at h
  have viaB : ∀ {v' : Value} {A1 : AS}, aBare P tm o A = some (v', A1) → A1 = A ∧ ∃ V, (execOp ρ o).run P w = .ok (.value V) w ∧ RV φ w v' V := fun h => by
    obtain ⟨h1, h2, h3⟩ := aBare_ok (φ := φ) hs hρ h
    exact ⟨h1, _, h2, h3⟩
  have viaO : ∀ {r : Option Value}, (∀ u, r = some u → ∃ V, (execOp ρ o).run P w = .ok (.value V) w ∧ RV φ w u V) → orBare P tm o A r = some (v, A') → A' = A ∧ ∃ V, (execOp ρ o).run P w = .ok (.value V) w ∧ RV φ w v V := fun hr h => by
    unfold orBare at h
    split at h
    · rename_i u
      simp only [Option.some.injEq, Prod.mk.injEq] at h
      obtain ⟨rfl, rfl⟩ := h
      exact ⟨rfl, hr _ rfl⟩
    · exact viaB h
  have viaS : ∀ {r : Option Value}, (∀ u, r = some u → ∃ V, (execOp ρ o).run P w = .ok (.value V) w ∧ RV φ w u V) → still1 A r = some (v, A') → A' = A ∧ ∃ V, (execOp ρ o).run P w = .ok (.value V) w ∧ RV φ w v V := fun hr h => by
    unfold still1 at h
    split at h
    · rename_i u
      simp only [Option.some.injEq, Prod.mk.injEq] at h
      obtain ⟨rfl, rfl⟩ := h
      exact ⟨rfl, hr _ rfl⟩
    · cases h
  have lift : ∀ {s : Sem Value} {u : Value}, (∃ V, s.run P w = .ok V w ∧ RV φ w u V) → ∃ V, (do pure (.value (← s)) : Sem Next).run P w = .ok (.value V) w ∧ RV φ w u V := fun ⟨V, h1, h2⟩ => ⟨V, by simp [h1], h2⟩
  obtain ⟨dst, op, type, pos, after, guard⟩ := o
  have orel : ∀ (x : Option Operand), (∀ y, x = some y → RV φ w (ev tm y) (ρ y)) → OR φ w (x.map (ev tm)) (x.map ρ) := fun x h => OR.of_map _ _ x h
  unfold aop at h
  simp only at h hρ hk viaB viaO viaS
  cases op with
  | move x => simp only [aopOf, Option.some.injEq, Prod.mk.injEq] at h; obtain ⟨rfl, rfl⟩ := h; exact ⟨rfl, ρ x, rfl, hρ x (by simp [opsL])⟩
  | assign x => simp only [aopOf, Option.some.injEq, Prod.mk.injEq] at h; obtain ⟨rfl, rfl⟩ := h; exact ⟨rfl, ρ x, rfl, hρ x (by simp [opsL])⟩
  | pick c a b =>
    simp only [aopOf, aPick] at h
    split at h
    · rename_i t ht
      simp only [Option.some.injEq, Prod.mk.injEq] at h
      obtain ⟨rfl, rfl⟩ := h
      have hc := hρ c (by simp [opsL])
      rw [ht] at hc
      refine ⟨rfl, if t then ρ a else ρ b, ?_, ?_⟩
      · simp [execOp, RV_bool.1 hc, asBool]
      · cases t
        · exact hρ b (by simp [opsL])
        · exact hρ a (by simp [opsL])
    · cases h
  | build t parts =>
    refine viaS (fun u hu => lift ?_) h
    have := abuild_ok (w := w) (φ := φ) hu (PL.of_map (fun p : Nat × Operand => ev tm p.2) (fun p => ρ p.2) (·.1) parts.toList fun p hp => hρ p.2 (by simp only [opsL]; exact List.mem_map_of_mem hp))
    have e : (parts.map fun p => (p.1, ρ p.2)) = (parts.toList.map fun p => (p.1, ρ p.2)).toArray := by apply Array.ext'; simp
    rw [← e] at this
    exact this
  | load t a =>
    refine viaS (fun u hu => lift ?_) h
    obtain ⟨b, U, h1, h2, h3⟩ := aload_ok hO (hk a (by simp [opsL])) hu (hρ a (by simp [opsL]))
    exact ⟨U, by simp [Instr.loadAt, h1, Instr.sureAddr, h2], h3⟩
  | fieldAddr s x f => exact viaS (fun u hu => lift (afieldAt_ok (hρ x (by simp [opsL])) hu)) h
  | indexAddr t x ix => exact viaS (fun u hu => lift (aindexAt_ok (hρ x (by simp [opsL])) (hρ ix (by simp [opsL])) hu)) h
  | field t x f => exact viaS (fun u hu => lift (afield_ok (hρ x (by simp [opsL])) hu)) h
  | index t x ix => exact viaO (fun u hu => lift (aindex_ok (hρ x (by simp [opsL])) (hρ ix (by simp [opsL])) hu)) h
  | lookup t x ix ok => exact viaS (fun u hu => lift (alookup_ok hO (hk x (by simp [opsL])) (hρ x (by simp [opsL])) (hρ ix (by simp [opsL])) hu)) h
  | convert src dst x => exact viaO (fun u hu => lift (aconvert_ok hO (hk x (by simp [opsL])) (hρ x (by simp [opsL])) hu)) h
  | unOp op t x => exact viaB h
  | binOp op t x y yt =>
    refine viaO (fun u hu => ?_) h
    obtain ⟨h1, h2⟩ := aBin_ok (P := P) (w := w) (φ := φ) x y (hρ x (by simp [opsL])) (hρ y (by simp [opsL])) hu
    exact ⟨u, by
      have h1' : ((eqGuard op t x y (ρ x) (ρ y)).run P w).andThen (fun _ w' => (binOp op t (ρ x) (ρ y)).run P w') = .ok u w := by simpa using h1
      simp only [execOp, Sem.run_bind, h1', Result.andThen_ok, Sem.run_pure], RV_self h2⟩
  | slice t x lo hi mx =>
    exact viaO (fun u hu => lift (asliceAt_ok (hρ x (by simp [opsL])) (orel lo fun y hy => hρ y (by simp [opsL, hy])) (orel hi fun y hy => hρ y (by simp [opsL, hy])) (orel mx fun y hy => hρ y (by simp [opsL, hy])) hu)) h
  | nilCheck x =>
    simp only [aopOf, aNil] at h
    have hx := hρ x (by simp [opsL])
    split at h
    · rename_i a ha
      simp only [Option.some.injEq, Prod.mk.injEq] at h
      obtain ⟨rfl, rfl⟩ := h
      rw [ha] at hx
      exact ⟨rfl, _, by simp only [execOp, RV_ptr.1 hx, Sem.run_pure], hx⟩
    · rename_i f a b ha
      simp only [Option.some.injEq, Prod.mk.injEq] at h
      obtain ⟨rfl, rfl⟩ := h
      rw [ha] at hx
      refine ⟨rfl, ρ x, ?_, hx⟩
      obtain ⟨F, C, hF, _, _⟩ := RV_fn hx
      simp only [execOp, hF, Sem.run_pure]
    · split at h
      · rename_i q hq
        simp only [Option.some.injEq, Prod.mk.injEq] at h
        obtain ⟨rfl, rfl⟩ := h
        obtain ⟨off, cs⟩ := q
        refine ⟨rfl, ρ x, ?_, hx⟩
        rw [ptrOf_some hq, RV_fptr] at hx
        obtain ⟨F, _, a, hF, _⟩ := hx
        simp only [execOp, hF, Sem.run_pure]
      · cases h
  | extract t ix =>
    simp only [aopOf, aExtract] at h
    have hx := hρ t (by simp [opsL])
    split at h
    · rename_i vs ht
      refine viaS (fun u hu => lift ?_) h
      rw [ht] at hx
      obtain ⟨C, hC, hrel⟩ := hx
      obtain ⟨V, h1, h2⟩ := (RVA_iff.1 hrel).get hu
      refine ⟨V, ?_, h2⟩
      have : C[ix]? = some V := by simpa using h1
      simp [Instr.extract, hC, this]
    · cases h
  | makeFunc fn first captured =>
    simp only [aopOf, aFunc] at h
    split at h
    · rename_i f
      simp only [Option.some.injEq, Prod.mk.injEq] at h
      obtain ⟨rfl, rfl⟩ := h
      refine ⟨rfl, .func (.func f) (first.map ρ) (captured.map ρ), by simp [execOp, Instr.makeFunc], ?_⟩
      simp only [RV, funRel]
      refine ⟨_, _, RVA_iff.2 ?_, RVA_iff.2 ?_, rfl⟩
      · simpa using RVL.of_map (ev tm) ρ first.toList fun x hx => hρ x (by simp only [opsL]; exact List.mem_append_left _ hx)
      · simpa using RVL.of_map (ev tm) ρ captured.toList fun x hx => hρ x (by simp only [opsL]; exact List.mem_append_right _ hx)
    · cases h
  | makeInterface t x =>
    simp only [aopOf, aIface] at h
    split at h
    · cases h
    · rename_i d hd hu
      simp only [Option.some.injEq, Prod.mk.injEq] at h
      obtain ⟨rfl, rfl⟩ := h
      refine ⟨rfl, .iface t (ρ x), ?_, ⟨_, rfl, hρ x (by simp [opsL])⟩⟩
      simp only [execOp, Instr.makeInterface, Sem.run_bind, run_underlying hu, Result.andThen_ok]
      cases d <;> first | rfl | exact absurd hu (by simpa using hd _)
    · cases h
  | call c =>
    obtain ⟨callee, args, argTypes⟩ := c
    cases callee with
    | value f => simp [aopOf] at h
    | invoke r m => simp [aopOf] at h
    | builtin b =>
      have hargs : RVL φ w (args.toList.map (ev tm)) (args.toList.map ρ) := RVL.of_map _ _ _ fun x hx => hρ x (by simp [opsL]; simpa using hx)
      cases b <;> (try (simp [aopOf, aBuiltin] at h; done))
      case append => simp [isVal] at hv
      case copy => simp [isVal] at hv
      case max => exact viaB h
      case min => exact viaB h
      case len =>
        refine viaO (fun u hu => ?_) h
        unfold aLen at hu
        split at hu
        · rename_i t ts s as hat hal
          rw [hal] at hargs
          obtain ⟨S, M, hS, h1, _⟩ := hargs
          cases RV_str.1 h1
          split at hu
          · rename_i hut
            simp only [Option.some.injEq] at hu; subst hu
            refine ⟨_, ?_, RV_self rfl⟩
            have e1 : argTypes[0]? = some t := by rw [← Array.getElem?_toList, hat]; rfl
            have e2 : (args.map ρ)[0]? = some (.string s) := by rw [← Array.getElem?_toList, Array.toList_map, hS]; rfl
            simp only [execOp, resolve, Sem.run_bind, Sem.run_pure, Result.andThen_ok, invoke, builtin, Builtin.len_, e1, e2, run_underlying hut]
          · cases hu
        · rename_i t ts x as hneg hat hal
          rw [hal] at hargs
          obtain ⟨S, M, hS, h1, _⟩ := hargs
          split at hu
          · rename_i e n hut hln
            simp only [Option.some.injEq] at hu; subst hu
            obtain ⟨a', cap, rfl⟩ := sliceLen_ok h1 hln
            refine ⟨_, ?_, RV_self rfl⟩
            have e1 : argTypes[0]? = some t := by rw [← Array.getElem?_toList, hat]; rfl
            have e2 : (args.map ρ)[0]? = some (.slice a' n cap) := by rw [← Array.getElem?_toList, Array.toList_map, hS]; rfl
            simp only [execOp, resolve, Sem.run_bind, Sem.run_pure, Result.andThen_ok, invoke, builtin, Builtin.len_, e1, e2, run_underlying hut]
          · cases hu
        · cases hu
      case cap =>
        refine viaS (fun u hu => ?_) h
        unfold aCap at hu
        split at hu
        · rename_i t ts a l n as hat hal
          rw [hal] at hargs
          obtain ⟨S, M, hS, h1, _⟩ := hargs
          split at hu
          · rename_i e hut
            split at hu
            · rename_i hn
              simp only [Option.some.injEq] at hu; subst hu
              refine ⟨_, ?_, RV_self rfl⟩
              have e1 : argTypes[0]? = some t := by rw [← Array.getElem?_toList, hat]; rfl
              have e3 : ∃ a', S = .slice a' l n := by
                cases a with
                | none => exact ⟨none, RV_none.1 h1⟩
                | some a => exact ⟨_, by rw [RV_slice.1 h1]; congr 1; unfold renCap; rw [if_pos hn]⟩
              obtain ⟨a', rfl⟩ := e3
              have e2 : (args.map ρ)[0]? = some (.slice a' l n) := by rw [← Array.getElem?_toList, Array.toList_map, hS]; rfl
              simp only [execOp, resolve, Sem.run_bind, Sem.run_pure, Result.andThen_ok, invoke, builtin, Builtin.cap_, e1, e2, run_underlying hut]
            · cases hu
          · cases hu
        · cases hu
  | alloc t => simp [isVal] at hv
  | box t x => simp [isVal] at hv
  | buildSlice t l ps => simp [isVal] at hv
  | store t a x => simp [isVal] at hv
  | makeMap t r => simp [isVal] at hv
  | mapUpdate t m k x => simp [isVal] at hv
  | _ => simp [aopOf] at h
end Go.Ev
namespace Go.Ev
open Go
variable {P : Program} {φ : Rn} {w : World} {A : AS}
def TurnsN (P : Program) (φ : Rn) (A : AS) (w : World) (s : Sem Next) (v : Value) (A' : AS) : Prop :=
  ∃ nx V φ' w', s.run P w = .ok nx w' ∧ (nx = .value V ∨ nx = .skip ∧ V = undef) ∧ RV φ' w' v V ∧ Rel φ' A' w' ∧ Runs φ A w φ' A' w'
theorem Turns.lift {s : Sem Value} {v : Value} {A' : AS} (h : Turns P φ A w s v A') : TurnsN P φ A w (do pure (.value (← s))) v A' := by
  obtain ⟨V, φ', w', h1, h2, h3, h4⟩ := h
  exact ⟨.value V, V, φ', w', by simp [h1], .inl rfl, h2, h3, h4⟩
theorem TurnsU.lift {s : Sem Unit} {A' : AS} (h : TurnsU P φ A w s A') : TurnsN P φ A w (do s; pure .skip) undef A' := by
  obtain ⟨φ', w', h1, h3, h4⟩ := h
  exact ⟨.skip, undef, φ', w', by simp [h1], .inr ⟨rfl, rfl⟩, RV_undef.2 rfl, h3, h4⟩
theorem aop_ok (hR : Rel φ A w) {tm : Trie Value} {o : Oper} {v : Value} {A' : AS} {ρ : Operand → Value} (hρ : ∀ x ∈ opsL o.op, RV φ w (ev tm x) (ρ x)) (hk : ∀ x ∈ opsL o.op, vok A.ok (ev tm x) = true)
    (h : aop P tm o A = some (v, A')) : TurnsN P φ A w (execOp ρ o) v A' := by
  by_cases hv : isVal o = true
  · obtain ⟨rfl, V, h1, h2⟩ := val_ok hR.toObj hv hρ hk h
    exact ⟨_, V, φ, w, h1, .inl rfl, h2, hR, Runs.refl _ _ _⟩
  · have viaD : ∀ {r : Option AS} {s : Sem Unit}, (∀ u, r = some u → TurnsU P φ A w s u) → done1 r = some (v, A') → TurnsN P φ A w (do s; pure .skip) v A' := fun hr h => by
      unfold done1 at h
      split at h
      · simp only [Option.some.injEq, Prod.mk.injEq] at h
        obtain ⟨rfl, rfl⟩ := h
        exact (hr _ rfl).lift
      · cases h
    obtain ⟨dst, op, type, pos, after, guard⟩ := o
    unfold aop at h
    simp only at h hρ hk
    cases op with
    | alloc t => exact (aalloc_ok hR h).lift
    | box t x => exact (abox_ok hR (hk x (by simp [opsL])) (hρ x (by simp [opsL])) h).lift
    | buildSlice t l ps =>
      have h' : abuildSlice P A t l (ps.toList.map fun p => (p.1, ev tm p.2)) = some (v, A') := h
      have := abuildSlice_ok (P := P) hR (l := ps.toList.map fun p => (p.1, ev tm p.2)) (L := ps.toList.map fun p => (p.1, ρ p.2)) (by
          intro p hp
          obtain ⟨q, hq, rfl⟩ := List.mem_map.1 hp
          exact hk q.2 (by simp only [opsL]; exact List.mem_map_of_mem hq))
        (PL.of_map (fun p : Nat × Operand => ev tm p.2) (fun p => ρ p.2) (·.1) ps.toList fun p hp => hρ p.2 (by simp only [opsL]; exact List.mem_map_of_mem hp)) h'
      have e : (ps.map fun p => (p.1, ρ p.2)) = (ps.toList.map fun p => (p.1, ρ p.2)).toArray := by apply Array.ext'; simp
      rw [← e] at this
      exact this.lift
    | store t a x => exact viaD (fun u hu => astore_ok hR (hk a (by simp [opsL])) (hk x (by simp [opsL])) (hρ a (by simp [opsL])) (hρ x (by simp [opsL])) hu) h
    | makeMap t r =>
      cases r with
      | some r => simp [aopOf, aMap] at h
      | none => exact (amap_ok hR h).lift
    | mapUpdate t m k x => exact viaD (fun u hu => amapUpdate_ok hR (hk m (by simp [opsL])) (hk x (by simp [opsL])) (hρ m (by simp [opsL])) (hρ k (by simp [opsL])) (hρ x (by simp [opsL])) hu) h
    | call c =>
      obtain ⟨callee, args, argTypes⟩ := c
      cases callee with
      | value f => simp [aopOf] at h
      | invoke r m => simp [aopOf] at h
      | builtin b =>
        have hargs : RVL φ w (args.toList.map (ev tm)) (args.toList.map ρ) := RVL.of_map _ _ _ fun x hx => hρ x (by simp [opsL]; simpa using hx)
        have hkargs : ∀ x ∈ args.toList.map (ev tm), vok A.ok x = true := by
          intro x hx
          obtain ⟨y, hy, rfl⟩ := List.mem_map.1 hx
          exact hk y (by simp [opsL]; simpa using hy)
        cases b <;> (try (simp [isVal] at hv; done))
        case append =>
          have h' : aappend P A argTypes (args.toList.map (ev tm)) = some (v, A') := h
          unfold aappend at h'
          split at h'
          · rename_i sT s x hst hal
            split at h'
            · rename_i elem zeros hu hz
              rw [hal] at hargs hkargs
              obtain ⟨S, M, hS, h1, X, M2, hM, h2, hM2⟩ := hargs
              have hM2 : M2 = [] := hM2
              subst hM2 hM
              have e : args.map ρ = #[S, X] := by apply Array.ext'; simpa using hS
              have := append1_ok (P := P) (ty := type) hR (hkargs s (by simp)) (hkargs x (by simp)) h1 h2 hst hu hz h'
              have h4 := this.lift
              rw [← e] at h4; exact h4
            · cases h'
          · cases h'
        case copy =>
          have h' : acopy P A argTypes (args.toList.map (ev tm)) = some (v, A') := h
          have hal : ∃ s x, args.toList.map (ev tm) = [s, x] := by
            unfold acopy at h'
            split at h'
            · rename_i heq; exact ⟨_, _, heq⟩
            · cases h'
          obtain ⟨s, x, hal⟩ := hal
          rw [hal] at hargs hkargs h'
          obtain ⟨S, M, hS, h1, X, M2, hM, h2, hM2⟩ := hargs
          have hM2 : M2 = [] := hM2
          subst hM2 hM
          have e : args.map ρ = #[S, X] := by apply Array.ext'; simpa using hS
          have := acopy_ok (P := P) (ty := type) hR (hkargs s (by simp)) (hkargs x (by simp)) h1 h2 h'
          have h4 := this.lift
          rw [← e] at h4; exact h4
    | _ => simp [isVal] at hv
end Go.Ev
namespace Go.Ev
open Go
variable {P : Program} {φ : Rn} {w : World} {A : AS}
def DoesCall (P : Program) (f : FuncId) (args : List Value) (d : Bool) (A : AS) (v : Value) (A' : AS) : Prop :=
  vok A'.ok v = true ∧ (∃ fn, P.funcs[f]? = some fn ∧ fn.body.isSome = true) ∧
  ∀ (φ : Rn) (w : World) (Vs : List Value), Rel φ A w → vokL A.ok args = true → RVL φ w args Vs → ∀ (c : Frame) (cs : List Frame), (d = true → c.mode = .returning) →
    ∃ φ' w' V, Steps P (lone (Frame.enter P f Vs.toArray (if d then .deferred else .normal)) (c :: cs) w) (lone (if d then c else c.finish V) cs w') ∧ RV φ' w' v V ∧ Rel φ' A' w' ∧ Runs φ A w φ' A' w'
def DoesRound (P : Program) (l : Nat) (f : FuncId) (ns : Nat) (tm : Trie Value) (assign body : Code) (A : AS) (v : Value) (A' : AS) : Prop :=
  vok A'.ok v = true ∧
  ∀ (φ : Rn) (w : World) (a : Array Value), Rel φ A w → A.ok l = true → tm.all (vok A.ok) = true → TmRel φ w ns tm a → ∀ (c : Frame) (cs : List Frame),
    ∃ φ' w' V, Steps P (lone (Frame.round (φ.b l) f a assign body .normal) (c :: cs) w) (lone (c.finish V) cs w') ∧ RV φ' w' v V ∧ Rel φ' A' w' ∧ Runs φ A w φ' A' w'
def Does (P : Program) (job : Job) (A : AS) (v : Value) (A' : AS) : Prop :=
  match job with
  | .call f args d => DoesCall P f args d A v A'
  | .round l f ns tm assign body => DoesRound P l f ns tm assign body A v A'
def RecOK (P : Program) (rc : Rec) : Prop := ∀ job A v A', rc job A = some (v, A') → Does P job A v A'
structure CfgOK (P : Program) (c : Cfg) : Prop where
  nocount : ∀ (f : FuncId) (fn : Func), P.funcs[f]? = some fn → fn.body.isSome = true → fn.name ≠ "runtime.NumGoroutine"
  cnt : ∀ f, f + 1 = c.cnt → ∀ (φ : Rn) (A : AS) (w : World) (args Vs : List Value) (v : Value), Rel φ A w → vokL A.ok args = true → RVL φ w args Vs → acount A args = some v → (callFunc f Vs.toArray).run P w = .ok (.value v) w ∧ bare v = true
  eight : ∀ f, f + 1 = c.eight → ∀ (A : AS) (args : List Value) (v : Value), aeight c.halved args = some v → DoesCall P f args false A v A
theorem tget_put {ns d t : Nat} {tm : Trie Value} {v : Value} (hns : ns < 65535) : tget (putTm ns tm d v) t = if d < ns ∧ t = d then v else tget tm t := by
  unfold putTm tget
  by_cases hd : d < ns
  · have : Nat.blt d ns = true := by simpa [Nat.blt_eq] using hd
    rw [if_pos this]
    by_cases e : t = d
    · subst e
      rw [Trie.get_set_same _ _ _ _ (by omega), if_pos ⟨hd, rfl⟩]; rfl
    · rw [Trie.get_set_other _ _ _ _ _ (fun h => e h.symm), if_neg (fun h => e h.2)]
  · have : ¬ Nat.blt d ns = true := by simpa [Nat.blt_eq] using hd
    rw [if_neg this, if_neg (fun h => hd h.1)]
theorem putTm_none {ns d t : Nat} {tm : Trie Value} {v : Value} (hns : ns < 65535) (ht : ns ≤ t) : (putTm ns tm d v).get t = tm.get t := by
  unfold putTm
  split
  · rename_i hd
    have hd : d < ns := by simpa [Nat.blt_eq] using hd
    exact Trie.get_set_other _ _ _ _ _ (by omega)
  · rfl
theorem Trie.all_set {p : Value → Bool} (f : Nat) (t : Trie Value) (n : Nat) (x : Value) (hf : n + 1 < 2 ^ f) (ht : t.all p = true) (hx : p x = true) : (Trie.set f t n x).all p = true := by
  refine Trie.all_of fun m y hy => ?_
  by_cases e : n = m
  · subst e; rw [Trie.get_set_same _ _ _ _ hf] at hy; cases hy; exact hx
  · rw [Trie.get_set_other _ _ _ _ _ e] at hy; exact Trie.all_get ht hy
theorem putTm_all {ok : Nat → Bool} {ns d : Nat} {tm : Trie Value} {v : Value} (hns : ns < 65535) (h : tm.all (vok ok) = true) (hv : vok ok v = true) : (putTm ns tm d v).all (vok ok) = true := by
  unfold putTm
  split
  · rename_i hd
    have hd : d < ns := by simpa [Nat.blt_eq] using hd
    exact Trie.all_set _ _ _ _ (by omega) h hv
  · exact h
theorem TmRel.put {ns : Nat} {tm : Trie Value} {a : Array Value} (h : TmRel φ w ns tm a) {v V : Value} (hv : RV φ w v V) (d : Nat) : TmRel φ w ns (putTm ns tm d v) (a.setIfInBounds d V) := by
  obtain ⟨h1, h2, h3, h4⟩ := h
  refine ⟨by simp [h1], fun t => ?_, h3, fun t ht => by rw [putTm_none h3 ht]; exact h4 t ht⟩
  rw [tget_put h3, Array.getD_eq_getD_getElem?, Array.getElem?_setIfInBounds]
  by_cases e : d = t
  · subst e
    rw [if_pos rfl, h1]
    by_cases hd : d < ns
    · rw [if_pos ⟨hd, rfl⟩, if_pos hd]; exact hv
    · rw [if_neg (fun h => hd h.1), if_neg hd]
      have := h2 d
      rw [Array.getD_eq_getD_getElem?, Array.getElem?_eq_none (by omega)] at this
      exact this
  · rw [if_neg e, if_neg (fun h => e h.2.symm)]
    have := h2 t
    rwa [Array.getD_eq_getD_getElem?] at this
theorem TmRel.putD {ns : Nat} {tm : Trie Value} {a : Act} (h : TmRel φ w ns tm a.tmps) {v V : Value} (hv : RV φ w v V) (dst : Option Tmp) : TmRel φ w ns (Ev.putD ns tm dst v) (a.put dst V).tmps := by
  cases dst with
  | none => exact h
  | some d => exact h.put hv d
theorem putD_all {ok : Nat → Bool} {ns : Nat} {dst : Option Tmp} {tm : Trie Value} {v : Value} (hns : ns < 65535) (h : tm.all (vok ok) = true) (hv : vok ok v = true) : (putD ns tm dst v).all (vok ok) = true := by
  cases dst with
  | none => exact h
  | some d => exact putTm_all hns h hv
theorem ev_ok {ok : Nat → Bool} {tm : Trie Value} (h : tm.all (vok ok) = true) {x : Operand} (hx : opk x = true) : vok ok (ev tm x) = true := by
  cases x with
  | tmp t =>
    simp only [ev, tget]
    cases ht : tm.get t with
    | none => rfl
    | some v => exact Trie.all_get h ht
  | const v => exact bare_ok hx
  | global g => simp [opk] at hx
  | func f => rfl
theorem ev_RV {ns : Nat} {tm : Trie Value} {a : Act} (h : TmRel φ w ns tm a.tmps) {x : Operand} (hx : opk x = true) : RV φ w (ev tm x) (a.eval x) := by
  cases x with
  | tmp t => exact h.2.1 t
  | const v => exact RV_self hx
  | global g => simp [opk] at hx
  | func f => exact RV_self rfl
theorem putAll_rel {ns : Nat} : ∀ (ps : List Tmp) (vs Vs : List Value) (tm : Trie Value) (a : Array Value), TmRel φ w ns tm a → RVL φ w vs Vs →
    TmRel φ w ns (putAll ns tm ps vs) ((ps.zip Vs).foldl (fun tmps (p : Tmp × Value) => tmps.setIfInBounds p.1 p.2) a)
  | [], vs, Vs, tm, a, h, _ => by cases vs <;> exact h
  | t :: ps, [], Vs, tm, a, h, hv => by rw [show Vs = [] from hv]; exact h
  | t :: ps, v :: vs, Vs, tm, a, h, hv => by
    obtain ⟨V, M, rfl, h1, h2⟩ := hv
    exact putAll_rel ps vs M _ _ (h.put h1 t) h2
theorem putAll_all {ok : Nat → Bool} {ns : Nat} (hns : ns < 65535) : ∀ (ps : List Tmp) (vs : List Value) (tm : Trie Value), tm.all (vok ok) = true → vokL ok vs = true → (putAll ns tm ps vs).all (vok ok) = true
  | [], vs, tm, h, _ => by cases vs <;> exact h
  | t :: ps, [], tm, h, _ => h
  | t :: ps, v :: vs, tm, h, hv => by
    simp only [vokL, Bool.and_eq_true] at hv
    exact putAll_all hns ps vs _ (putTm_all hns h hv.1) hv.2
def CtxOK (b : Frame) (cs : List Frame) : Prop := b.kind = .normal ∨ (b.kind = .deferred ∧ b.roundOf = none ∧ ∃ c cs', cs = c :: cs' ∧ c.mode = .returning)
end Go.Ev
namespace Go.Ev
open Go
variable {P : Program} {φ : Rn} {w : World} {A : AS}
theorem evOper_some {c : Cfg} {rc : Rec} {round : Bool} {tm : Trie Value} {o : Oper} {v : Value} {A' : AS} {d : Option Deferred} (h : evOper P c rc round tm o A = some (v, A', d)) :
    (∀ x ∈ opsL o.op, opk x = true) ∧ evOp1 P c rc round tm o A = some (v, A', d) ∧ vok A'.ok v = true := by
  unfold evOper at h
  split at h
  · rename_i hk
    unfold okRes at h
    split at h
    · rename_i u A1 d1 he
      split at h
      · rename_i hv
        simp only [Option.some.injEq, Prod.mk.injEq] at h
        obtain ⟨rfl, rfl, rfl⟩ := h
        exact ⟨List.all_eq_true.1 hk, he, hv⟩
      · cases h
    · cases h
  · cases h
theorem noD_some {r : Option (Value × AS)} {v : Value} {A' : AS} {d : Option Deferred} (h : noD r = some (v, A', d)) : r = some (v, A') ∧ d = none := by
  unfold noD at h
  split at h
  · simp only [Option.some.injEq, Prod.mk.injEq] at h
    obtain ⟨rfl, rfl, rfl⟩ := h
    exact ⟨rfl, rfl⟩
  · cases h
section
variable {b : Frame} {a : Act} {k : List Item} {cs : List Frame} {ops : Array Oper} {i : Nat} {rest : List Nat} {o : Oper}
theorem fin_eq (ho : ops[i]? = some o) (V : Value) : (b.atR a (.inRegion ops (i :: rest) :: k)).finish V = b.atR (a.put o.dst V) (.inRegion ops rest :: k) := by
  rw [Frame.finish_atR, ho]; rfl
theorem step_value (ho : ops[i]? = some o) (hw : Region.wanted o (yielded ops a.tmps) = true) (hd : ∀ c, o.op ≠ .defer c) {nx : Next} {V : Value} {w' : World} (hr : (execOp a.eval o).run P w = .ok nx w')
    (hn : nx = .value V ∨ nx = .skip ∧ V = undef) : Steps P (lone (b.atR a (.inRegion ops (i :: rest) :: k)) cs w) (lone (b.atR (a.put o.dst V) (.inRegion ops rest :: k)) cs w') := by
  have hg := stepGR_op (P := P) (b := b) (k := k) (cs := cs) (w := w) (rest := rest) ho hw
  rw [Oper.semAt_eq _ _ _ hd] at hg
  refine .one (step_lone_go ?_)
  rw [hg, ← fin_eq ho]
  rcases hn with rfl | ⟨rfl, rfl⟩ <;> simp [stepG.apply, hr]
theorem step_enter (ho : ops[i]? = some o) (hw : Region.wanted o (yielded ops a.tmps) = true) (hd : ∀ c, o.op ≠ .defer c) {f : FuncId} {args : Array Value} (hr : (execOp a.eval o).run P w = .ok (.enter f args) w) :
    step P (lone (b.atR a (.inRegion ops (i :: rest) :: k)) cs w) = .next (lone (Frame.enter P f args .normal) (b.atR a (.inRegion ops (i :: rest) :: k) :: cs) w) := by
  have hg := stepGR_op (P := P) (b := b) (k := k) (cs := cs) (w := w) (rest := rest) ho hw
  rw [Oper.semAt_eq _ _ _ hd] at hg
  exact step_lone_go (by rw [hg]; simp [stepG.apply, hr, Frame.atR])
theorem step_round (ho : ops[i]? = some o) (hw : Region.wanted o (yielded ops a.tmps) = true) (hd : ∀ c, o.op ≠ .defer c) {l : Nat} {f : FuncId} {tmps : Array Value} {x y : Code} (hr : (execOp a.eval o).run P w = .ok (.round l f tmps x y) w) :
    step P (lone (b.atR a (.inRegion ops (i :: rest) :: k)) cs w) = .next (lone (Frame.round l f tmps x y .normal) (b.atR a (.inRegion ops (i :: rest) :: k) :: cs) w) := by
  have hg := stepGR_op (P := P) (b := b) (k := k) (cs := cs) (w := w) (rest := rest) ho hw
  rw [Oper.semAt_eq _ _ _ hd] at hg
  exact step_lone_go (by rw [hg]; simp [stepG.apply, hr])
theorem step_recover (ho : ops[i]? = some o) (hw : Region.wanted o (yielded ops a.tmps) = true) (hd : ∀ c, o.op ≠ .defer c) (hb : CtxOK b cs) (hro : b.roundOf = none) (hr : (execOp a.eval o).run P w = .ok .recover w) :
    step P (lone (b.atR a (.inRegion ops (i :: rest) :: k)) cs w) = .next (lone (b.atR (a.put o.dst .nilIface) (.inRegion ops rest :: k)) cs w) := by
  have hg := stepGR_op (P := P) (b := b) (k := k) (cs := cs) (w := w) (rest := rest) ho hw
  rw [Oper.semAt_eq _ _ _ hd] at hg
  refine step_lone_go ?_
  rw [hg, ← fin_eq ho]
  have ht : tryRecover (b.atR a (.inRegion ops (i :: rest) :: k)) cs = none := by
    unfold tryRecover
    rcases hb with h | ⟨h, _, c, cs', rfl, hm⟩
    · simp [Frame.atR, h]
    · simp [Frame.atR, h, hm]
  have hr2 : (b.atR a (.inRegion ops (i :: rest) :: k)).roundOf = none := hro
  simp [stepG.apply, hr, hr2, ht]
theorem step_defer (ho : ops[i]? = some o) (hw : Region.wanted o (yielded ops a.tmps) = true) (hro : b.roundOf = none) {D : Deferred} (hr : (execOp a.eval o).run P w = .ok (.defer D) w) :
    step P (lone (b.atR a (.inRegion ops (i :: rest) :: k)) cs w) = .next (lone (b.atR ({ a with defers := D :: a.defers }.put o.dst undef) (.inRegion ops rest :: k)) cs w) := by
  have hg := stepGR_op (P := P) (b := b) (k := k) (cs := cs) (w := w) (rest := rest) ho hw
  rw [hro, Oper.semAt_none] at hg
  have hf : ({ b.atR a (.inRegion ops (i :: rest) :: k) with defers := D :: a.defers } : Frame).finish undef = b.atR ({ a with defers := D :: a.defers }.put o.dst undef) (.inRegion ops rest :: k) := by
    have := Frame.finish_atR b { a with defers := D :: a.defers } ops i rest k undef
    rw [ho] at this; exact this
  refine step_lone_go ?_
  rw [hg, ← hf]
  simp [stepG.apply, hr, Frame.atR]
end
theorem RVL.map_ev {tm : Trie Value} {ρ : Operand → Value} {xs : Array Operand} (h : ∀ x ∈ xs.toList, RV φ w (ev tm x) (ρ x)) : RVL φ w (xs.toList.map (ev tm)) (xs.map ρ).toList := by
  rw [Array.toList_map]; exact RVL.of_map _ _ _ h
def OpDone (P : Program) (φ : Rn) (A : AS) (w : World) (b : Frame) (a : Act) (ops : Array Oper) (i : Nat) (rest : List Nat) (k : List Item) (cs : List Frame) (o : Oper) (v : Value) (A' : AS) (d : Option Deferred) : Prop :=
  ∃ φ' w' V D, Steps P (lone (b.atR a (.inRegion ops (i :: rest) :: k)) cs w) (lone (b.atR ({ a with defers := D ++ a.defers }.put o.dst V) (.inRegion ops rest :: k)) cs w') ∧
    RV φ' w' v V ∧ Rel φ' A' w' ∧ Runs φ A w φ' A' w' ∧ vok A'.ok v = true ∧ RDL φ' w' d.toList D ∧ d.toList.all (dok A'.ok) = true
theorem op_run {c : Cfg} {rc : Rec} (hc : CfgOK P c) (hrc : RecOK P rc) (hR : Rel φ A w) {tm : Trie Value} {o : Oper} {ops : Array Oper} {i : Nat} {rest : List Nat} {k : List Item} {b : Frame} {a : Act} {cs : List Frame} (hb : CtxOK b cs)
    (ho : ops[i]? = some o) (hw : Region.wanted o (yielded ops a.tmps) = true) (hρ : ∀ x ∈ opsL o.op, RV φ w (ev tm x) (a.eval x)) (hk : ∀ x ∈ opsL o.op, vok A.ok (ev tm x) = true)
    {v : Value} {A' : AS} {d : Option Deferred} (h : evOper P c rc b.roundOf.isSome tm o A = some (v, A', d)) :
    OpDone P φ A w b a ops i rest k cs o v A' d := by
  obtain ⟨_, h, hv⟩ := evOper_some h
  have plain : ∀ {r : Option (Value × AS)}, noD r = some (v, A', d) → (∀ cl, o.op ≠ .defer cl) → (∀ v A', r = some (v, A') → TurnsN P φ A w (execOp a.eval o) v A') → OpDone P φ A w b a ops i rest k cs o v A' d := fun {r} h hd hr => by
    obtain ⟨h1, rfl⟩ := noD_some h
    obtain ⟨nx, V, φ', w', q1, q2, q3, q4, q5⟩ := hr v A' h1
    exact ⟨φ', w', V, [], step_value (cs := cs) (k := k) (rest := rest) (b := b) ho hw hd q1 q2, q3, q4, q5, hv, rfl, rfl⟩
  unfold evOp1 at h
  split at h
  ·
    rename_i cl hop
    have hd : ∀ c, o.op ≠ .defer c := fun c e => by rw [hop] at e; cases e
    unfold evCall at h
    split at h
    ·
      rename_i f hf
      obtain ⟨h1, rfl⟩ := noD_some h
      have hmem : ∀ x, x ∈ opsL o.op ↔ x = f ∨ x ∈ cl.args.toList := fun x => by rw [hop]; simp [opsL, hf]
      have hfV := hρ f ((hmem f).2 (.inl rfl))
      have hfk := hk f ((hmem f).2 (.inl rfl))
      have hargs : RVL φ w (cl.args.toList.map (ev tm)) (cl.args.map a.eval).toList := RVL.map_ev fun x hx => hρ x ((hmem x).2 (.inr hx))
      have hkargs : vokL A.ok (cl.args.toList.map (ev tm)) = true := vokL_mem.2 fun x hx => by
        obtain ⟨y, hy, rfl⟩ := List.mem_map.1 hx
        exact hk y ((hmem y).2 (.inr hy))
      unfold callee at h1
      split at h1
      · rename_i g first cap hval
        rw [hval] at hfV hfk
        obtain ⟨F, C, hF, hF1, hC1⟩ := RV_fn hfV
        have hall : RVL φ w (first.toList ++ cl.args.toList.map (ev tm) ++ cap.toList) ((F ++ cl.args.map a.eval) ++ C).toList := by
          rw [Array.toList_append, Array.toList_append]; exact (hF1.append hargs).append hC1
        have hkall : vokL A.ok (first.toList ++ cl.args.toList.map (ev tm) ++ cap.toList) = true := by
          simp only [vok, Bool.and_eq_true] at hfk
          have e1 : vokL A.ok first.toList = true := by have := hfk.2.1; cases first; exact this
          have e2 : vokL A.ok cap.toList = true := by have := hfk.2.2; cases cap; exact this
          rw [vokL_append, vokL_append, e1, e2, hkargs]; rfl
        have hexec : ∀ w : World, (execOp a.eval o).run P w = (callFunc g ((F ++ cl.args.map a.eval) ++ C)).run P w := fun w => by
          obtain ⟨dst, op, type, pos, after, guard⟩ := o
          simp only at hop; subst hop
          simp only [execOp, resolve, hf, hF, Deferred.ofValue, Sem.run_bind, Sem.run_pure, Result.andThen_ok, invoke]
        have viaCall : DoesCall P g (first.toList ++ cl.args.toList.map (ev tm) ++ cap.toList) false A v A' → OpDone P φ A w b a ops i rest k cs o v A' none := by
          rintro ⟨_, ⟨fn, hfn, hbody⟩, hdo⟩
          have hr : (execOp a.eval o).run P w = .ok (.enter g ((F ++ cl.args.map a.eval) ++ C)) w := by
            rw [hexec]
            have hn := hc.nocount g fn hfn hbody
            have hn' : (fn.name == "runtime.NumGoroutine") = false := by simpa using hn
            have hbn : fn.body.isNone = false := by cases hb2 : fn.body with
              | none => rw [hb2] at hbody; cases hbody
              | some _ => rfl
            simp only [callFunc, Sem.run_bind, run_program, Result.andThen_ok, hfn, hn', Bool.false_eq_true, if_false, hbn, Sem.run_pure]
          obtain ⟨φ', w', V, q1, q2, q3, q4⟩ := hdo φ w _ hR hkall hall (b.atR a (.inRegion ops (i :: rest) :: k)) cs (fun h => by cases h)
          refine ⟨φ', w', V, [], .head (step_enter ho hw hd hr) ?_, q2, q3, q4, hv, rfl, rfl⟩
          have := q1
          simp only [Bool.false_eq_true, if_false] at this
          rw [fin_eq ho] at this
          exact this
        simp only at h1
        split at h1
        · rename_i hg
          obtain ⟨u, hu, he⟩ := Option.map_eq_some_iff.1 h1
          simp only [Prod.mk.injEq] at he
          obtain ⟨rfl, rfl⟩ := he
          obtain ⟨q1, q2⟩ := hc.cnt g hg φ A w _ _ u hR hkall hall hu
          exact ⟨φ, w, u, [], step_value (cs := cs) (k := k) (rest := rest) (b := b) ho hw hd (by rw [hexec]; exact q1) (.inl rfl), RV_self q2, hR, Runs.refl _ _ _, hv, rfl, rfl⟩
        · split at h1
          · rename_i hg
            obtain ⟨u, hu, he⟩ := Option.map_eq_some_iff.1 h1
            simp only [Prod.mk.injEq] at he
            obtain ⟨rfl, rfl⟩ := he
            exact viaCall (hc.eight g hg A _ u hu)
          · exact viaCall (hrc _ _ _ _ h1)
      · rename_i l first cap hval
        rw [hval] at hfV hfk
        split at h1
        · rename_i hcap
          split at h1
          · rename_i st p fn ns tml ps as bd df hg
            simp only at h1
            split at h1
            · rename_i hlen
              simp only [vok, Bool.and_eq_true] at hfk
              have hlok : A.ok l = true := hfk.1
              have hlbig : l ≠ rowN ∧ l ≠ ptrN := by
                have := hR.toObj.lt _ _ hg
                constructor <;> (rintro rfl; revert this; decide)
              obtain ⟨hob, hp⟩ := hR.toObj.of_ok hg hlok
              have hwf := hR.wf _ _ hg hp
              simp only [abok, Bool.and_eq_true] at hwf
              obtain ⟨aa, h2, h3⟩ := hob
              simp only [RV, funRel, if_neg hlbig.1, if_neg hlbig.2] at hfV
              obtain ⟨F, C, hF1, hC1, hF⟩ := hfV
              have hC : C = #[] := by
                have h4 := (RVA_iff.1 hC1).length
                apply Array.ext'
                simp only [Array.length_toList, hcap] at h4
                exact List.eq_nil_of_length_eq_zero (by simpa using h4.symm)
              subst hC
              have hargs2 : RVL φ w (first.toList ++ cl.args.toList.map (ev tm)) (F ++ cl.args.map a.eval).toList := by
                rw [Array.toList_append]; exact (RVA_iff.1 hF1).append hargs
              have hkargs2 : vokL A.ok (first.toList ++ cl.args.toList.map (ev tm)) = true := by
                have e1 : vokL A.ok first.toList = true := by have := hfk.2.1; cases first; exact this
                rw [vokL_append, e1, hkargs]; rfl
              obtain ⟨_, hdo⟩ : DoesRound P l fn ns (putAll ns tml ps.toList (first.toList ++ cl.args.toList.map (ev tm))) as bd A v A' := hrc _ _ _ _ h1
              have hsize : (F ++ cl.args.map a.eval).size = ps.size := by
                have h5 : (F ++ cl.args.map a.eval).toList.length = ps.toList.length := by rw [← hargs2.length, hlen]
                simpa using h5
              have hr : (execOp a.eval o).run P w = .ok (.round (φ.b l) fn ((ps.zip (F ++ cl.args.map a.eval)).foldl (fun tmps (t, x) => tmps.setIfInBounds t x) aa) as bd) w := by
                obtain ⟨dst, op, type, pos, after, guard⟩ := o
                simp only at hop; subst hop
                simp only [execOp, resolve, hf, hF, Deferred.ofValue, Sem.run_bind, Sem.run_pure, Result.andThen_ok, invoke]
                exact run_yield h2 hsize
              have hrel := putAll_rel ps.toList _ _ tml aa h3 hargs2
              rw [← Array.toList_zip, Array.foldl_toList] at hrel
              obtain ⟨φ', w', V, q1, q2, q3, q4⟩ := hdo φ w _ hR hlok (putAll_all h3.2.2.1 _ _ _ hwf.1 hkargs2) hrel (b.atR a (.inRegion ops (i :: rest) :: k)) cs
              refine ⟨φ', w', V, [], .head (step_round ho hw hd hr) ?_, q2, q3, q4, hv, rfl, rfl⟩
              rw [fin_eq ho] at q1
              exact q1
            · cases h1
          · cases h1
        · cases h1
      · cases h1
    ·
      rename_i bi hbi
      split at h
      · rename_i hrec
        split at h
        · cases h
        · rename_i hround
          simp only [Option.some.injEq, Prod.mk.injEq] at h
          obtain ⟨rfl, rfl, rfl⟩ := h
          have hro : b.roundOf = none := by cases hx : b.roundOf with
            | none => rfl
            | some l => rw [hx] at hround; exact absurd rfl hround
          have hbr : bi = .recover := by cases bi <;> first | rfl | (simp [isRecover] at hrec)
          subst hbr
          have hr : (execOp a.eval o).run P w = .ok .recover w := by
            obtain ⟨dst, op, type, pos, after, guard⟩ := o
            simp only at hop; subst hop
            simp only [execOp, resolve, hbi, Sem.run_bind, Sem.run_pure, Result.andThen_ok, invoke, builtin]
          exact ⟨φ, w, .nilIface, [], .one (step_recover ho hw hd hb hro hr), RV_self rfl, hR, Runs.refl _ _ _, hv, rfl, rfl⟩
      · exact plain h hd fun u A1 hu => aop_ok hR hρ hk (by unfold aop; rw [hop]; simp only [aopOf, hbi]; exact hu)
    · cases h
  ·
    rename_i cl hop
    unfold aDefer at h
    split at h
    · cases h
    · rename_i hround
      have hro : b.roundOf = none := by cases hx : b.roundOf with
        | none => rfl
        | some l => rw [hx] at hround; exact absurd rfl hround
      split at h
      · rename_i f hf
        split at h
        · rename_i g first cap hval
          simp only [Option.some.injEq, Prod.mk.injEq] at h
          obtain ⟨rfl, rfl, rfl⟩ := h
          have hmem : ∀ x, x ∈ opsL o.op ↔ x = f ∨ x ∈ cl.args.toList := fun x => by rw [hop]; simp [opsL, hf]
          have hfV := hρ f ((hmem f).2 (.inl rfl))
          have hfk := hk f ((hmem f).2 (.inl rfl))
          rw [hval] at hfV hfk
          obtain ⟨F, C, hF, hF1, hC1⟩ := RV_fn hfV
          have hargs : RVL φ w (cl.args.toList.map (ev tm)) (cl.args.map a.eval).toList := RVL.map_ev fun x hx => hρ x ((hmem x).2 (.inr hx))
          have hkargs : vokL A.ok (cl.args.toList.map (ev tm)) = true := vokL_mem.2 fun x hx => by
            obtain ⟨y, hy, rfl⟩ := List.mem_map.1 hx
            exact hk y ((hmem y).2 (.inr hy))
          simp only [vok, Bool.and_eq_true] at hfk
          have e1 : vokL A.ok first.toList = true := by have := hfk.2.1; cases first; exact this
          have e2 : vokL A.ok cap.toList = true := by have := hfk.2.2; cases cap; exact this
          have hr : (execOp a.eval o).run P w = .ok (.defer { target := .fn (.func g) C, args := F ++ cl.args.map a.eval }) w := by
            obtain ⟨dst, op, type, pos, after, guard⟩ := o
            simp only at hop; subst hop
            simp only [execOp, resolve, hf, hF, Deferred.ofValue, Sem.run_bind, Sem.run_pure, Result.andThen_ok]
          refine ⟨φ, w, undef, [_], .one (step_defer ho hw hro hr), RV_undef.2 rfl, hR, Runs.refl _ _ _, hv, ⟨_, [], rfl, ⟨⟨C, rfl, hC1⟩, ?_⟩, rfl⟩, ?_⟩
          · simp only [Array.toList_append]; exact hF1.append hargs
          · simp only [Option.toList, List.all_cons, List.all_nil, Bool.and_true, dok, Bool.true_and, vokL_append, e1, e2, hkargs, Bool.and_self]
        · cases h
      · cases h
  ·
    rename_i hnc hnd
    exact plain h (fun cl => hnd cl) fun u A1 hu => aop_ok hR hρ hk hu
end Go.Ev
namespace Go.Ev
open Go
variable {P : Program} {φ : Rn} {w : World} {A : AS}
theorem RV_of_bool {v : Value} {b : Bool} (h : RV φ w v (.bool b)) : v = .bool b := by
  cases v with
  | pointer a => cases a <;> (simp only [RV] at h; cases h)
  | slice a l c => cases a <;> (simp only [RV] at h; cases h)
  | map a => cases a <;> (simp only [RV] at h; cases h)
  | chan a => cases a <;> (simp only [RV] at h; cases h)
  | iface t u => simp only [RV] at h; obtain ⟨U, h, _⟩ := h; cases h
  | agg t => simp only [RV] at h; obtain ⟨U, h, _⟩ := h; cases h
  | tuple t => simp only [RV] at h; obtain ⟨U, h, _⟩ := h; cases h
  | func fn first captured =>
    simp only [RV] at h
    obtain ⟨F, C, _, _, h3⟩ := h
    cases fn with
    | yield l =>
      simp only [funRel] at h3
      split at h3
      · rcases h3 with ⟨h, _⟩ | ⟨a, cap, h, _⟩ <;> cases h
      · split at h3
        · obtain ⟨a, h, _⟩ := h3; cases h
        · cases h3
    | _ => simp only [funRel] at h3; cases h3
  | bool c => simp only [RV] at h; cases h; rfl
  | _ => simp only [RV] at h; cases h
theorem wants_eq {tm : Trie Value} {ops : Array Oper} {o : Oper} {tmps : Array Value} (h : ∀ j want d, o.guard = some (j, want) → (ops[j]?).bind (·.dst) = some d → RV φ w (tget tm d) (tmps.getD d undef)) :
    wants tm ops.toList o = Region.wanted o (yielded ops tmps) := by
  unfold wants Region.wanted
  cases hg : o.guard with
  | none => rfl
  | some p =>
    obtain ⟨j, want⟩ := p
    simp only [yielded, Array.getElem?_toList]
    cases hd : (ops[j]?).bind (·.dst) with
    | none => simp
    | some d =>
      have hr := h j want d hg hd
      rw [Array.getD_eq_getD_getElem?] at hr
      simp only [Option.bind_some]
      cases ht : tmps[d]? with
      | none =>
        rw [ht] at hr
        simp only [Option.getD_none] at hr
        split
        · rename_i b hb
          rw [hb] at hr
          have := RV_bool.1 hr
          cases this
        · rfl
      | some V =>
        rw [ht] at hr
        simp only [Option.getD_some] at hr
        split
        · rename_i b hb
          rw [hb] at hr
          cases RV_bool.1 hr
          cases b <;> cases want <;> rfl
        · rename_i hb
          split
          · rename_i b hV
            cases hV
            exact absurd (RV_of_bool hr) (hb b)
          · rfl
structure FR (φ : Rn) (A : AS) (w : World) (ns : Nat) (tm : Trie Value) (ds : List Deferred) (a : Act) : Prop where
  tmr : TmRel φ w ns tm a.tmps
  tok : tm.all (vok A.ok) = true
  dsr : RDL φ w ds a.defers
  dso : ds.all (dok A.ok) = true
theorem Runs.ok {φ' : Rn} {A' : AS} {w' : World} (h : Runs φ A w φ' A' w') (n : Nat) (hn : A.ok n = true) : A'.ok n = true := by
  rw [AS.ok_iff] at hn ⊢
  rcases hn with hn | hn
  · exact .inl ⟨Nat.lt_of_lt_of_le hn.1 h.next, by rw [h.pend]; exact hn.2⟩
  · exact .inr hn
theorem FR.run {φ' : Rn} {A' : AS} {w' : World} {ns : Nat} {tm : Trie Value} {ds : List Deferred} {a : Act} (h : FR φ A w ns tm ds a) (hR : Rel φ A w) (k : Runs φ A w φ' A' w') : FR φ' A' w' ns tm ds a :=
  ⟨h.tmr.ext (hR.ext k) h.tok, Trie.all_of fun n x hx => vok_mono k.ok x (Trie.all_get h.tok hx), RDL.ext (hR.ext k) _ _ h.dso h.dsr, List.all_eq_true.2 fun d hd => dok_mono k.ok d (List.all_eq_true.1 h.dso d hd)⟩
theorem RDL.append : ∀ {l L m M : List Deferred}, RDL φ w l L → RDL φ w m M → RDL φ w (l ++ m) (L ++ M)
  | [], L, m, M, h, k => by rw [show L = [] from h]; exact k
  | d :: l, L, m, M, h, k => by obtain ⟨D, N, rfl, h1, h2⟩ := h; exact ⟨D, _, rfl, h1, RDL.append h2 k⟩
theorem Act.put_defers (a : Act) (dst : Option Tmp) (v : Value) : (a.put dst v).defers = a.defers := by cases dst <;> rfl
theorem FR.put {ns : Nat} {tm : Trie Value} {ds : List Deferred} {a : Act} (h : FR φ A w ns tm ds a) {v V : Value} (hv : RV φ w v V) (hk : vok A.ok v = true) (dst : Option Tmp) : FR φ A w ns (putD ns tm dst v) ds (a.put dst V) :=
  ⟨h.tmr.putD hv dst, putD_all h.tmr.2.2.1 h.tok hk, by rw [Act.put_defers]; exact h.dsr, h.dso⟩
theorem FR.defer {ns : Nat} {tm : Trie Value} {ds e E : List Deferred} {a : Act} (h : FR φ A w ns tm ds a) (he : RDL φ w e E) (hk : e.all (dok A.ok) = true) : FR φ A w ns tm (e ++ ds) { a with defers := E ++ a.defers } :=
  ⟨h.tmr, h.tok, RDL.append he h.dsr, by rw [List.all_append, hk, h.dso]; rfl⟩
theorem ops_run {c : Cfg} {rc : Rec} (hc : CfgOK P c) (hrc : RecOK P rc) {ops : Array Oper} {k : List Item} {b : Frame} {cs : List Frame} (hb : CtxOK b cs) {ns : Nat} : ∀ (rest : List Oper) (i : Nat) (φ : Rn) (A : AS) (w : World) (tm : Trie Value) (ds : List Deferred) (a : Act) (tm' : Trie Value) (ds' : List Deferred) (A' : AS),
    ops.toList.drop i = rest → Rel φ A w → FR φ A w ns tm ds a → evOps P c rc b.roundOf.isSome ns ops.toList rest tm ds A = some (tm', ds', A') →
    ∃ φ' w' a', Steps P (lone (b.atR a (.inRegion ops (List.range' i rest.length) :: k)) cs w) (lone (b.atR a' k) cs w') ∧ Rel φ' A' w' ∧ Runs φ A w φ' A' w' ∧ FR φ' A' w' ns tm' ds' a'
  | [], i, φ, A, w, tm, ds, a, tm', ds', A', _, hR, hF, h => by
    simp only [evOps, Option.some.injEq, Prod.mk.injEq] at h
    obtain ⟨rfl, rfl, rfl⟩ := h
    exact ⟨φ, w, a, .one stepR_region_end, hR, Runs.refl _ _ _, hF⟩
  | o :: rest, i, φ, A, w, tm, ds, a, tm', ds', A', hd, hR, hF, h => by
    have ho : ops[i]? = some o := by
      have : (ops.toList.drop i)[0]? = some o := by rw [hd]; rfl
      rw [List.getElem?_drop] at this; simpa using this
    have hd' : ops.toList.drop (i + 1) = rest := by rw [← List.drop_drop, hd]; rfl
    have hwant : wants tm ops.toList o = Region.wanted o (yielded ops a.tmps) := wants_eq fun j want d _ _ => hF.tmr.2.1 d
    simp only [evOps] at h
    rw [List.length_cons, List.range'_succ]
    split at h
    · rename_i hw
      rw [hwant] at hw
      split at h
      · rename_i v A1 d he
        have hops := (evOper_some he).1
        obtain ⟨φ1, w1, V, D, h1, h2, h3, h4, h5, h6, h7⟩ := op_run hc hrc hR (k := k) (cs := cs) (a := a) (rest := List.range' (i + 1) rest.length) hb ho hw (fun x hx => ev_RV hF.tmr (hops x hx)) (fun x hx => ev_ok hF.tok (hops x hx)) he
        obtain ⟨φ2, w2, a2, h8, h9, h10, h11⟩ := ops_run hc hrc hb rest (i + 1) φ1 A1 w1 _ _ _ tm' ds' A' hd' h3 (((hF.run hR h4).defer h6 h7).put h2 h5 o.dst) h
        exact ⟨φ2, w2, a2, h1.trans h8, h9, h4.trans h10, h11⟩
      · cases h
    · rename_i hw
      rw [hwant] at hw
      obtain ⟨φ2, w2, a2, h8, h9, h10, h11⟩ := ops_run hc hrc hb rest (i + 1) φ A w _ _ (a.put o.dst undef) tm' ds' A' hd' hR (hF.put (RV_undef.2 rfl) rfl o.dst) h
      have hs := stepR_op_skip (P := P) (b := b) (a := a) (k := k) (cs := cs) (w := w) (ops := ops) (i := i) (rest := List.range' (i + 1) rest.length) (by simp [ho]; simpa using hw)
      simp only [ho, Option.bind_some] at hs
      exact ⟨φ2, w2, a2, .head hs h8, h9, h10, h11⟩
end Go.Ev
namespace Go.Ev
open Go
variable {P : Program}
structure Reg (P : Program) where
  c : Cfg
  rc : Nat → Rec
  round : Bool
  ns : Nat
  ops : List Oper
  base : List Nat
  ids : List (Option Nat)
  st : Nat → DS
def Reg.op (R : Reg P) (i : Nat) : Oper := R.ops.getD i default
def Reg.M (R : Reg P) (i : Nat) : Nat := maskOf i (R.st i).ms (R.op i).after.toList 0
def Reg.tm (R : Reg P) (i : Nat) : Trie Value := (R.st i).tm
structure Reg.OK (R : Reg P) : Prop where
  step : ∀ i, i < R.ops.length → drawOne P R.c (R.rc i) R.round R.ns R.ops R.base R.ids i (R.op i) (R.st i) = some (R.st (i + 1))
  ms : (R.st 0).ms = []
  sn : (R.st 0).sn = ⟨.nil, .nil⟩
  ts : (R.st 0).ts = []
  rs : (R.st 0).rs = []
  hs : ∃ A, (R.st 0).hs = [A]
  ns : R.ns < 65535
theorem drawAll_hist (c : Cfg) (rc : Nat → Rec) (round : Bool) (ns : Nat) (ops : List Oper) (base : List Nat) (ids : List (Option Nat)) : ∀ (rest : List Oper) (i : Nat) (S S' : DS), drawAll P c rc round ns ops base ids i rest S = some S' →
    ∃ st : Nat → DS, st i = S ∧ st (i + rest.length) = S' ∧ ∀ j o, rest[j]? = some o → drawOne P c (rc (i + j)) round ns ops base ids (i + j) o (st (i + j)) = some (st (i + j + 1))
  | [], i, S, S', h => by
    simp only [drawAll, Option.some.injEq] at h
    exact ⟨fun _ => S, rfl, h, fun j o ho => by simp at ho⟩
  | o :: rest, i, S, S', h => by
    simp only [drawAll] at h
    split at h
    · rename_i S1 h1
      obtain ⟨st, h2, h3, h4⟩ := drawAll_hist c rc round ns ops base ids rest (i + 1) S1 S' h
      refine ⟨fun n => if n = i then S else st n, by simp, ?_, fun j u hu => ?_⟩
      · show (if i + (o :: rest).length = i then S else st (i + (o :: rest).length)) = S'
        rw [if_neg (by simp), ← h3]; congr 1; simp; omega
      · cases j with
        | zero =>
          simp only [List.getElem?_cons_zero, Option.some.injEq] at hu; subst hu
          simp only [Nat.add_zero, if_true, if_neg (show ¬ i + 1 = i by omega), h2]; exact h1
        | succ j =>
          have := h4 j u (by simpa using hu)
          show drawOne P c (rc (i + (j + 1))) round ns ops base ids (i + (j + 1)) u (if i + (j + 1) = i then S else st (i + (j + 1))) = some (if i + (j + 1) + 1 = i then S else st (i + (j + 1) + 1))
          rw [if_neg (by omega), if_neg (by omega), show i + (j + 1) = i + 1 + j by omega]; exact this
    · cases h
inductive Did (P : Program) (c : Cfg) (rc : Rec) (round : Bool) (ns : Nat) (base : List Nat) (ids : List (Option Nat)) (i m : Nat) (o : Oper) (S S1 : DS) (A : AS) (hs : List AS) : Prop where
  | news (n : Nat) : kindOf o = .news → (ids[i]?).bind id = some n → S1.tm = putD ns S.tm o.dst (ptr n) → S1.hs = S.hs → S1.ts = S.ts → S1.rs = S.rs → Did P c rc round ns base ids i m o S S1 A hs
  | still (v : Value) (A1 : AS) : kindOf o = .still → evOper P c rc round S.tm o { A with pend := pends m ids 0 ++ base } = some (v, A1, none) → S1.tm = putD ns S.tm o.dst v → S1.hs = S.hs → S1.ts = S.ts → S1.rs = S.rs → Did P c rc round ns base ids i m o S S1 A hs
  | reads (v : Value) (A1 : AS) : kindOf o = .reads → evOper P c rc round S.tm o { A with pend := pends m ids 0 ++ base } = some (v, A1, none) → S1.tm = putD ns S.tm o.dst v → S1.hs = S.hs → S1.ts = S.ts →
      (hs.take (S.ts.takeWhile fun t => !m.testBit t).length).all (still P (pends m ids 0 ++ base) S.tm o v) = true → S1.rs = (i, o, S.tm, v) :: S.rs → Did P c rc round ns base ids i m o S S1 A hs
  | turns (v : Value) (A1 : AS) : kindOf o = .turns → evOper P c rc round S.tm o { A with pend := pends m ids 0 ++ base } = some (v, A1, none) → S1.tm = putD ns S.tm o.dst v → S1.hs = { A1 with pend := base } :: S.hs → S1.ts = i :: S.ts →
      (∀ t r, S.ts = t :: r → m.testBit t = true) → again P (pends 0 ids 0 ++ base) m { A1 with pend := base } S.rs = true → S1.rs = S.rs.filter (fun x => !m.testBit x.1) → Did P c rc round ns base ids i m o S S1 A hs
theorem dDo_some {c : Cfg} {rc : Rec} {round : Bool} {ns : Nat} {ops : List Oper} {base : List Nat} {ids : List (Option Nat)} {i m : Nat} {o : Oper} {S S1 : DS} (h : dDo P c rc round ns ops base ids i m o S = some S1) :
    S1.ms = S.ms ∧ S1.sn = S.sn ∧ ∃ A hs, S.hs = A :: hs ∧
    ((wants S.tm ops o = false ∧ kindOf o ≠ .news ∧ S1 = { S with tm := putD ns S.tm o.dst undef }) ∨ (wants S.tm ops o = true ∧ Did P c rc round ns base ids i m o S S1 A hs)) := by
  unfold dDo at h
  split at h
  · cases h
  · rename_i A hs hh
    split at h
    · rename_i hw
      unfold dKind at h
      simp only at h
      split at h
      · rename_i hk
        unfold dNews at h
        split at h
        · rename_i n hn
          simp only [Option.some.injEq] at h; subst h
          exact ⟨rfl, rfl, A, hs, hh, .inr ⟨hw, .news n hk hn rfl rfl rfl rfl⟩⟩
        · cases h
      · rename_i hk
        unfold dStill at h
        split at h
        · rename_i v A1 he
          simp only [Option.some.injEq] at h; subst h
          exact ⟨rfl, rfl, A, hs, hh, .inr ⟨hw, .still v A1 hk he rfl rfl rfl rfl⟩⟩
        · cases h
      · rename_i hk
        unfold dReads at h
        split at h
        · rename_i v A1 he
          split at h
          · rename_i hall
            simp only [Option.some.injEq] at h; subst h
            exact ⟨rfl, rfl, A, hs, hh, .inr ⟨hw, .reads v A1 hk he rfl rfl rfl hall rfl⟩⟩
          · cases h
        · cases h
      · rename_i hk
        split at h
        · rename_i hts
          unfold dTurns at h
          split at h
          · rename_i v A1 he
            split at h
            · rename_i hag
              simp only [Option.some.injEq] at h; subst h
              exact ⟨rfl, rfl, A, hs, hh, .inr ⟨hw, .turns v A1 hk he rfl rfl rfl (fun t r e => by rw [e] at hts; simpa [turnOk] using hts) hag rfl⟩⟩
            · cases h
          · cases h
        · cases h
    · rename_i hw
      unfold dSkip at h
      split at h
      · cases h
      · rename_i hk
        simp only [Option.some.injEq] at h; subst h
        exact ⟨rfl, rfl, A, hs, hh, .inl ⟨by simpa using hw, hk, rfl⟩⟩
theorem drawOne_some {c : Cfg} {rc : Rec} {round : Bool} {ns : Nat} {ops : List Oper} {base : List Nat} {ids : List (Option Nat)} {i : Nat} {o : Oper} {S S' : DS} (h : drawOne P c rc round ns ops base ids i o S = some S') :
    (∀ x ∈ opsL o.op, opk x = true) ∧ tempsOk S.sn (maskOf i S.ms o.after.toList 0) (looks ops o) o.dst = true ∧ (∀ e ∈ o.after.toList, bind e = true → e.on < i) ∧
    S'.ms = maskOf i S.ms o.after.toList 0 :: S.ms ∧ S'.sn = seenOf S.sn i (looks ops o) o.dst ∧
    ∃ S1, dDo P c rc round ns ops base ids i (maskOf i S.ms o.after.toList 0) o S = some S1 ∧ S'.tm = S1.tm ∧ S'.hs = S1.hs ∧ S'.ts = S1.ts ∧ S'.rs = S1.rs := by
  unfold drawOne at h
  simp only at h
  split at h
  · rename_i hc
    unfold dCheck at hc
    simp only [Bool.and_eq_true, List.all_eq_true, Bool.or_eq_true, Bool.not_eq_true', Nat.blt_eq] at hc
    unfold dSeen at h
    split at h
    · rename_i S1 h1
      simp only [Option.some.injEq] at h; subst h
      obtain ⟨e1, e2, _⟩ := dDo_some h1
      exact ⟨hc.1.1, hc.1.2, fun e he hb => (hc.2 e he).resolve_left (by rw [hb]; simp), by rw [← e1], by rw [← e2], S1, h1, rfl, rfl, rfl, rfl⟩
    · cases h
  · cases h
theorem maskOf_spec (k : Nat) (ms : List Nat) (B : Nat → Nat) (hB : ∀ j, j < k → ms.getD (k - 1 - j) 0 = B j) : ∀ (es : List Edge) (s : Nat), (∀ e ∈ es, bind e = true → e.on < k) → (∀ j, s.testBit j = true → ∀ l, (B j).testBit l = true → s.testBit l = true) →
    (∀ j, j < k → ∀ l, (B j).testBit l = true → ∀ m, (B l).testBit m = true → (B j).testBit m = true) →
    (∀ j, s.testBit j = true → (maskOf k ms es s).testBit j = true) ∧ (∀ e ∈ es, bind e = true → (maskOf k ms es s).testBit e.on = true) ∧
      ∀ j, (maskOf k ms es s).testBit j = true → ∀ l, (B j).testBit l = true → (maskOf k ms es s).testBit l = true
  | [], s, _, hs, _ => ⟨fun _ h => h, by simp, hs⟩
  | e :: es, s, he, hs, hc => by
    simp only [maskOf]
    have he' : ∀ e ∈ es, bind e = true → e.on < k := fun x hx => he x (by simp [hx])
    by_cases hb : (bind e && !s.testBit e.on) = true
    · rw [if_pos hb]
      simp only [Bool.and_eq_true, Bool.not_eq_true'] at hb
      have hlt := he e (by simp) hb.1
      rw [hB e.on hlt]
      have hs' : ∀ j, (s ||| 2 ^ e.on ||| B e.on).testBit j = true → ∀ l, (B j).testBit l = true → (s ||| 2 ^ e.on ||| B e.on).testBit l = true := by
        intro j hj l hl
        simp only [Nat.testBit_or, Nat.testBit_two_pow, Bool.or_eq_true, decide_eq_true_eq] at hj ⊢
        rcases hj with (hj | hj) | hj
        · exact .inl (.inl (hs j hj l hl))
        · subst hj; exact .inr hl
        · exact .inr (hc e.on hlt j hj l hl)
      obtain ⟨h1, h2, h3⟩ := maskOf_spec k ms B hB es _ he' hs' hc
      refine ⟨fun j hj => h1 j (by simp [Nat.testBit_or, hj]), fun x hx hbx => ?_, h3⟩
      rcases List.mem_cons.1 hx with rfl | hx
      · exact h1 _ (by simp [Nat.testBit_or, Nat.testBit_two_pow])
      · exact h2 x hx hbx
    · rw [if_neg hb]
      obtain ⟨h1, h2, h3⟩ := maskOf_spec k ms B hB es s he' hs hc
      refine ⟨h1, fun x hx hbx => ?_, h3⟩
      rcases List.mem_cons.1 hx with rfl | hx
      · simp only [hbx, Bool.true_and, Bool.not_eq_true', Bool.not_eq_false] at hb
        exact h1 _ hb
      · exact h2 x hx hbx
theorem Reg.OK.ms_get {R : Reg P} (h : R.OK) : ∀ k, k ≤ R.ops.length → (R.st k).ms.length = k ∧ ∀ j, j < k → (R.st k).ms.getD (k - 1 - j) 0 = R.M j
  | 0, _ => ⟨by rw [h.ms]; rfl, fun j hj => by omega⟩
  | k + 1, hk => by
    obtain ⟨h1, h2⟩ := h.ms_get k (by omega)
    have h3 := (drawOne_some (h.step k (by omega))).2.2.2.1
    refine ⟨by rw [h3]; simp [h1], fun j hj => ?_⟩
    rw [h3]
    by_cases e : j = k
    · subst e
      rw [show j + 1 - 1 - j = 0 by omega]; rfl
    · rw [show k + 1 - 1 - j = (k - 1 - j) + 1 by omega]
      exact h2 j (by omega)
theorem Reg.OK.masks {R : Reg P} (h : R.OK) : ∀ i, i < R.ops.length → (∀ e ∈ (R.op i).after.toList, bind e = true → e.on < i ∧ (R.M i).testBit e.on = true) ∧ ∀ j, (R.M i).testBit j = true → j < i ∧ ∀ l, (R.M j).testBit l = true → (R.M i).testBit l = true := by
  intro i
  induction i using Nat.strongRecOn with
  | _ i ih =>
    intro hi
    have hm := (h.ms_get i (by omega)).2
    have hlt := (drawOne_some (h.step i hi)).2.2.1
    have hsp := maskOf_spec i (R.st i).ms (fun j => if j < i then R.M j else 0) (fun j hj => by rw [if_pos hj]; exact hm j hj) (R.op i).after.toList 0 hlt (fun j hj => by simp at hj)
      (fun j hj l hl m hm' => by
        rw [if_pos hj] at hl ⊢
        obtain ⟨h1, h2⟩ := (ih j hj (by omega)).2 l hl
        rw [if_pos (by omega)] at hm'
        exact h2 m hm')
    have hbound : ∀ j, (R.M i).testBit j = true → j < i := by
      have gen : ∀ (es : List Edge) (s : Nat), (∀ e ∈ es, bind e = true → e.on < i) → (∀ j, s.testBit j = true → j < i) → ∀ j, (maskOf i (R.st i).ms es s).testBit j = true → j < i := by
        intro es
        induction es with
        | nil => intro s _ hs j hj; exact hs j hj
        | cons e es ih2 =>
          intro s he hs j hj
          simp only [maskOf] at hj
          refine ih2 _ (fun x hx => he x (by simp [hx])) ?_ j hj
          intro l hl
          split at hl
          · rename_i hb
            simp only [Bool.and_eq_true] at hb
            have hlt := he e (by simp) hb.1
            rw [hm e.on hlt] at hl
            simp only [Nat.testBit_or, Nat.testBit_two_pow, Bool.or_eq_true, decide_eq_true_eq] at hl
            rcases hl with (hl | hl) | hl
            · exact hs l hl
            · omega
            · have := ((ih e.on hlt (by omega)).2 l hl).1; omega
          · exact hs l hl
      exact gen _ 0 hlt (fun j hj => by simp at hj)
    refine ⟨fun e he hb => ⟨hlt e he hb, hsp.2.1 e he hb⟩, fun j hj => ⟨hbound j hj, fun l hl => hsp.2.2 j hj l (by rw [if_pos (hbound j hj)]; exact hl)⟩⟩
end Go.Ev
