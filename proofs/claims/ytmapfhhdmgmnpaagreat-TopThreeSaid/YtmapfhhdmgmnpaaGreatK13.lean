import Derived.Laws.BitsAllLaws
import Derived.Test.YtmapfhhdmgmnpaaGreatK12
namespace Go.Ev
open Go Go.Proofs Tryz
set_option maxRecDepth 1000000
set_option maxHeartbeats 4000000
theorem aBin_xor32 {t : TypeId} {a b : Nat} (ha : a < 4294967296) (hb : b < 4294967296) : aBin prog .xor t (.int .u32 (a : Int)) (.int .u32 (b : Int)) = some (.int .u32 ((Nat.xor a b : Nat) : Int)) := by
  have h : abin prog .xor t (.int .u32 (a : Int)) (.int .u32 (b : Int)) = some (.int .u32 ((Nat.xor a b : Nat) : Int)) :=
    congrArg (fun z => some (Value.int .u32 z)) (u32_xor_nat a b ha hb)
  unfold aBin
  rw [h]; rfl
theorem aBin_and32 {t : TypeId} {a b : Nat} (ha : a < 4294967296) (hb : b < 4294967296) : aBin prog .and t (.int .u32 (a : Int)) (.int .u32 (b : Int)) = some (.int .u32 ((a &&& b : Nat) : Int)) := by
  have h : abin prog .and t (.int .u32 (a : Int)) (.int .u32 (b : Int)) = some (.int .u32 ((a &&& b : Nat) : Int)) :=
    congrArg (fun z => some (Value.int .u32 z)) (u32_and_nat a b ha hb)
  unfold aBin
  rw [h]; rfl
theorem aBin_half {t : TypeId} {n : Nat} : aBin prog .shr t (.int .u32 (n : Int)) (.int .u64 1) = some (.int .u32 ((n / 2 : Nat) : Int)) := by
  have h : abin prog .shr t (.int .u32 (n : Int)) (.int .u64 1) = some (.int .u32 ((n / 2 : Nat) : Int)) := by
    show some (Value.int .u32 (Int.fdiv (n : Int) (2 ^ 1))) = _
    have e : Int.fdiv (n : Int) (2 ^ 1) = ((n / 2 : Nat) : Int) := by
      rw [Int.fdiv_eq_ediv_of_nonneg _ (by decide)]
      show (n : Int) / 2 = _
      omega
    rw [e]
  unfold aBin
  rw [h]; rfl
theorem sUn {c : Bool} {ns ty : Nat} {ops rest : List Oper} {k : List Item} {tm : Trie Value} {A : AS} {Q : Trie Value → AS → Prop} {dst : Option Tmp} {pos : String} {after : Array Edge} {x : Operand} {op : UnOp} {t : TypeId} {κ : IntKind} {n m : Int} (hx : ev tm x = .int κ n)
    (h : pureRun prog (Op.unary op (.int κ n)) = some (.int κ m)) (K : wRun prog c ns ops rest k (putD ns tm dst (.int κ m)) A Q) :
    sSome prog c ns (aBare prog tm ⟨dst, .unOp op t x, ty, pos, after, none⟩ A) dst ops rest k tm Q := by
  have e : aBare prog tm ⟨dst, .unOp op t x, ty, pos, after, none⟩ A = some (.int κ m, A) := by
    unfold aBare
    have h1 : (opsL (Op.unOp op t x)).all (fun z => bare (ev tm z)) = true := by
      simp only [opsL, List.all_cons, List.all_nil, hx]; rfl
    rw [if_pos h1]
    have h2 : pureRun prog (execOp (ev tm) ⟨dst, .unOp op t x, ty, pos, after, none⟩) = some (Next.value (.int κ m)) := by
      show pureRun prog ((Op.unary op (ev tm x)) >>= fun v => pure (Next.value v)) = _
      rw [hx, pureRun_bind, h]; rfl
    rw [h2]; rfl
  rw [e, sSome_some]; exact K
theorem sConv {c : Bool} {ns ty : Nat} {ops rest : List Oper} {k : List Item} {tm : Trie Value} {A : AS} {Q : Trie Value → AS → Prop} {dst : Option Tmp} {pos : String} {after : Array Edge} {x : Operand} {s t : TypeId} {κ κ' : IntKind} {n m : Int} (hx : ev tm x = .int κ n)
    (h : pureRun prog (convert s t (.int κ n)) = some (.int κ' m)) (K : wRun prog c ns ops rest k (putD ns tm dst (.int κ' m)) A Q) :
    sSome prog c ns (aBare prog tm ⟨dst, .convert s t x, ty, pos, after, none⟩ A) dst ops rest k tm Q := by
  have e : aBare prog tm ⟨dst, .convert s t x, ty, pos, after, none⟩ A = some (.int κ' m, A) := by
    unfold aBare
    have h1 : (opsL (Op.convert s t x)).all (fun z => bare (ev tm z)) = true := by
      simp only [opsL, List.all_cons, List.all_nil, hx]; rfl
    rw [if_pos h1]
    have h2 : pureRun prog (execOp (ev tm) ⟨dst, .convert s t x, ty, pos, after, none⟩) = some (Next.value (.int κ' m)) := by
      show pureRun prog ((convert s t (ev tm x)) >>= fun v => pure (Next.value v)) = _
      rw [hx, pureRun_bind, h]; rfl
    rw [h2]; rfl
  rw [e, sSome_some]; exact K
theorem conv_u8 (k : Nat) (h : k < 256) : pureRun prog (convert 5 306 (.int .u8 (k : Int))) = some (.int .u32 (k : Int)) := by
  have e : pureRun prog (convert 5 306 (.int .u8 (k : Int))) = some (.int .u32 (IntKind.u32.wrap (k : Int))) := by kernel_rfl
  rw [e, IntKind.wrap_u32']
  congr 2
  omega
theorem not_u32 (x : Nat) (h : x < 4294967296) : pureRun prog (Op.unary .xor (.int .u32 (x : Int))) = some (.int .u32 ((Nat.xor x 4294967295 : Nat) : Int)) := by
  have h2 := u32_xor_nat 4294967295 x (by decide) h
  have e : Nat.xor x 4294967295 = 4294967295 ^^^ x := Nat.xor_comm _ _
  rw [e]
  exact congrArg (fun z => some (Value.int .u32 z)) h2
theorem halved_fn (n : Nat) (hn : n < 4294967296) : Fn prog 337 [.int .u32 n] (.int .u32 (hv n : Nat)) := by
  refine fn_is func337 ntmps337 results337 rfl cfgOK mixed rfl ?_
  have h1 := @aBin_half 306 n
  have h2 : aBin prog .and 306 (.int .u32 (n : Int)) (.int .u32 1) = some (.int .u32 ((n % 2 : Nat) : Int)) := by
    have := @aBin_and32 306 n 1 hn (by decide)
    rw [Nat.and_one_is_mod] at this
    exact this
  have hu := @wo_unOp
  rcases Nat.mod_two_eq_zero_or_one n with hm | hm
  · have e : hv n = n / 2 := by
      have : hv n = (n / 2) ^^^ 0 := by unfold hv; rw [if_neg (by omega)]
      rw [this, Nat.xor_zero]
    rw [hm] at h2
    rw [e]
    have h3 : aBin prog .and 306 (.int .u32 2197175160) (.int .u32 0) = some (.int .u32 0) := by kernel_rfl
    have h4 : aBin prog .xor 306 (.int .u32 ((n / 2 : Nat) : Int)) (.int .u32 0) = some (.int .u32 ((n / 2 : Nat) : Int)) := by
      have := @aBin_xor32 306 (n / 2) 0 (by omega) (by decide)
      have e2 : Nat.xor (n / 2) 0 = n / 2 := Nat.xor_zero _
      rw [e2] at this
      exact this
    clear hm e
    generalize n / 2 = q at *
    refine burst ?_
    refine sUn (n := ((0 : Nat) : Int)) (m := 0) seen (by kernel_rfl) ?_
    refine burst ?_
    exact ends (.clean rfl) rfl
  · have e : hv n = Nat.xor (n / 2) 2197175160 := by
      unfold hv; rw [if_pos hm]; rfl
    rw [hm] at h2
    rw [e]
    have h3 : aBin prog .and 306 (.int .u32 2197175160) (.int .u32 4294967295) = some (.int .u32 2197175160) := by kernel_rfl
    have h4 : aBin prog .xor 306 (.int .u32 ((n / 2 : Nat) : Int)) (.int .u32 2197175160) = some (.int .u32 ((Nat.xor (n / 2) 2197175160 : Nat) : Int)) := @aBin_xor32 306 (n / 2) 2197175160 (by omega) (by decide)
    clear hm e
    generalize Nat.xor (n / 2) 2197175160 = q2 at *
    generalize n / 2 = q at *
    refine burst ?_
    refine sUn (n := ((1 : Nat) : Int)) (m := 4294967295) seen (by kernel_rfl) ?_
    refine burst ?_
    exact ends (.clean rfl) rfl
theorem hv_lt {n : Nat} (h : n < 4294967296) : hv n < 4294967296 := by
  unfold hv
  refine Nat.xor_lt_two_pow (n := 32) (by omega) ?_
  split <;> decide
theorem eight_fn (n : Nat) (hn : n < 4294967296) : Fn prog 336 [.func (.func 337) #[] #[], .int .u32 n] (.int .u32 (h8 n : Nat)) := by
  have l1 := hv_lt hn
  have l2 := hv_lt l1
  have l3 := hv_lt l2
  have l4 := hv_lt l3
  have l5 := hv_lt l4
  have l6 := hv_lt l5
  have l7 := hv_lt l6
  have c1 := halved_fn n hn
  have c2 := halved_fn _ l1
  have c3 := halved_fn _ l2
  have c4 := halved_fn _ l3
  have c5 := halved_fn _ l4
  have c6 := halved_fn _ l5
  have c7 := halved_fn _ l6
  have c8 := halved_fn _ l7
  have e : h8 n = hv (hv (hv (hv (hv (hv (hv (hv n))))))) := rfl
  rw [e]
  clear e l1 l2 l3 l4 l5 l6 l7
  generalize hv n = n1 at *
  generalize hv n1 = n2 at *
  generalize hv n2 = n3 at *
  generalize hv n3 = n4 at *
  generalize hv n4 = n5 at *
  generalize hv n5 = n6 at *
  generalize hv n6 = n7 at *
  generalize hv n7 = n8 at *
  refine fn_is func336 ntmps336 results336 rfl cfgOK mixed rfl ?_
  have w8 : IntKind.i64.wrap (8 - 1) = 7 := by decide
  have w7 : IntKind.i64.wrap (7 - 1) = 6 := by decide
  have w6 : IntKind.i64.wrap (6 - 1) = 5 := by decide
  have w5 : IntKind.i64.wrap (5 - 1) = 4 := by decide
  have w4 : IntKind.i64.wrap (4 - 1) = 3 := by decide
  have w3 : IntKind.i64.wrap (3 - 1) = 2 := by decide
  have w2 : IntKind.i64.wrap (2 - 1) = 1 := by decide
  have w1 : IntKind.i64.wrap (1 - 1) = 0 := by decide
  have g7 : decide ((0 : Int) < 7) = true := by decide
  have g6 : decide ((0 : Int) < 6) = true := by decide
  have g5 : decide ((0 : Int) < 5) = true := by decide
  have g4 : decide ((0 : Int) < 4) = true := by decide
  have g3 : decide ((0 : Int) < 3) = true := by decide
  have g2 : decide ((0 : Int) < 2) = true := by decide
  have g1 : decide ((0 : Int) < 1) = true := by decide
  have g0 : decide ((0 : Int) < 0) = false := by decide
  refine burst ?_
  refine sCall_fn c1 ?_
  refine burst ?_
  refine goto_to rfl ?_
  refine burst ?_
  refine sCall_fn c2 ?_
  refine burst ?_
  refine goto_to rfl ?_
  refine burst ?_
  refine sCall_fn c3 ?_
  refine burst ?_
  refine goto_to rfl ?_
  refine burst ?_
  refine sCall_fn c4 ?_
  refine burst ?_
  refine goto_to rfl ?_
  refine burst ?_
  refine sCall_fn c5 ?_
  refine burst ?_
  refine goto_to rfl ?_
  refine burst ?_
  refine sCall_fn c6 ?_
  refine burst ?_
  refine goto_to rfl ?_
  refine burst ?_
  refine sCall_fn c7 ?_
  refine burst ?_
  refine goto_to rfl ?_
  refine burst ?_
  refine sCall_fn c8 ?_
  refine burst ?_
  exact ends (.clean rfl) rfl
theorem h8_lt {n : Nat} (h : n < 4294967296) : h8 n < 4294967296 := hv_lt (hv_lt (hv_lt (hv_lt (hv_lt (hv_lt (hv_lt (hv_lt h)))))))
theorem does_isA {ns : Nat} {f : FuncId} {fn : Func} {body : Code} {args : List Value} {v : Value} {A : AS} {rs : Array ResultVar} {d : Bool} (hfn : prog.funcs[f]? = some fn) (hns : fn.ntmps = ns) (hrs : fn.results = rs) (hbody : fn.body = some body)
    (h : W prog ns [.code body] (setArgs args 0 .nil) A fun tm A' => ∃ vs, aresults prog tm A' rs.toList = some vs ∧ tupleOf vs = v ∧ A' = A) (hv : vok A.ok v = true)
    (h1 : args.length ≤ ns := by exact Nat.le_of_ble_eq_true rfl) (h2 : ns < 65535 := by decide) (hok : codeOk body = true := by kernel_rfl) : Does prog (.call f args d) A v A := by
  subst hns hrs
  obtain ⟨v0, A', ⟨rfl, rfl⟩, hc⟩ := fn_calls (R := fun v0 A' => v0 = v ∧ A' = A) cfgOK mixed hfn hbody h1 h2 hok h
  exact hc.does hv
def crcN (x : Nat) (l : List Nat) : Nat := l.foldl (fun x k => h8 (Nat.xor x k)) x
theorem crcN_lt : ∀ {l : List Nat} {x : Nat}, x < 4294967296 → (∀ k ∈ l, k < 256) → crcN x l < 4294967296
  | [], x, h, _ => h
  | k :: l, x, h, hk => crcN_lt (l := l) (h8_lt (Nat.xor_lt_two_pow (n := 32) (by omega) (by have := hk k (by simp); omega))) fun j hj => hk j (by simp [hj])
theorem crcC_some : ∀ {cs : List Value} {x r : Nat}, crcC x cs = some r → ∃ l : List Nat, cs = l.map (fun k => Value.int .u8 (Int.ofNat k)) ∧ (∀ k ∈ l, k < 256) ∧ r = crcN x l
  | [], x, r, h => by simp only [crcC, Option.some.injEq] at h; exact ⟨[], rfl, by simp, h.symm⟩
  | v :: cs, x, r, h => by
    unfold crcC at h
    split at h
    · rename_i h0; cases h0
    · rename_i k rest e
      cases e
      split at h
      · rename_i hk
        obtain ⟨l, rfl, h2, h3⟩ := crcC_some h
        rw [Nat.blt_eq] at hk
        exact ⟨k :: l, rfl, fun j hj => by rcases List.mem_cons.1 hj with rfl | hj; exact hk; exact h2 j hj, h3⟩
      · cases h
    · cases h
theorem more_does (A : AS) (b off n cap : Nat) (l : List Nat) (hl : l.length = n) (hk : ∀ k ∈ l, k < 256) (hc : ∀ (i k : Nat), l[i]? = some k → cellsAt A b (off + i) 1 = some [.int .u8 (k : Int)]) (hn : n < 4294967296) (d : Bool) :
    Does prog (.call 313 [.int .u32 0, .slice (some ⟨b, off, none⟩) n cap] d) A (.int .u32 ((Nat.xor (crcN 4294967295 l) 4294967295 : Nat) : Int)) A := by
  refine does_isA func313 ntmps313 results313 rfl ?_ rfl
  have hu := @wo_unOp
  have u81 : prog.underlying 81 = some (.slice 5) := by kernel_rfl
  have u306 : prog.underlying 306 = some (.int .u32) := by kernel_rfl
  refine burst ?_
  refine sUn (n := 0) (m := 4294967295) seen (by kernel_rfl) ?_
  refine burst ?_
  refine W_for n (fun i tm M => M = A ∧ tget tm 10 = .slice (some ⟨b, off, none⟩) n cap ∧ tget tm 11 = .int .i64 n ∧ tget tm 12 = .int .i64 i ∧ tget tm 5 = .int .u32 ((crcN 4294967295 (l.take i) : Nat) : Int)) ?_ 0 _ _ (by omega) ⟨rfl, look, look, look, look⟩
  rintro i tm M hi ⟨rfl, h10, h11, h12, h5⟩ next
  replace next := Hid.mk next
  refine burst ?_
  refine ifD (fun q => ?_) (fun q => ?_)
  · obtain ⟨k, e1⟩ : ∃ k, l[i]? = some k := ⟨_, get_some (by omega)⟩
    have e2 := hc i k e1
    have hk1 := hk k (List.mem_of_getElem? e1)
    have hw := wrap_succ (Nat.le_of_lt q) (by omega)
    have htk : crcN 4294967295 (l.take (i + 1)) = h8 (Nat.xor (crcN 4294967295 (l.take i)) k) := by
      rw [List.take_add_one, e1]; unfold crcN; rw [List.foldl_append]; rfl
    have hlt := crcN_lt (x := 4294967295) (by decide) (fun j hj => hk j (List.mem_of_mem_take (i := i) hj))
    have hx := @aBin_xor32 306 (crcN 4294967295 (l.take i)) k hlt (by omega)
    have c := eight_fn _ (Nat.xor_lt_two_pow (n := 32) (x := crcN 4294967295 (l.take i)) (y := k) (by omega) (by omega))
    clear hc hk hl
    replace e1 := Hid.mk e1
    have hcv := @wo_convert
    have hcn : ∀ {x : Value}, aconvert prog M 5 306 x = none := fun {x} => by unfold aconvert; rw [underlying5, u306]
    refine burst ?_
    refine sConv (n := (k : Int)) (m := (k : Int)) seen (conv_u8 k hk1) ?_
    refine burst ?_
    refine sCall_fn c ?_
    refine burst ?_
    exact next.out _ _ q ⟨rfl, look, look, look, Eq.trans look (by rw [htk]; rfl)⟩
  · have hii : i = n := by omega
    subst hii
    rw [List.take_of_length_le (by omega)] at h5
    have hlt := crcN_lt (x := 4294967295) (by decide) hk
    have h7 := not_u32 _ hlt
    generalize crcN 4294967295 l = x at *
    refine burst ?_
    refine sUn (n := (x : Int)) (m := ((Nat.xor x 4294967295 : Nat) : Int)) seen h7 ?_
    refine burst ?_
    exact ⟨_, rfl, rfl⟩
theorem sum_does (A : AS) (b off n cap : Nat) (l : List Nat) (hl : l.length = n) (hk : ∀ k ∈ l, k < 256) (hc : ∀ (i k : Nat), l[i]? = some k → cellsAt A b (off + i) 1 = some [.int .u8 (k : Int)]) (hn : n < 4294967296) (d : Bool) :
    Does prog (.call 283 [.slice (some ⟨b, off, none⟩) n cap] d) A (.int .u32 ((Nat.xor (crcN 4294967295 l) 4294967295 : Nat) : Int)) A := by
  refine does_isA func283 ntmps283 results283 rfl ?_ rfl
  have c := more_does A b off n cap l hl hk hc hn false
  refine burst ?_
  refine sCall_does c ?_
  refine burst ?_
  exact ⟨_, rfl, rfl⟩
end Go.Ev
namespace Go.Ev
open Go Go.Proofs Tryz
set_option maxRecDepth 1000000
set_option maxHeartbeats 4000000
theorem cellsAt_one {A : AS} {b off n i : Nat} {cs : List Value} {v : Value} (h : cellsAt A b off n = some cs) (hv : cs[i]? = some v) : cellsAt A b (off + i) 1 = some [v] := by
  have key : ∀ {all : List Value}, part all off n = some cs → part all (off + i) 1 = some [v] := fun {all} h => by
    obtain ⟨h1, rfl⟩ := part_some h
    have hi : i < n := by
      have := (List.getElem?_eq_some_iff.1 hv).1
      simp at this; omega
    rw [List.getElem?_take, if_pos hi, List.getElem?_drop] at hv
    unfold part
    rw [if_pos (by omega)]
    congr 1
    obtain ⟨h2, rfl⟩ := List.getElem?_eq_some_iff.1 hv
    rw [List.drop_eq_getElem_cons h2]
    rfl
  unfold cellsAt at h ⊢
  split at h
  · exact key h
  · exact key h
  · cases h
theorem cellsAt_len {A : AS} {b off n : Nat} {cs : List Value} (h : cellsAt A b off n = some cs) : cs.length = n := by
  have key : ∀ {all : List Value}, part all off n = some cs → cs.length = n := fun {all} h => by
    obtain ⟨h1, rfl⟩ := part_some h
    simp; omega
  unfold cellsAt at h
  split at h
  · exact key h
  · exact key h
  · cases h
theorem sumS_ok : RecOK prog sumS := fun job A v A' h => by
  unfold sumS at h
  split at h
  · rename_i f a n cap d
    split at h
    · rename_i hc
      simp only [Bool.and_eq_true] at hc
      have hf : f = 283 := Nat.eq_of_beq_eq_true hc.1
      have hn : n ≤ 1000000 := Nat.le_of_ble_eq_true hc.2
      subst hf
      split at h
      · rename_i hs
        split at h
        · rename_i cs hcs
          split at h
          · rename_i x hx
            simp only [Option.some.injEq, Prod.mk.injEq] at h
            obtain ⟨rfl, rfl⟩ := h
            obtain ⟨l, rfl, hk, rfl⟩ := crcC_some hx
            obtain ⟨b, off, sp⟩ := a
            simp only at hs hcs
            subst hs
            have hl : l.length = n := by
              have := cellsAt_len hcs
              simpa using this
            exact sum_does A b off n cap l hl hk (fun i k hi => cellsAt_one hcs (by simp [hi])) (by omega) d
          · cases h
        · cases h
      · cases h
    · cases h
  · cases h
theorem does_around {P : Program} {f : FuncId} {args : List Value} {v v' : Value} {A' : AS} (h : Does P (.call f args false) A0 v A') (hargs : cleanL args = true) (hv : Frz A' v v') (A : AS) : Does P (.call f args false) A v' A := by
  obtain ⟨_, h2, h3⟩ := h
  refine ⟨clean_ok hv.cleans, h2, fun φ w Vs hR hk hV c cs hd => ?_⟩
  obtain ⟨φ', w', V, s1, s2, s3, s4⟩ := h3 φ w Vs hR.empty (cleanL_ok hargs) hV c cs hd
  obtain ⟨q1, q2⟩ := Rel.around rfl hR s3 s4
  have hpd : A'.pend = [] := s4.pend
  exact ⟨_, w', V, s1, hv.rv s3 hpd (fun n hn => by
    have := s4.agree n (.inr (frN_big hn))
    exact ⟨this.1.symm, this.2.symm⟩) s2, q1, q2⟩
end Go.Ev
