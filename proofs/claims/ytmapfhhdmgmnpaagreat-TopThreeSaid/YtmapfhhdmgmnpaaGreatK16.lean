import Derived.ChangeArms
import Derived.ProofKit
import Derived.Test.YtmapfhhdmgmnpaaGreatK07
import Derived.Test.YtmapfhhdmgmnpaaGreatK13
import Derived.Test.YtmapfhhdmgmnpaaGreatK14
import Derived.Test.YtmapfhhdmgmnpaaGreatK15
namespace Go.Ev
open Go Go.Proofs Tryz
set_option maxRecDepth 1000000
set_option maxHeartbeats 4000000
theorem open_does : Does prog (.call 14 [vD, vT] false) A2 v3 (ofL 696 l3) := ends1_does cfgW_ok mixed sumS_ok (by decide) open_run
theorem isT_some {r : Option (Value × AS)} (h : isT r = true) : ∃ A', r = some (.bool true, A') := by
  unfold isT at h
  split at h
  · exact ⟨_, rfl⟩
  · cases h
theorem callS_does {P : Program} {c : Cfg} {S : Rec} {n : Nat} {job : Job} {A A' : AS} {v : Value} (hc : CfgOK P c) (hm : P.follows .mixedOrders = true) (hS : RecOK P S) (h : callS P c S n job A = some (v, A')) : Does P job A v A' := callS_ok hc hm hS n _ _ _ _ h
theorem works_does (A : AS) : Does prog (.call 8 [] false) A (.bool true) A := by
  obtain ⟨A', e⟩ := isT_some works_run
  have h := callS_does cfgW_ok mixed (memo_ok open_does sumS_ok) e
  exact does_around h rfl (.clean rfl) A
theorem topThree_calls (T : TP.Tree TP.Nd) (A B C : List GOp) : ∃ v0 A', CallsW prog 3 [vNode T, rowO A, rowO B, rowO C] A0 v0 A' ∧ Frz A' v0 (.bool true) := three_fn works_does T A B C
end Go.Ev
namespace Go.Ev
open Go Go.Proofs Tryz
open TP (Str Tree Nd)
set_option maxRecDepth 100000
set_option maxHeartbeats 4000000
def Ice (φ : Rn) (w : World) : Prop := ∀ b, b < w.heap.size → φ.F b
section
variable {H : Type} {ec : TypeId × Value → H} {φ : Rn} {w : World}
theorem add_add (a : Addr) (i j : Nat) : (a.add i).add j = a.add (i + j) := by
  unfold Addr.add
  by_cases hi : i = 0
  · subst hi; simp
  · by_cases hj : j = 0
    · subst hj; simp
    · simp [hi, hj]; omega
theorem row_open {α : Type} (hI : Ice φ w) {enc : α → List Value} {t e k : Nat} (ht : prog.underlying t = some (.slice e)) (hk : prog.cellsOf e = k) (hk0 : 0 < k) {fuel : Nat} {cs : List Value} {x : DataW H × List MemPlace}
    (h : DataW.trod ec prog w 0 (fun _ => true) true fuel t cs = some x)
    (dec : ∀ n, n < fuel → ∀ (cs : List Value) (x : DataW H × List MemPlace), DataW.trod ec prog w 0 (fun _ => true) true n e cs = some x → ∃ a : α, RVL φ w (enc a) cs) : ∃ (l : List α) (V : Value), cs = [V] ∧ RV φ w (frow l.length (l.flatMap enc)) V := by
  rcases DataW.trod_slice ht h with ⟨rfl, _⟩ | ⟨a, len, cap, elems, rest, n, hf, rfl, _, _, hl, _, hlen, hget, _, _⟩
  · exact ⟨[], _, rfl, RV_frow.2 ⟨#[], rfl, .inl ⟨rfl, rfl, rfl⟩⟩⟩
  rw [hk] at hget
  have main : ∀ m, m ≤ len → ∃ (l : List α) (L : List Value), l.length = m ∧ RVL φ w (l.flatMap enc) L ∧ L.length = m * k ∧ ∀ i V, L[i]? = some V → w.cell? (a.add i) = some V := by
    intro m
    induction m with
    | zero => intro _; exact ⟨[], [], rfl, rfl, by simp, by simp⟩
    | succ m ih =>
      intro hm
      obtain ⟨l, L, h1, h2, h3, h4⟩ := ih (by omega)
      have hg := hget m (by omega)
      rw [List.getElem?_eq_getElem (show m < elems.length by omega)] at hg
      obtain ⟨cs', hc, hd⟩ := Option.bind_eq_some_iff.1 hg
      obtain ⟨o, ho⟩ := dec n (by omega) cs' _ hd
      obtain ⟨_, hlc, hcell⟩ := World.cells?_some hc
      refine ⟨l ++ [o], L ++ cs', by simp [h1], by rw [List.flatMap_append]; simpa using h2.append ho, by rw [List.length_append, h3, hlc, Nat.succ_mul], fun i V hV => ?_⟩
      by_cases hi : i < L.length
      · rw [List.getElem?_append_left hi] at hV
        exact h4 i V hV
      · rw [List.getElem?_append_right (by omega)] at hV
        have hj : i - L.length < k := by
          have := (List.getElem?_eq_some_iff.1 hV).1; omega
        have := hcell _ hj
        rw [add_add, hV] at this
        rw [← this, h3]
        congr 2
        omega
  obtain ⟨l, L, h1, h2, h3, h4⟩ := main len (Nat.le_refl _)
  refine ⟨l, _, rfl, RV_frow.2 ⟨⟨L⟩, h2, .inr ⟨a, cap, by rw [h1], by omega, ?_⟩⟩⟩
  by_cases h0 : len = 0
  · subst h0
    right
    have : L = [] := List.eq_nil_of_length_eq_zero (by simpa using h3)
    subst this
    exact ⟨rfl, h1, trivial⟩
  · left
    have hpos : 0 < L.length := by rw [h3]; exact Nat.mul_pos (by omega) hk0
    have hfirst := h4 0 L[0] (List.getElem?_eq_getElem hpos)
    have ha0 : a.add 0 = a := rfl
    rw [ha0] at hfirst
    have hsp := World.cell?_spot hfirst
    have hlt : a.block < w.heap.size := World.block_lt_of_cell? w _ hfirst
    refine ⟨hsp, hI _ hlt, ?_⟩
    have hc := hfirst
    unfold World.cell? at hc
    split at hc
    · rename_i c e' fz hh
      refine ⟨c, e', fz, hh, fun i hi => ?_⟩
      have hi : i < L.length := hi
      have := h4 i L[i] (List.getElem?_eq_getElem hi)
      have e2 : a.add i = ⟨a.block, a.off + i, none⟩ := by
        unfold Addr.add
        split
        · rename_i h; subst h; cases a; simp at hsp; simp [hsp]
        · rfl
      rw [e2, cell_of hh] at this
      rw [this]
      simp [hi]
    · cases hc
theorem bare_one {v : Value} (h : bare v = true) : RVL φ w [v] [v] := ⟨v, [], rfl, (RV.bare _ _ h).2 rfl, rfl⟩
theorem int_open {t : Nat} {κ : IntKind} (ht : prog.underlying t = some (.int κ)) {fuel : Nat} {cs : List Value} {x : DataW H × List MemPlace} (h : DataW.trod ec prog w 0 (fun _ => true) true fuel t cs = some x) : ∃ n, cs = [.int κ n] := by
  obtain ⟨n, h1, _, _⟩ := DataW.trod_int ht h
  exact ⟨n, h1⟩
theorem str_open {t : Nat} (ht : prog.underlying t = some .string) {fuel : Nat} {cs : List Value} {x : DataW H × List MemPlace} (h : DataW.trod ec prog w 0 (fun _ => true) true fuel t cs = some x) : ∃ s : Str, cs = [.string (bs s)] := by
  obtain ⟨s, h1, _, _⟩ := DataW.trod_string ht h
  refine ⟨s.data.toList, ?_⟩
  rw [h1]
  rfl
theorem bool_open {t : Nat} (ht : prog.underlying t = some .bool) {fuel : Nat} {cs : List Value} {x : DataW H × List MemPlace} (h : DataW.trod ec prog w 0 (fun _ => true) true fuel t cs = some x) : ∃ b, cs = [.bool b] := by
  obtain ⟨b, h1, _⟩ := DataW.trod_bool ht h
  exact ⟨b, h1⟩
theorem co3 : prog.cellsOf 3 = 1 := by kernel_rfl
theorem co4 : prog.cellsOf 4 = 1 := by kernel_rfl
theorem co5 : prog.cellsOf 5 = 1 := by kernel_rfl
theorem co9 : prog.cellsOf 9 = 1 := by kernel_rfl
theorem co22 : prog.cellsOf 22 = 1 := by kernel_rfl
theorem co23 : prog.cellsOf 23 = 1 := by kernel_rfl
theorem co24 : prog.cellsOf 24 = 1 := by kernel_rfl
theorem co64 : prog.cellsOf 64 = 1 := by kernel_rfl
theorem co65 : prog.cellsOf 65 = 1 := by kernel_rfl
theorem co61 : prog.cellsOf 61 = 2 := by kernel_rfl
theorem co104 : prog.cellsOf 104 = 3 := by kernel_rfl
theorem co26 : prog.cellsOf 26 = 6 := by kernel_rfl
theorem co67 : prog.cellsOf 67 = 11 := by kernel_rfl
theorem path_open (hI : Ice φ w) {fuel : Nat} {cs : List Value} {x : DataW H × List MemPlace} (h : DataW.trod ec prog w 0 (fun _ => true) true fuel 64 cs = some x) : ∃ (p : List Int) (V : Value), cs = [V] ∧ RV φ w (rowI p) V := by
  obtain ⟨l, V, h1, h2⟩ := row_open hI (enc := fun i : Int => [Value.int .i64 i]) Tryz.underlying64 co3 (by decide) h fun n _ cs x hx => by
    obtain ⟨i, rfl⟩ := int_open Tryz.underlying3 hx
    exact ⟨i, bare_one rfl⟩
  refine ⟨l, V, h1, ?_⟩
  have e : ints l = l.flatMap fun i : Int => [Value.int .i64 i] := by unfold ints; rw [List.map_eq_flatMap]
  rw [rowI, e]
  exact h2
theorem piece_open {fuel : Nat} {cs : List Value} {x : DataW H × List MemPlace} (h : DataW.trod ec prog w 0 (fun _ => true) true fuel 104 cs = some x) : ∃ p : GPiece, RVL φ w (pieceC p) cs := by
  obtain ⟨xs, n, _, _, hl, hlen, hf⟩ := DataW.trod_struct Tryz.underlying104 h
  rw [co104] at hl
  match xs, hlen, cs, hl with
  | [y0, y1, y2], _, [v0, v1, v2], _ =>
    have t0 := hf 0 _ rfl
    have t1 := hf 1 _ rfl
    have t2 := hf 2 _ rfl
    simp only [co3, co9, List.drop_zero, List.drop_succ_cons, List.take_succ_cons, List.take_zero, List.getElem?_cons_zero, List.getElem?_cons_succ] at t0 t1 t2
    obtain ⟨i0, e0⟩ := int_open Tryz.underlying3 t0
    obtain ⟨i1, e1⟩ := int_open Tryz.underlying3 t1
    obtain ⟨s2, e2⟩ := str_open Tryz.underlying9 t2
    cases e0; cases e1; cases e2
    exact ⟨⟨i0, i1, s2⟩, (RVL.bare _ _ rfl).2 rfl⟩
theorem attr_open {fuel : Nat} {cs : List Value} {x : DataW H × List MemPlace} (h : DataW.trod ec prog w 0 (fun _ => true) true fuel 61 cs = some x) : ∃ p : Str × Str, RVL φ w (attrC p) cs := by
  obtain ⟨xs, n, _, _, hl, hlen, hf⟩ := DataW.trod_struct Tryz.underlying61 h
  rw [co61] at hl
  match xs, hlen, cs, hl with
  | [y0, y1], _, [v0, v1], _ =>
    have t0 := hf 0 _ rfl
    have t1 := hf 1 _ rfl
    simp only [co9, List.drop_zero, List.drop_succ_cons, List.take_succ_cons, List.take_zero, List.getElem?_cons_zero, List.getElem?_cons_succ] at t0 t1
    obtain ⟨s0, e0⟩ := str_open Tryz.underlying9 t0
    obtain ⟨s1, e1⟩ := str_open Tryz.underlying9 t1
    cases e0; cases e1
    exact ⟨(s0, s1), (RVL.bare _ _ rfl).2 rfl⟩
theorem rvl_cons {v V : Value} {l L : List Value} (h : RV φ w v V) (k : RVL φ w l L) : RVL φ w (v :: l) (V :: L) := ⟨V, L, rfl, h, k⟩
theorem rv_bare {v : Value} (h : bare v = true) : RV φ w v v := (RV.bare _ _ h).2 rfl
theorem op_open (hI : Ice φ w) {fuel : Nat} {cs : List Value} {x : DataW H × List MemPlace} (h : DataW.trod ec prog w 0 (fun _ => true) true fuel 67 cs = some x) : ∃ o : GOp, RVL φ w (opC o) cs := by
  obtain ⟨xs, n, _, _, hl, hlen, hf⟩ := DataW.trod_struct Tryz.underlying67 h
  rw [co67] at hl
  match xs, hlen, cs, hl with
  | [y0, y1, y2, y3, y4, y5, y6, y7, y8, y9, y10], _, [v0, v1, v2, v3, v4, v5, v6, v7, v8, v9, v10], _ =>
    have t0 := hf 0 _ rfl
    have t1 := hf 1 _ rfl
    have t2 := hf 2 _ rfl
    have t3 := hf 3 _ rfl
    have t4 := hf 4 _ rfl
    have t5 := hf 5 _ rfl
    have t6 := hf 6 _ rfl
    have t7 := hf 7 _ rfl
    have t8 := hf 8 _ rfl
    have t9 := hf 9 _ rfl
    have t10 := hf 10 _ rfl
    simp only [co3, co4, co5, co9, co22, co64, co65, List.drop_zero, List.drop_succ_cons, List.take_succ_cons, List.take_zero, List.getElem?_cons_zero, List.getElem?_cons_succ] at t0 t1 t2 t3 t4 t5 t6 t7 t8 t9 t10
    obtain ⟨i0, e0⟩ := int_open Tryz.underlying5 t0
    obtain ⟨p1, V1, e1, r1⟩ := path_open hI t1
    obtain ⟨i2, e2⟩ := int_open Tryz.underlying3 t2
    obtain ⟨p3, V3, e3, r3⟩ := path_open hI t3
    obtain ⟨i4, e4⟩ := int_open Tryz.underlying22 t4
    obtain ⟨b5, e5⟩ := bool_open Tryz.underlying4 t5
    obtain ⟨s6, e6⟩ := str_open Tryz.underlying9 t6
    obtain ⟨s7, e7⟩ := str_open Tryz.underlying9 t7
    obtain ⟨s8, e8⟩ := str_open Tryz.underlying9 t8
    obtain ⟨b9, e9⟩ := bool_open Tryz.underlying4 t9
    obtain ⟨l, V10, e10, r10⟩ := row_open hI (enc := pieceC) Tryz.underlying65 co104 (by decide) t10 fun n _ cs x hx => piece_open hx
    cases e0; cases e1; cases e2; cases e3; cases e4; cases e5; cases e6; cases e7; cases e8; cases e9; cases e10
    exact ⟨⟨i0, p1, i2, p3, i4, b5, s6, s7, s8, b9, l⟩, rvl_cons (rv_bare rfl) (rvl_cons r1 (rvl_cons (rv_bare rfl) (rvl_cons r3 (rvl_cons (rv_bare rfl) (rvl_cons (rv_bare rfl) (rvl_cons (rv_bare rfl) (rvl_cons (rv_bare rfl) (rvl_cons (rv_bare rfl) (rvl_cons (rv_bare rfl) (rvl_cons r10 rfl))))))))))⟩
theorem ops_open (hI : Ice φ w) {fuel : Nat} {cs : List Value} {x : DataW H × List MemPlace} (h : DataW.trod ec prog w 0 (fun _ => true) true fuel 27 cs = some x) : ∃ (l : List GOp) (V : Value), cs = [V] ∧ RV φ w (rowO l) V :=
  row_open hI (enc := opC) Tryz.underlying27 co67 (by decide) h fun n _ cs x hx => op_open hI hx
theorem node_open (hI : Ice φ w) : ∀ (N fuel : Nat), fuel ≤ N → ∀ (cs : List Value) (x : DataW H × List MemPlace), DataW.trod ec prog w 0 (fun _ => true) true fuel 26 cs = some x → ∃ T : Tree Nd, RVL φ w (nodeC T) cs := by
  intro N
  induction N with
  | zero =>
    intro fuel hfu cs x h
    have : fuel = 0 := by omega
    subst this
    simp [DataW.trod] at h
  | succ N ih =>
    intro fuel hfu cs x h
    obtain ⟨xs, n, hn, _, hl, hlen, hf⟩ := DataW.trod_struct Tryz.underlying26 h
    rw [co26] at hl
    match xs, hlen, cs, hl with
    | [y0, y1, y2, y3, y4, y5], _, [v0, v1, v2, v3, v4, v5], _ =>
      have t0 := hf 0 _ rfl
      have t1 := hf 1 _ rfl
      have t2 := hf 2 _ rfl
      have t3 := hf 3 _ rfl
      have t4 := hf 4 _ rfl
      have t5 := hf 5 _ rfl
      simp only [co4, co9, co22, co23, co24, List.drop_zero, List.drop_succ_cons, List.take_succ_cons, List.take_zero, List.getElem?_cons_zero, List.getElem?_cons_succ] at t0 t1 t2 t3 t4 t5
      obtain ⟨i0, e0⟩ := int_open Tryz.underlying22 t0
      obtain ⟨b1, e1⟩ := bool_open Tryz.underlying4 t1
      obtain ⟨s2, e2⟩ := str_open Tryz.underlying9 t2
      obtain ⟨l3, V3, e3, r3⟩ := row_open hI (enc := attrC) Tryz.underlying23 co61 (by decide) t3 fun n _ cs x hx => attr_open hx
      obtain ⟨s4, e4⟩ := str_open Tryz.underlying9 t4
      obtain ⟨l5, V5, e5, r5⟩ := row_open hI (enc := nodeC) Tryz.underlying24 co26 (by decide) t5 fun m hm cs x hx => ih m (by omega) cs x hx
      cases e0; cases e1; cases e2; cases e3; cases e4; cases e5
      refine ⟨.mk ⟨i0, b1, s2, l3, s4⟩ l5, ?_⟩
      rw [nodeC_eq]
      exact rvl_cons (rv_bare rfl) (rvl_cons (rv_bare rfl) (rvl_cons (rv_bare rfl) (rvl_cons r3 (rvl_cons (rv_bare rfl) (rvl_cons r5 rfl)))))
end
end Go.Ev
namespace Go.Ev
open Go Go.Proofs Tryz
open TP (Str Tree Nd)
set_option maxRecDepth 100000
def ice (w : World) : Rn := ⟨fun _ => 0, fun _ => 0, fun b => b < w.heap.size⟩
theorem ice_ice (w : World) : Ice (ice w) w := fun _ h => h
theorem ice_rel (w : World) : Rel (ice w) A0 w where
  obj n ab h := by cases h
  lt n ab h := by cases h
  inj n m a b h := by cases h
  wf n ab h := by cases h
  fro b h := ⟨h, fun n ab h => by cases h⟩
  room := by decide
theorem calls_of {f : FuncId} {args Vs : List Value} {v0 v : Value} {A' : AS} {w : World} (h : CallsW prog f args A0 v0 A') (hz : Frz A' v0 v) (hargs : cleanL args = true) (hV : RVL (ice w) w args Vs) (hb : bare v = true) :
    Calls prog f Vs.toArray w fun e w' => e = .returned v ∧ Go.RowKit.Below w.heap.size w w' := by
  intro cs
  obtain ⟨φ', w', V, fr, s1, s2, s3, s4, s5, ⟨fn, s6, s7⟩, s8, s9, s10, _⟩ := h.2 (ice w) w Vs (ice_rel w) (cleanL_ok hargs) hV false cs (fun e => by cases e)
  have hpd : A'.pend = [] := s10.pend
  have hrv := hz.rv (ψ := ice w) s9 hpd (fun n hn => by
    have := s10.agree n (.inr (frN_big hn))
    exact ⟨this.1.symm, this.2.symm⟩) s8
  have hVe : V = v := (RV.bare _ _ hb).1 hrv
  subst hVe
  refine ⟨.returned V, w', fr, ⟨rfl, s10.os, s10.tape, s10.out, s10.size, fun k hk => s10.keep k hk fun n ab h => by cases h⟩, s1, s5, s2, s3, s4, fn, s6, s7⟩
end Go.Ev
