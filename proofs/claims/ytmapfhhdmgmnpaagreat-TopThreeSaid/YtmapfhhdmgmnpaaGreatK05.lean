import Derived.RangeFuncLeaves
import Derived.Test.YtmapfhhdmgmnpaaGreatK04
namespace Go.Ev
open Go
variable {P : Program} {A A' : AS} {φ φ' : Rn} {w w' : World} {a : Act} {b : Frame} {cs : List Frame}
def RoR (φ : Rn) (A : AS) (round ro : Option Nat) : Prop :=
  match round with
  | none => ro = none
  | some l => ro = some (φ.b l) ∧ A.ok l = true
theorem RoR.run {round ro : Option Nat} (h : RoR φ A round ro) (k : Runs φ A w φ' A' w') : RoR φ' A' round ro := by
  cases round with
  | none => exact h
  | some l =>
    obtain ⟨h1, h2⟩ := h
    refine ⟨?_, k.ok l h2⟩
    rw [AS.ok_iff] at h2
    rw [(k.agree l (h2.imp (·.1) id)).1]; exact h1
theorem RoR.isSome {round ro : Option Nat} (h : RoR φ A round ro) : ro.isSome = round.isSome := by
  cases round with
  | none => rw [show ro = none from h]
  | some l => rw [h.1]; rfl
theorem setLoop_some {l : Nat} {f : LoopState → Option Code → LoopState × Option Code} {st : LoopState} {p : Option Code} (h : setLoop A l f = some (st, p, A')) :
    ∃ fn ns tm ps as bd df, A.h.get l = some (.loop st p fn ns tm ps as bd df) ∧ A' = A.set l (.loop (f st p).1 (f st p).2 fn ns tm ps as bd df) := by
  unfold setLoop at h
  split at h
  · rename_i st' p' fn ns tm ps as bd df hg
    simp only [Option.some.injEq, Prod.mk.injEq] at h
    obtain ⟨rfl, rfl, rfl⟩ := h
    exact ⟨fn, ns, tm, ps, as, bd, df, hg, rfl⟩
  · cases h
theorem Rel.loop (hR : Rel φ A w) {l : Nat} (hl : A.ok l = true) {f : LoopState → Option Code → LoopState × Option Code} {st : LoopState} {p : Option Code} (h : setLoop A l f = some (st, p, A')) :
    ∃ r : Loop, w.heap[φ.b l]? = some (.loop r) ∧ r.state = st ∧ r.pending = p ∧ Rel φ A' (w.putObj (φ.b l) (.loop { r with state := (f st p).1, pending := (f st p).2 })) ∧
      Runs φ A w φ A' (w.putObj (φ.b l) (.loop { r with state := (f st p).1, pending := (f st p).2 })) := by
  obtain ⟨fn, ns, tm, ps, as, bd, df, hg, rfl⟩ := setLoop_some h
  obtain ⟨hob, hp⟩ := hR.toObj.of_ok hg hl
  have hwf := hR.wf _ _ hg hp
  obtain ⟨aa, h2, h3⟩ := hob
  refine ⟨_, h2, rfl, rfl, ?_⟩
  have hlt : φ.b l < w.heap.size := (Array.getElem?_eq_some_iff.1 h2).1
  refine hR.write hg rfl hp (by simpa [abok] using hwf) (by simp) ⟨aa, ?_, h3⟩ (fun b' hb' => World.putObj_heap_other hb') rfl rfl rfl
  rw [World.putObj_heap_same hlt]
def Goes (P : Program) (φ : Rn) (A : AS) (w : World) (b : Frame) (cs : List Frame) (a : Act) (todo todo' : List Item) (ns : Nat) (tm' : Trie Value) (ds' : List Deferred) (A' : AS) : Prop :=
  ∃ φ' w' a', Steps P (lone (b.atR a todo) cs w) (lone (b.atR a' todo') cs w') ∧ Rel φ' A' w' ∧ Runs φ A w φ' A' w' ∧ FR φ' A' w' ns tm' ds' a'
theorem Goes.still {ns : Nat} {tm : Trie Value} {ds : List Deferred} {todo todo' : List Item} (hR : Rel φ A w) (hF : FR φ A w ns tm ds a) (hs : step P (lone (b.atR a todo) cs w) = .next (lone (b.atR a todo') cs w)) : Goes P φ A w b cs a todo todo' ns tm ds A :=
  ⟨φ, w, a, .one hs, hR, Runs.refl _ _ _, hF⟩
theorem stepR_scope {c : Code} {k : List Item} : step P (lone (b.atR a (.code (.scope c) :: k)) cs w) = .next (lone (b.atR a (.code c :: .inScope c :: k)) cs w) :=
  step_lone_go (by simp [stepG, stepG.exec, Frame.atR])
theorem stepR_inScope {c : Code} {k : List Item} : step P (lone (b.atR a (.inScope c :: k)) cs w) = .next (lone (b.atR a k) cs w) :=
  step_lone_go (by simp [stepG, stepG.exec, Frame.atR])
theorem enterLoop_ok {round : Option Nat} {ns : Nat} {tm : Trie Value} {ds : List Deferred} {ps : Array Tmp} {assign body : Code} {l : Nat} {mark : List Deferred} {A1 : AS} (hR : Rel φ A w) (hro : RoR φ A round b.roundOf) (hF : FR φ A w ns tm ds a)
    (h : enterLoop round b.fn ns tm ps assign body A = some (l, mark, A1)) :
    ∃ φ1 w1 D, (Instr.enterLoop b.fn a.tmps ps assign body b.roundOf).run P w = .ok (φ1.b l, D) w1 ∧ Rel φ1 A1 w1 ∧ Runs φ A w φ1 A1 w1 ∧ RDL φ1 w1 mark D ∧ mark.all (dok A1.ok) = true ∧ A1.ok l = true := by
  cases round with
  | some l0 =>
    unfold enterLoop at h
    simp only at h
    split at h
    · rename_i st p fn' ns' tm' ps' as' bd' df hg
      simp only [Option.bind_eq_bind, Option.bind_eq_some_iff] at h
      obtain ⟨⟨n, A2⟩, hn, h⟩ := h
      simp only [Option.some.injEq, Prod.mk.injEq] at h
      obtain ⟨rfl, rfl, rfl⟩ := h
      obtain ⟨hro1, hl0⟩ := hro
      obtain ⟨hob, hp⟩ := hR.toObj.of_ok hg hl0
      have hwf := hR.wf _ _ hg hp
      obtain ⟨aa, h2, h3⟩ := hob
      obtain ⟨rfl, rfl, h4, h5⟩ := anew_some hn
      have hdf : A.ok df = true := by simp only [abok, Bool.and_eq_true] at hwf; exact hwf.2
      have he := hR.fresh (.loop { state := .ready, pending := none, fn := b.fn, tmps := a.tmps, params := ps, assign, body, defers := φ.b df }) 0
      obtain ⟨h6, h7⟩ := hR.alloc (ab := .loop .ready none b.fn ns tm ps assign body df) (o := .loop { state := .ready, pending := none, fn := b.fn, tmps := a.tmps, params := ps, assign, body, defers := φ.b df }) 0 h4 h5
        (by simp only [abok, Bool.and_eq_true]; exact ⟨Trie.all_of fun n x hx => vok_mono (fun m hm => put_ok A _ m hm) x (Trie.all_get hF.tok hx), put_ok A _ df hdf⟩)
        ⟨a.tmps, by rw [(he.b df hdf).1], hF.tmr.ext he hF.tok⟩
      refine ⟨_, _, [], ?_, h6, h7, rfl, rfl, ?_⟩
      · rw [hro1]
        unfold Instr.enterLoop
        simp only [Sem.run_bind, run_getLoop h2, run_newObj_alloc, Result.andThen, Sem.run_pure, upd_same]
      · rw [AS.ok_iff]; exact .inl ⟨by show A.next < A.next + 1; omega, h5⟩
    · cases h
  | none =>
    unfold enterLoop at h
    simp only [Option.bind_eq_bind, Option.bind_eq_some_iff] at h
    obtain ⟨⟨r, A2⟩, hn, ⟨n, A3⟩, hn2, h⟩ := h
    simp only [Option.some.injEq, Prod.mk.injEq] at h
    obtain ⟨rfl, rfl, rfl⟩ := h
    obtain ⟨rfl, rfl, h4, h5⟩ := anew_some hn
    obtain ⟨rfl, rfl, h8, h9⟩ := anew_some hn2
    obtain ⟨h6, h7⟩ := hR.alloc (ab := .deferred (some [])) (o := .deferred (some [])) 0 h4 h5 rfl ⟨[], rfl, rfl⟩
    have hF2 := hF.run hR h7
    have he := h6.fresh (.loop { state := .ready, pending := none, fn := b.fn, tmps := a.tmps, params := ps, assign, body, defers := w.heap.size }) 0
    have hdf : (A.put (.deferred (some []))).ok A.next = true := by rw [AS.ok_iff]; exact .inl ⟨by show A.next < A.next + 1; omega, h5⟩
    obtain ⟨h10, h11⟩ := h6.alloc (ab := .loop .ready none b.fn ns tm ps assign body A.next) (o := .loop { state := .ready, pending := none, fn := b.fn, tmps := a.tmps, params := ps, assign, body, defers := w.heap.size }) 0 h8 h9
      (by simp only [abok, Bool.and_eq_true]; exact ⟨Trie.all_of fun n x hx => vok_mono (fun m hm => put_ok _ _ m hm) x (Trie.all_get hF2.tok hx), put_ok _ _ _ hdf⟩)
      ⟨a.tmps, by rw [(he.b A.next hdf).1, upd_same], hF2.tmr.ext he hF2.tok⟩
    refine ⟨_, _, [{ target := .collected w.heap.size, args := #[] }], ?_, h10, h7.trans h11, ⟨_, [], rfl, ⟨?_, rfl⟩, rfl⟩, ?_, ?_⟩
    · rw [show b.roundOf = none from hro, run_enterLoop_outer]
      simp only [upd_same, World.size_alloc]
    · show Target.collected w.heap.size = Target.collected _
      rw [(he.b A.next hdf).1, upd_same]
    · simp only [List.all_cons, List.all_nil, Bool.and_true, dok, vokL]; exact put_ok _ _ _ hdf
    · rw [AS.ok_iff]; exact .inl ⟨by show A.next + 1 < A.next + 1 + 1; omega, h9⟩
theorem callFunc_run {g : FuncId} {args : Array Value} {c : Cfg} (hc : CfgOK P c) {fn : Func} (hfn : P.funcs[g]? = some fn) (hbody : fn.body.isSome = true) : (callFunc g args).run P w = .ok (.enter g args) w := by
  have hn := hc.nocount g fn hfn hbody
  have hn' : (fn.name == "runtime.NumGoroutine") = false := by simpa using hn
  have hbn : fn.body.isNone = false := by cases hb2 : fn.body with
    | none => rw [hb2] at hbody; cases hbody
    | some _ => rfl
  simp only [callFunc, Sem.run_bind, run_program, Result.andThen_ok, hfn, hn', Bool.false_eq_true, if_false, hbn, Sem.run_pure]
theorem range_go {c : Cfg} {rc : Rec} (hc : CfgOK P c) (hrc : RecOK P rc) {round : Option Nat} {ns : Nat} {g : Operand} {ps : Array Tmp} {assign body : Code} {k todo' : List Item} {tm tm' : Trie Value} {ds ds' : List Deferred}
    (hro : RoR φ A round b.roundOf) (hR : Rel φ A w) (hF : FR φ A w ns tm ds a) (h : sRange rc b.fn round ns g ps assign body k tm ds A = .go todo' tm' ds' A') : Goes P φ A w b cs a (.code (.rangeFunc g ps assign body) :: k) todo' ns tm' ds' A' := by
  unfold sRange at h
  split at h
  · rename_i hg
    split at h
    · rename_i l mark A1 hen
      split at h
      · rename_i f first cap hval
        split at h
        · rename_i u A2 hcall
          split at h
          · rename_i st p A3 hset
            split at h
            · cases h
            · rename_i hst
              simp only [St.go.injEq] at h
              obtain ⟨rfl, rfl, rfl, rfl⟩ := h
              obtain ⟨φ1, w1, D, h1, h2, h3, h4, h5, h6⟩ := enterLoop_ok (P := P) hR hro hF hen
              have hF1 := (hF.run hR h3).defer h4 h5
              have hgV := ev_RV hF1.tmr hg
              have hgk := ev_ok hF1.tok hg
              rw [hval] at hgV hgk
              obtain ⟨F, C, hFC, hF2, hC2⟩ := RV_fn hgV
              have hDoes : DoesCall P f (first.toList ++ [Value.func (Fn.yield l) #[] #[]] ++ cap.toList) false A1 u A2 := hrc _ _ _ _ hcall
              obtain ⟨hvk, ⟨fnc, hfn, hbody⟩, hdo⟩ := hDoes
              have hlbig : l ≠ rowN ∧ l ≠ ptrN := by
                have h7 := h2.room
                have h8 : A1.ok l = true := h6
                rw [AS.ok_iff] at h8
                have h9 : l < A1.next := by
                  cases round with
                  | none =>
                    unfold enterLoop at hen
                    simp only [Option.bind_eq_bind, Option.bind_eq_some_iff] at hen
                    obtain ⟨⟨r, A4⟩, hn, ⟨n, A5⟩, hn2, hen⟩ := hen
                    simp only [Option.some.injEq, Prod.mk.injEq] at hen
                    obtain ⟨rfl, rfl, rfl⟩ := hen
                    obtain ⟨q1, q2, q3, q4⟩ := anew_some hn2
                    rw [q1, q2]; show A4.next < A4.next + 1; omega
                  | some l0 =>
                    unfold enterLoop at hen
                    simp only at hen
                    split at hen
                    · simp only [Option.bind_eq_bind, Option.bind_eq_some_iff] at hen
                      obtain ⟨⟨r, A4⟩, hn, hen⟩ := hen
                      simp only [Option.some.injEq, Prod.mk.injEq] at hen
                      obtain ⟨rfl, rfl, rfl⟩ := hen
                      obtain ⟨q1, q2, q3, q4⟩ := anew_some hn
                      rw [q1, q2]; show A.next < A.next + 1; omega
                    · cases hen
                constructor <;> (rintro rfl; revert h7 h9; first | (unfold rowN; omega) | (unfold ptrN; omega))
              have hyV : RV φ1 w1 (.func (.yield l) #[] #[]) (.func (.yield (φ1.b l)) #[] #[]) := by
                simp only [RV, funRel, if_neg hlbig.1, if_neg hlbig.2]
                exact ⟨#[], #[], rfl, rfl, rfl⟩
              have hargs : RVL φ1 w1 (first.toList ++ [Value.func (Fn.yield l) #[] #[]] ++ cap.toList) ((F ++ #[Value.func (Fn.yield (φ1.b l)) #[] #[]]) ++ C).toList := by
                rw [Array.toList_append, Array.toList_append]
                exact (hF2.append (RVL.one hyV)).append hC2
              have hkargs : vokL A1.ok (first.toList ++ [Value.func (Fn.yield l) #[] #[]] ++ cap.toList) = true := by
                simp only [vok, Bool.and_eq_true] at hgk
                have e1 : vokL A1.ok first.toList = true := by have := hgk.2.1; cases first; exact this
                have e2 : vokL A1.ok cap.toList = true := by have := hgk.2.2; cases cap; exact this
                rw [vokL_append, vokL_append, e1, e2]
                simp [vokL, vok, vokA, h6]
              obtain ⟨φ2, w2, V, q1, q2, q3, q4⟩ := hdo φ1 w1 _ h2 hkargs hargs (b.atR { a with defers := D ++ a.defers } (.inRangeFunc (φ1.b l) :: k)) cs (fun h => by cases h)
              have hA2l : A2.ok l = true := q4.ok l h6
              obtain ⟨r, q5, q6, q7, q8, q9⟩ := q3.loop hA2l hset
              have hbl : φ2.b l = φ1.b l := by rw [AS.ok_iff] at h6; exact (q4.agree l (h6.imp (·.1) id)).1
              have hF3 := ((hF1.run h2 q4).run q3 q9)
              refine ⟨φ2, _, { a with defers := D ++ a.defers }, ?_, q8, (h3.trans q4).trans q9, hF3⟩
              have hres : (resolve a.eval (rangeCall g (φ1.b l)) 0).run P w1 = .ok ⟨.fn (.func f) C, F ++ #[Value.func (Fn.yield (φ1.b l)) #[] #[]]⟩ w1 := by
                have hga : a.eval g = .func (.func f) F C := hFC
                simp only [resolve, hga, Deferred.ofValue, Sem.run_pure]
                simp [Act.eval]
              have hinv : (invoke (.fn (.func f) C) (F ++ #[Value.func (Fn.yield (φ1.b l)) #[] #[]])).run P w1 = .ok (.enter f ((F ++ #[Value.func (Fn.yield (φ1.b l)) #[] #[]]) ++ C)) w1 := callFunc_run hc hfn hbody
              refine .head (stepR_rangeFunc h1 hres hinv) ?_
              simp only [Bool.false_eq_true, if_false] at q1
              rw [finish_atR_inRangeFunc] at q1
              refine Steps.trans q1 (.one ?_)
              rw [← hbl]
              refine (stepR_endRangeFunc (run_endLoop q5 (by rw [q6]; exact hst))).trans ?_
              rw [q7]
          · cases h
        · cases h
      · cases h
    · cases h
  · cases h
theorem todo_go {c : Cfg} {rc : Rec} (hc : CfgOK P c) (hrc : RecOK P rc) (hm : P.follows .mixedOrders = true) (hb : CtxOK b cs) {round : Option Nat} {ns : Nat} {todo todo' : List Item} {tm tm' : Trie Value} {ds ds' : List Deferred}
    (hro : RoR φ A round b.roundOf) (hR : Rel φ A w) (hF : FR φ A w ns tm ds a) (h : sTodo P c rc b.fn round ns todo tm ds A = .go todo' tm' ds' A') : Goes P φ A w b cs a todo todo' ns tm' ds' A' := by
  unfold sTodo at h
  split at h
  · cases h
  · rename_i it k
    unfold sItem at h
    split at h
    · rename_i cd
      unfold sCode at h
      split at h
      · cases h
      · simp only [St.go.injEq] at h; obtain ⟨rfl, rfl, rfl, rfl⟩ := h; exact .still hR hF stepR_skip
      · simp only [St.go.injEq] at h; obtain ⟨rfl, rfl, rfl, rfl⟩ := h; exact .still hR hF stepR_label
      · simp only [St.go.injEq] at h; obtain ⟨rfl, rfl, rfl, rfl⟩ := h; exact .still hR hF stepR_seq
      · unfold sCond at h
        split at h
        · rename_i hq
          split at h
          · rename_i t ht
            simp only [St.go.injEq] at h; obtain ⟨rfl, rfl, rfl, rfl⟩ := h
            have := ev_RV hF.tmr hq
            rw [ht] at this
            exact .still hR hF (stepR_cond (RV_bool.1 this))
          · cases h
        · cases h
      · simp only [St.go.injEq] at h; obtain ⟨rfl, rfl, rfl, rfl⟩ := h; exact .still hR hF stepR_block
      · simp only [St.go.injEq] at h; obtain ⟨rfl, rfl, rfl, rfl⟩ := h; exact .still hR hF stepR_loop
      · simp only [St.go.injEq] at h; obtain ⟨rfl, rfl, rfl, rfl⟩ := h; exact .still hR hF stepR_scope
      · unfold sJump at h
        split at h
        · rename_i hk
          simp only [St.go.injEq] at h; obtain ⟨rfl, rfl, rfl, rfl⟩ := h; exact .still hR hF (stepR_exit hk)
        · cases h
      · unfold sJump at h
        split at h
        · rename_i hk
          simp only [St.go.injEq] at h; obtain ⟨rfl, rfl, rfl, rfl⟩ := h; exact .still hR hF (stepR_goto hk)
        · cases h
      · rename_i idr ops draw
        unfold sRegion at h
        split at h
        · rename_i hd
          split at h
          · rename_i tm1 A1 he
            simp only [St.go.injEq] at h; obtain ⟨rfl, rfl, rfl, rfl⟩ := h
            rw [← hro.isSome] at he
            subst hd
            exact draw_run hc (fun _ => hrc) hm hb hR hF he
          · cases h
        · rename_i hd
          have hd : draw = false := by simpa using hd
          subst hd
          split at h
          · rename_i tm1 ds1 A1 he
            simp only [St.go.injEq] at h; obtain ⟨rfl, rfl, rfl, rfl⟩ := h
            rw [← hro.isSome] at he
            obtain ⟨φ', w', a', h1, h2⟩ := ops_run hc hrc (k := k) (cs := cs) hb ops.toList 0 φ A w tm ds a tm1 ds1 A1 rfl hR hF he
            refine ⟨φ', w', a', .head stepR_region ?_, h2⟩
            rw [List.range_eq_range']
            simpa using h1
          · cases h
      · exact range_go hc hrc hro hR hF h
      · cases h
    · simp only [St.go.injEq] at h; obtain ⟨rfl, rfl, rfl, rfl⟩ := h; exact .still hR hF stepR_inBlock
    · simp only [St.go.injEq] at h; obtain ⟨rfl, rfl, rfl, rfl⟩ := h; exact .still hR hF stepR_inScope
    · simp only [St.go.injEq] at h; obtain ⟨rfl, rfl, rfl, rfl⟩ := h; exact .still hR hF stepR_inLoop
    · unfold sBegin at h
      split at h
      · rename_i l
        split at h
        · rename_i st p A1 hset
          split at h
          · rename_i hst
            simp only [St.go.injEq] at h; obtain ⟨rfl, rfl, rfl, rfl⟩ := h
            obtain ⟨hro1, hl⟩ := hro
            obtain ⟨r, h1, h2, h3, h4, h5⟩ := hR.loop hl hset
            refine ⟨φ, _, a, .one (stepR_beginRound hro1 (run_beginRound h1 (by rw [h2]; exact hst))), ?_, ?_, ?_⟩
            · rw [← h3] at h4; exact h4
            · rw [← h3] at h5; exact h5
            · have := hF.run hR h5; rw [← h3] at this; exact this
          · cases h
        · cases h
      · cases h
    · cases h
def Ends (todo : List Item) (j : Option Code) : Prop :=
  (todo = [] ∧ j = none) ∨ (∃ k, todo = .code .ret :: k ∧ j = some .ret) ∨ (∃ e k, todo = .code (.exit e) :: k ∧ j = some (.exit e) ∧ exitTo e k = none) ∨ (∃ l k, todo = .code (.goto l) :: k ∧ j = some (.goto l) ∧ gotoIn l k = none)
theorem todo_stop {c : Cfg} {rc : Rec} {fn : FuncId} {round : Option Nat} {ns : Nat} {todo : List Item} {tm tm' : Trie Value} {ds ds' : List Deferred} {j : Option Code} (h : sTodo P c rc fn round ns todo tm ds A = .stop tm' ds' A' j) : tm' = tm ∧ ds' = ds ∧ A' = A ∧ Ends todo j := by
  unfold sTodo at h
  split at h
  · simp only [St.stop.injEq] at h; obtain ⟨rfl, rfl, rfl, rfl⟩ := h; exact ⟨rfl, rfl, rfl, .inl ⟨rfl, rfl⟩⟩
  · rename_i it k
    unfold sItem at h
    split at h
    · rename_i cd
      unfold sCode at h
      split at h
      · simp only [St.stop.injEq] at h; obtain ⟨rfl, rfl, rfl, rfl⟩ := h; exact ⟨rfl, rfl, rfl, .inr (.inl ⟨k, rfl, rfl⟩)⟩
      · cases h
      · cases h
      · cases h
      · unfold sCond at h; split at h <;> (try split at h) <;> cases h
      · cases h
      · cases h
      · cases h
      · unfold sJump at h
        split at h
        · cases h
        · rename_i hk
          simp only [St.stop.injEq] at h; obtain ⟨rfl, rfl, rfl, rfl⟩ := h
          exact ⟨rfl, rfl, rfl, .inr (.inr (.inl ⟨_, k, rfl, rfl, hk⟩))⟩
      · unfold sJump at h
        split at h
        · cases h
        · rename_i hk
          simp only [St.stop.injEq] at h; obtain ⟨rfl, rfl, rfl, rfl⟩ := h
          exact ⟨rfl, rfl, rfl, .inr (.inr (.inr ⟨_, k, rfl, rfl, hk⟩))⟩
      · unfold sRegion at h; split at h <;> (try split at h) <;> cases h
      · unfold sRange at h
        split at h
        · split at h
          · split at h
            · split at h
              · split at h
                · split at h <;> cases h
                · cases h
              · cases h
            · cases h
          · cases h
        · cases h
      · cases h
    · cases h
    · cases h
    · cases h
    · unfold sBegin at h
      split at h
      · split at h
        · split at h <;> cases h
        · cases h
      · cases h
    · cases h
theorem runF_run {c : Cfg} {rc : Rec} (hc : CfgOK P c) (hrc : RecOK P rc) (hm : P.follows .mixedOrders = true) (hb : CtxOK b cs) {round : Option Nat} {ns : Nat} : ∀ (fuel : Nat) (φ : Rn) (A : AS) (w : World) (a : Act) (todo : List Item) (tm tm' : Trie Value) (ds ds' : List Deferred) (A' : AS) (j : Option Code),
    RoR φ A round b.roundOf → Rel φ A w → FR φ A w ns tm ds a → runF P c rc b.fn round ns fuel (.go todo tm ds A) = some (tm', ds', A', j) → ∃ todo', Goes P φ A w b cs a todo todo' ns tm' ds' A' ∧ Ends todo' j
  | 0, φ, A, w, a, todo, tm, tm', ds, ds', A', j, _, _, _, h => by simp [runF] at h
  | fuel + 1, φ, A, w, a, todo, tm, tm', ds, ds', A', j, hro, hR, hF, h => by
    simp only [runF] at h
    cases hs : sTodo P c rc b.fn round ns todo tm ds A with
    | go todo1 tm1 ds1 A1 =>
      rw [hs] at h
      obtain ⟨φ1, w1, a1, h1, h2, h3, h4⟩ := todo_go (cs := cs) hc hrc hm hb hro hR hF hs
      obtain ⟨todo', ⟨φ2, w2, a2, h5, h6, h7, h8⟩, h9⟩ := runF_run hc hrc hm hb fuel φ1 A1 w1 a1 todo1 tm1 tm' ds1 ds' A' j (hro.run h3) h2 h4 h
      exact ⟨todo', ⟨φ2, w2, a2, h1.trans h5, h6, h3.trans h7, h8⟩, h9⟩
    | stop tm1 ds1 A1 j1 =>
      rw [hs] at h
      cases fuel with
      | zero => simp [runF] at h
      | succ fuel =>
        simp only [runF, Option.some.injEq, Prod.mk.injEq] at h
        obtain ⟨rfl, rfl, rfl, rfl⟩ := h
        obtain ⟨rfl, rfl, rfl, h1⟩ := todo_stop hs
        exact ⟨todo, ⟨φ, w, a, .refl _ _, hR, Runs.refl _ _ _, hF⟩, h1⟩
    | fail =>
      rw [hs] at h
      cases fuel with
      | zero => simp [runF] at h
      | succ fuel => simp [runF] at h
end Go.Ev
namespace Go.Ev
open Go
variable {P : Program} {A A' : AS} {φ φ' : Rn} {w w' : World} {a : Act} {b : Frame} {cs : List Frame}
theorem unwind_run {c : Cfg} {rc : Rec} (hc : CfgOK P c) (hrc : RecOK P rc) : ∀ (ds : List Deferred) (φ : Rn) (A : AS) (w : World) (fr : Frame) (A' : AS), Rel φ A w → fr.mode = .returning → RDL φ w ds fr.defers → ds.all (dok A.ok) = true → unwind rc ds A = some A' →
    ∃ φ' w', Steps P (lone fr cs w) (lone { fr with defers := [] } cs w') ∧ Rel φ' A' w' ∧ Runs φ A w φ' A' w'
  | [], φ, A, w, fr, A', hR, hm, hD, hk, h => by
    simp only [unwind, Option.some.injEq] at h
    subst h
    have : fr.defers = [] := hD
    exact ⟨φ, w, by rw [← this]; exact .refl _ _, hR, Runs.refl _ _ _⟩
  | d :: ds, φ, A, w, fr, A', hR, hm, hD, hk, h => by
    obtain ⟨D, M, hfr, ⟨hT, hA⟩, hM⟩ := hD
    simp only [List.all_cons, Bool.and_eq_true] at hk
    obtain ⟨tg, args⟩ := d
    have hrun : fr.mode ≠ .run := by rw [hm]; simp
    cases tg with
    | collected r =>
      simp only [unwind] at h
      split at h
      · rename_i hg
        have hrk : A.ok r = true := by have := hk.1; simp only [dok, Bool.and_eq_true] at this; exact this.1
        obtain ⟨hob, hp⟩ := hR.toObj.of_ok hg hrk
        obtain ⟨L, h1, h2⟩ := hob
        have h2 : L = [] := h2
        subst h2
        have hlt : φ.b r < w.heap.size := (Array.getElem?_eq_some_iff.1 h1).1
        obtain ⟨h3, h4⟩ := hR.write (w' := w.putObj (φ.b r) (.deferred none)) (ab' := .deferred none) hg rfl hp rfl (by simp) (World.putObj_heap_same hlt) (fun b' hb' => World.putObj_heap_other hb') rfl rfl rfl
        obtain ⟨φ2, w2, h5, h6, h7⟩ := unwind_run hc hrc ds φ (A.set r (.deferred none)) _ { fr with defers := [] ++ M } A' h3 hm (RDL.ext (hR.ext h4) _ _ hk.2 hM) (List.all_eq_true.2 fun d hd => dok_mono h4.ok d (List.all_eq_true.1 hk.2 d hd)) h
        exact ⟨φ2, w2, .head (step_collected hrun hfr hT (run_takeDeferred h1)) h5, h6, h4.trans h7⟩
      · cases h
    | fn f cap =>
      cases f with
      | func g =>
        simp only [unwind] at h
        split at h
        · rename_i u A1 hcall
          obtain ⟨C, hT1, hT2⟩ := hT
          obtain ⟨hvk, ⟨fnc, hfn, hbody⟩, hdo⟩ : DoesCall P g (args.toList ++ cap.toList) true A u A1 := hrc _ _ _ _ hcall
          have hk1 := hk.1
          simp only [dok, Bool.and_eq_true, Bool.true_and] at hk1
          obtain ⟨φ1, w1, V, q1, q2, q3, q4⟩ := hdo φ w (D.args.toList ++ C.toList) hR (by rw [vokL_append, hk1.1, hk1.2]; rfl) (hA.append hT2) { fr with defers := M } cs (fun _ => hm)
          obtain ⟨φ2, w2, h5, h6, h7⟩ := unwind_run hc hrc ds φ1 A1 w1 { fr with defers := M } A' q3 hm (RDL.ext (hR.ext q4) _ _ hk.2 hM) (List.all_eq_true.2 fun d hd => dok_mono q4.ok d (List.all_eq_true.1 hk.2 d hd)) h
          refine ⟨φ2, w2, .head (Go.step_defer (fv := .func g) (cap := C) (f := g) (args := D.args ++ C) hrun hfr hT1 ?_) ?_, h6, q4.trans h7⟩
          · rw [hT1]; exact callFunc_run hc hfn hbody
          · have e : (D.args.toList ++ C.toList).toArray = D.args ++ C := by apply Array.ext'; simp
            rw [e] at q1
            exact Steps.trans q1 h5
        · cases h
      | _ => simp [unwind] at h
    | _ => simp [unwind] at h
def rdR (tmps : Array Value) : ResultVar → Sem Value
  | .tmp t => pure (tmps.getD t undef)
  | .cell a t => do loadVar t (← asAddr (tmps.getD a undef))
theorem aresult_run {r : ResultVar} {tm : Trie Value} {tmps : Array Value} {v : Value} (hR : Rel φ A w) (ht : ∀ t, RV φ w (tget tm t) (tmps.getD t undef)) (hk : ∀ t, vok A.ok (tget tm t) = true) (hv : aresult P tm A r = some v) :
    ∃ V, (rdR tmps r).run P w = .ok V w ∧ RV φ w v V := by
  cases r with
  | tmp t =>
    simp only [aresult, Option.some.injEq] at hv
    subst hv
    exact ⟨_, by simp [rdR], ht t⟩
  | cell a t =>
    simp only [aresult] at hv
    obtain ⟨ad, U, h4, h5, h6⟩ := aload_ok (P := P) hR.toObj (hk a) hv (ht a)
    refine ⟨U, ?_, h6⟩
    simp only [rdR]
    rw [h4]
    simp [asAddr, h5]
theorem aresults_run : ∀ (rs : List ResultVar) (φ : Rn) (tm : Trie Value) (tmps : Array Value) (vs : List Value), Rel φ A w → (∀ t, RV φ w (tget tm t) (tmps.getD t undef)) → (∀ t, vok A.ok (tget tm t) = true) → aresults P tm A rs = some vs →
    ∃ Vs, (rs.mapM (rdR tmps)).run P w = .ok Vs w ∧ RVL φ w vs Vs
  | [], φ, tm, tmps, vs, hR, ht, hk, h => by
    simp only [aresults, Option.some.injEq] at h
    subst h
    exact ⟨[], by simp, rfl⟩
  | r :: rs, φ, tm, tmps, vs, hR, ht, hk, h => by
    unfold aresults at h
    split at h
    · rename_i v hv
      obtain ⟨vs', h1, rfl⟩ := Option.map_eq_some_iff.1 h
      obtain ⟨Vs, h2, h3⟩ := aresults_run rs φ tm tmps vs' hR ht hk h1
      obtain ⟨V, h4, h5⟩ := aresult_run (P := P) hR ht hk hv
      refine ⟨V :: Vs, ?_, ⟨V, Vs, rfl, h5, h3⟩⟩
      rw [List.mapM_cons]
      simp [Sem.run_bind, h4, h2]
    · cases h
theorem results_eq (fn : Func) (tmps : Array Value) : results fn tmps = (do let vs ← fn.results.mapM (rdR tmps); pure (if h : vs.size = 1 then vs[0] else .tuple vs)) := by
  unfold results
  congr 1
theorem results_run {fn : Func} {tm : Trie Value} {tmps : Array Value} {vs : List Value} (hR : Rel φ A w) (ht : ∀ t, RV φ w (tget tm t) (tmps.getD t undef)) (hk : ∀ t, vok A.ok (tget tm t) = true) (h : aresults P tm A fn.results.toList = some vs) :
    ∃ V, (results fn tmps).run P w = .ok V w ∧ RV φ w (tupleOf vs) V := by
  obtain ⟨Vs, h1, h2⟩ := aresults_run fn.results.toList φ tm tmps vs hR ht hk h
  have hm : (results fn tmps).run P w = .ok (if h : Vs.toArray.size = 1 then Vs.toArray[0] else .tuple Vs.toArray) w := by
    rw [results_eq, Array.mapM_eq_mapM_toList]
    simp only [map_eq_pure_bind, Sem.run_bind, h1, Result.andThen_ok, Sem.run_pure]
  refine ⟨_, hm, ?_⟩
  unfold tupleOf
  split
  · rename_i v
    obtain ⟨V, M, rfl, h3, h4⟩ := h2
    have h4 : M = [] := h4
    subst h4
    simpa using h3
  · rename_i hne
    have hl := h2.length
    have : ¬ Vs.toArray.size = 1 := fun e => by
      simp only [List.size_toArray] at e
      match vs, hne, hl with
      | [], _, hl => simp at hl; omega
      | [v], hne, _ => exact hne v rfl
      | _ :: _ :: _, _, hl => simp at hl; omega
    rw [dif_neg this]
    exact ⟨_, rfl, by cases vs <;> exact h2⟩
theorem setArgs_get : ∀ (vs : List Value) (i : Nat) (tm : Trie Value) (t : Nat), i + vs.length < 65536 → (setArgs vs i tm).get t = if t < i then tm.get t else if h : t - i < vs.length then some (vs[t - i]) else tm.get t
  | [], i, tm, t, h => by simp [setArgs]
  | v :: vs, i, tm, t, h => by
    simp only [List.length_cons] at h
    rw [setArgs, setArgs_get vs (i + 1) _ t (by omega)]
    by_cases h1 : t < i
    · rw [if_pos (by omega), if_pos h1, Trie.get_set_other _ _ _ _ _ (by omega)]
    · rw [if_neg h1]
      by_cases h2 : t = i
      · subst h2
        rw [if_pos (by omega), Trie.get_set_same _ _ _ _ (by omega), dif_pos (by simp)]
        simp
      · rw [if_neg (by omega)]
        by_cases h3 : t - (i + 1) < vs.length
        · rw [dif_pos h3, dif_pos (by simp; omega)]
          congr 1
          rw [List.getElem_cons]
          rw [dif_neg (by omega)]
          congr 1
        · rw [dif_neg h3, dif_neg (by simp; omega), Trie.get_set_other _ _ _ _ _ (by omega)]
theorem enter_FR {f : FuncId} {fn : Func} {args Vs : List Value} {k : CallKind} (hfn : P.funcs[f]? = some fn) (hargs : vokL A.ok args = true) (hV : RVL φ w args Vs) (h1 : args.length ≤ fn.ntmps) (h2 : fn.ntmps < 65535) :
    FR φ A w fn.ntmps (setArgs args 0 .nil) [] ⟨(Frame.enter P f Vs.toArray k).tmps, []⟩ := by
  have hlen := hV.length
  have htm : (Frame.enter P f Vs.toArray k).tmps = Vs.toArray ++ Array.replicate (fn.ntmps - Vs.length) undef := by simp [Frame.enter, hfn]
  have hget : ∀ t, (setArgs args 0 .nil).get t = args[t]? := fun t => by
    rw [setArgs_get args 0 .nil t (by omega), if_neg (by omega)]
    by_cases h : t < args.length
    · rw [dif_pos (by simpa using h)]; simp [h]
    · rw [dif_neg (by simpa using h)]; simp [Trie.get, h]
  refine ⟨⟨by simp only; rw [htm]; simp; omega, fun t => ?_, h2, fun t ht => by rw [hget]; simp; omega⟩, ?_, rfl, rfl⟩
  · simp only
    rw [htm]
    unfold tget
    rw [hget, Array.getD_eq_getD_getElem?]
    by_cases h : t < args.length
    · obtain ⟨V, h3, h4⟩ := hV.get (List.getElem?_eq_getElem h)
      rw [List.getElem?_eq_getElem h, Array.getElem?_append, if_pos (by simp; omega)]
      simp only [List.getElem?_toArray, h3, Option.getD_some]; exact h4
    · rw [List.getElem?_eq_none (by omega), Array.getElem?_append, if_neg (by simp; omega), Array.getElem?_replicate]
      split <;> exact RV_undef.2 rfl
  · refine Trie.all_of fun n x hx => ?_
    rw [hget] at hx
    exact vokL_mem.1 hargs x (List.mem_of_getElem? hx)
theorem endCall_some {rc : Rec} {fn : Func} {r : Option (Trie Value × List Deferred × AS × Option Code)} {v : Value} (h : endCall P rc fn r = some (v, A')) :
    ∃ tm ds A1 j vs, r = some (tm, ds, A1, j) ∧ (j = none ∨ j = some .ret) ∧ unwind rc ds A1 = some A' ∧ aresults P tm A' fn.results.toList = some vs ∧ v = tupleOf vs ∧ vok A'.ok v = true := by
  cases r with
  | none => simp [endCall] at h
  | some x =>
    obtain ⟨tm, ds, A1, j⟩ := x
    have hj : j = none ∨ j = some .ret := by
      cases j with
      | none => exact .inl rfl
      | some c => cases c <;> first | exact .inr rfl | (simp [endCall] at h)
    have h : (match unwind rc ds A1 with
      | some A2 => match aresults P tm A2 fn.results.toList with
        | some vs => okV (tupleOf vs) A2
        | none => none
      | none => none) = some (v, A') := by
      rcases hj with rfl | rfl <;> exact h
    split at h
    · rename_i A2 hun
      split at h
      · rename_i vs hres
        unfold okV at h
        split at h
        · rename_i hv
          simp only [Option.some.injEq, Prod.mk.injEq] at h
          obtain ⟨rfl, rfl⟩ := h
          exact ⟨tm, ds, A1, j, vs, rfl, hj, hun, hres, rfl, hv⟩
        · cases h
      · cases h
    · cases h
theorem doCall_ok {c : Cfg} {rc : Rec} (hc : CfgOK P c) (hrc : RecOK P rc) (hm : P.follows .mixedOrders = true) {f : FuncId} {args : List Value} {d : Bool} {v : Value} (h : doCall P c rc f args A = some (v, A')) : DoesCall P f args d A v A' := by
  unfold doCall at h
  split at h
  · rename_i fn hfn
    have hfn : P.funcs[f]? = some fn := by rw [← hfn]; simp
    split at h
    · rename_i body hbody
      split at h
      · rename_i hsz
        simp only [Bool.and_eq_true, Nat.ble_eq, Nat.blt_eq] at hsz
        obtain ⟨tm, ds, A1, j, vs, hrun, hj, hun, hres, rfl, hv⟩ := endCall_some h
        refine ⟨hv, ⟨fn, hfn, by rw [hbody]; rfl⟩, fun φ w Vs hR hk hV cc ccs hd => ?_⟩
        have hF := enter_FR (k := if d then CallKind.deferred else .normal) hfn hk hV hsz.1 hsz.2
        have hb : CtxOK (Frame.enter P f Vs.toArray (if d then CallKind.deferred else .normal)) (cc :: ccs) := by
          cases d with
          | false => exact .inl rfl
          | true => exact .inr ⟨rfl, rfl, cc, ccs, rfl, hd rfl⟩
        obtain ⟨todo', ⟨φ1, w1, a1, h1, h2, h3, h4⟩, h5⟩ := runF_run (b := Frame.enter P f Vs.toArray (if d then CallKind.deferred else .normal)) (cs := cc :: ccs) (round := none) hc hrc hm hb 100000 φ A w _ [.code body] (setArgs args 0 .nil) tm [] ds A1 j rfl hR hF hrun
        have hent : (Frame.enter P f Vs.toArray (if d then CallKind.deferred else .normal)).atR ⟨(Frame.enter P f Vs.toArray (if d then CallKind.deferred else .normal)).tmps, []⟩ [.code body] = Frame.enter P f Vs.toArray (if d then CallKind.deferred else .normal) := by
          simp [Frame.enter, Frame.atR, hfn, hbody]
        rw [hent] at h1
        have hret : step P (lone ((Frame.enter P f Vs.toArray (if d then CallKind.deferred else .normal)).atR a1 todo') (cc :: ccs) w1) = .next (lone { (Frame.enter P f Vs.toArray (if d then CallKind.deferred else .normal)).atR a1 todo' with mode := .returning } (cc :: ccs) w1) := by
          rcases h5 with ⟨rfl, rfl⟩ | ⟨k, rfl, rfl⟩ | ⟨e, k, rfl, rfl, _⟩ | ⟨e, k, rfl, rfl, _⟩
          · exact stepR_end rfl
          · exact stepR_ret rfl
          · simp at hj
          · simp at hj
        obtain ⟨φ2, w2, h6, h7, h8⟩ := unwind_run (P := P) (cs := cc :: ccs) hc hrc ds φ1 A1 w1 { (Frame.enter P f Vs.toArray (if d then CallKind.deferred else .normal)).atR a1 todo' with mode := .returning } A' h2 rfl h4.dsr h4.dso hun
        have h9 := h4.run h2 h8
        obtain ⟨V, h10, h11⟩ := results_run (fn := fn) h7 h9.tmr.2.1 (fun t => by
          unfold tget
          cases ht : tm.get t with
          | none => rfl
          | some v => exact Trie.all_get h9.tok ht) hres
        refine ⟨φ2, w2, V, Steps.trans h1 (.head hret (Steps.trans h6 (.one ?_))), h11, h7, h3.trans h8⟩
        cases d with
        | false => exact step_leave_returned ⟨rfl, rfl, rfl, fn, hfn, h10⟩
        | true =>
          have := step_going_returned (P := P) (fr := { (Frame.enter P f Vs.toArray CallKind.deferred).atR a1 todo' with mode := .returning, defers := [] }) (c := cc) (cs := ccs) (w := w2) (v := V) rfl ⟨rfl, rfl, fn, hfn, h10⟩
          have hs : settle cc.mode = cc.mode := by rw [hd rfl]; rfl
          rw [hs] at this
          exact this
      · cases h
    · cases h
  · cases h
theorem doRound_ok {c : Cfg} {rc : Rec} (hc : CfgOK P c) (hrc : RecOK P rc) (hm : P.follows .mixedOrders = true) {l : Nat} {f : FuncId} {ns : Nat} {tm : Trie Value} {assign body : Code} {v : Value}
    (h : endRound l (runF P c rc f (some l) ns 100000 (.go [.code assign, .beginRound, .code body] tm [] A)) = some (v, A')) : DoesRound P l f ns tm assign body A v A' := by
  unfold endRound at h
  split at h
  · rename_i tm1 ds A1 j hrun
    split at h
    · split at h
      · rename_i st p A2 hset
        simp only [Option.some.injEq, Prod.mk.injEq] at h
        obtain ⟨rfl, rfl⟩ := h
        refine ⟨rfl, fun φ w a hR hl htok htm cc ccs => ?_⟩
        obtain ⟨todo', ⟨φ1, w1, a1, h1, h2, h3, h4⟩, h5⟩ := runF_run (b := Frame.round (φ.b l) f a assign body .normal) (cs := cc :: ccs) (round := some l) hc hrc hm (.inl rfl) 100000 φ A w ⟨a, []⟩ [.code assign, .beginRound, .code body] tm tm1 [] [] A1 j ⟨rfl, hl⟩ hR ⟨htm, htok, rfl, rfl⟩ hrun
        have hl1 : A1.ok l = true := h3.ok l hl
        have hbl : φ1.b l = φ.b l := by rw [AS.ok_iff] at hl; exact (h3.agree l (hl.imp (·.1) id)).1
        obtain ⟨r, q1, q2, q3, q4, q5⟩ := h2.loop hl1 hset
        refine ⟨φ1, _, .bool j.isNone, Steps.trans h1 (.one ?_), rfl, q4, h3.trans q5⟩
        have hend := run_endRound (P := P) j q1
        rw [hbl] at hend
        rw [hbl]
        rcases h5 with ⟨rfl, rfl⟩ | ⟨k, rfl, rfl⟩ | ⟨e, k, rfl, rfl, hx⟩ | ⟨e, k, rfl, rfl, hx⟩
        · exact stepR_round_end rfl rfl hend
        · exact stepR_round_ret rfl rfl hend
        · exact stepR_round_exit rfl rfl hx hend
        · exact stepR_round_goto rfl rfl hx hend
      · cases h
    · cases h
  · cases h
theorem doJob_ok {c : Cfg} {rc : Rec} (hc : CfgOK P c) (hrc : RecOK P rc) (hm : P.follows .mixedOrders = true) {job : Job} {v : Value} (h : doJob P c rc job A = some (v, A')) : Does P job A v A' := by
  cases job with
  | call f args d => exact doCall_ok hc hrc hm h
  | round l f ns tm assign body => exact doRound_ok hc hrc hm h
end Go.Ev
namespace Go.Ev
open Go
variable {P : Program} {A A' : AS} {φ φ' : Rn} {w w' : World} {a : Act} {b : Frame} {cs : List Frame}
def callS (P : Program) (c : Cfg) (S : Rec) : Nat → Rec
  | 0 => fun _ _ => none
  | n + 1 => fun job A => match S job A with
    | some r => some r
    | none => doJob P c (callS P c S n) job A
theorem callS_ok {c : Cfg} (hc : CfgOK P c) (hm : P.follows .mixedOrders = true) {S : Rec} (hS : RecOK P S) : ∀ n, RecOK P (callS P c S n)
  | 0 => fun job A v A' h => by simp [callS] at h
  | n + 1 => fun job A v A' h => by
    simp only [callS] at h
    split at h
    · rename_i r hr
      simp only [Option.some.injEq] at h
      subst h
      exact hS _ _ _ _ hr
    · exact doJob_ok hc (callS_ok hc hm hS n) hm h
theorem anew_vok {ab : AB} {n : Nat} (h : anew A ab = some (n, A')) : A'.ok n = true := by
  obtain ⟨rfl, rfl, h1, h2⟩ := anew_some h
  rw [AS.ok_iff]; exact .inl ⟨by show A.next < A.next + 1; omega, h2⟩
theorem abox_vok {t : TypeId} {x v : Value} (h : abox A t x = some (v, A')) : vok A'.ok v = true := by
  unfold abox at h
  split at h
  · rename_i n A1 hn
    simp only [Option.some.injEq, Prod.mk.injEq] at h
    obtain ⟨rfl, rfl⟩ := h
    exact anew_vok hn
  · cases h
theorem setCells_same {n off : Nat} {vs : List Value} (h : setCells A n off vs = some A') (m : Nat) : A'.ok m = A.ok m := by
  unfold setCells at h
  split at h
  · split at h
    · split at h
      · simp only [Option.some.injEq] at h; subst h; rfl
      · cases h
    · split at h
      · simp only [Option.some.injEq] at h; subst h; rfl
      · cases h
    · cases h
  · cases h
theorem appendAt_vok {ad : Addr} {elem : TypeId} {size sLen sCap need : Nat} {new : List Value} {v : Value} (hk : A.ok ad.block = true) (h : appendAt A ad elem size sLen sCap new need = some (v, A')) : vok A'.ok v = true := by
  unfold appendAt at h
  by_cases h0 : ad.spot ≠ none
  · rw [if_pos h0] at h; cases h
  · rw [if_neg h0] at h
    generalize (if sCap < big then sCap else sCap - big) = capv at h
    split at h
    · split at h
      · rename_i A1 hs
        simp only [Option.some.injEq, Prod.mk.injEq] at h
        obtain ⟨rfl, rfl⟩ := h
        simp only [vok]
        rw [setCells_same hs]; exact hk
      · cases h
    · split at h
      · cases h
      · split at h
        · split at h
          · rename_i hn
            simp only [Option.some.injEq, Prod.mk.injEq] at h
            obtain ⟨rfl, rfl⟩ := h
            exact anew_vok hn
          · cases h
        · split at h
          · cases h
          · split at h
            · split at h
              · split at h
                · rename_i hn
                  simp only [Option.some.injEq, Prod.mk.injEq] at h
                  obtain ⟨rfl, rfl⟩ := h
                  exact anew_vok hn
                · cases h
              · cases h
            · cases h
theorem append_vok {at_ : Array TypeId} {args : List Value} {v : Value} (hk : ∀ x ∈ args, vok A.ok x = true) (h : aappend P A at_ args = some (v, A')) : vok A'.ok v = true := by
  unfold aappend at h
  split at h
  · rename_i sT s x hst
    split at h
    · unfold append1 at h
      split at h
      · rename_i i z base sLen sCap hi hz
        split at h
        · split at h
          · split at h
            · cases h
            · cases base with
              | none =>
                simp only at h
                split at h
                · cases h
                · unfold appendNew at h
                  split at h
                  · simp only [Option.some.injEq, Prod.mk.injEq] at h
                    obtain ⟨rfl, rfl⟩ := h
                    rfl
                  · split at h
                    · rename_i hn
                      simp only [Option.some.injEq, Prod.mk.injEq] at h
                      obtain ⟨rfl, rfl⟩ := h
                      exact anew_vok hn
                    · cases h
              | some ad => exact appendAt_vok (by have := hk _ (List.mem_cons_self ..); exact this) h
          · cases h
        · cases h
      · cases h
    · cases h
  · cases h
theorem aop_vok (hR : Rel φ A w) {tm : Trie Value} {o : Oper} {v : Value} (hk : ∀ x ∈ opsL o.op, vok A.ok (ev tm x) = true) (h : aop P tm o A = some (v, A')) : vok A'.ok v = true := by
  by_cases hv : isVal o = true
  · have h2 := h
    rw [aop_map (A := A) hv (.inr rfl), Option.map_eq_some_iff] at h2
    obtain ⟨p, _, hp⟩ := h2
    have e : A' = A := (congrArg Prod.snd hp).symm
    rw [e]; exact val_vok hR hv hk h
  · obtain ⟨dst, op, type, pos, after, guard⟩ := o
    unfold aop at h
    simp only at h hk
    have viaD : ∀ {r : Option AS}, done1 r = some (v, A') → vok A'.ok v = true := fun h => by
      unfold done1 at h
      split at h
      · simp only [Option.some.injEq, Prod.mk.injEq] at h
        obtain ⟨rfl, rfl⟩ := h
        rfl
      · cases h
    cases op with
    | alloc t =>
      have h : aalloc P A t = some (v, A') := h
      unfold aalloc at h
      split at h
      · exact abox_vok h
      · cases h
    | box t x => exact abox_vok h
    | buildSlice t l ps =>
      have h : abuildSlice P A t l (ps.toList.map fun p => (p.1, ev tm p.2)) = some (v, A') := h
      unfold abuildSlice at h
      split at h
      · split at h
        · split at h
          · cases h
          · split at h
            · split at h
              · rename_i hn
                simp only [Option.some.injEq, Prod.mk.injEq] at h
                obtain ⟨rfl, rfl⟩ := h
                exact anew_vok hn
              · cases h
            · cases h
        · cases h
      · cases h
    | store t a x => exact viaD h
    | makeMap t r =>
      cases r with
      | some r => simp [aopOf, aMap] at h
      | none =>
        have h : aMap none A = some (v, A') := h
        unfold aMap at h
        split at h
        · split at h
          · rename_i hn
            simp only [Option.some.injEq, Prod.mk.injEq] at h
            obtain ⟨rfl, rfl⟩ := h
            exact anew_vok hn
          · cases h
        · cases h
    | mapUpdate t m k x => exact viaD h
    | call c =>
      obtain ⟨callee, args, argTypes⟩ := c
      cases callee with
      | value f => simp [aopOf] at h
      | invoke r m => simp [aopOf] at h
      | builtin b =>
        have hkargs : ∀ x ∈ args.toList.map (ev tm), vok A.ok x = true := by
          intro x hx
          obtain ⟨y, hy, rfl⟩ := List.mem_map.1 hx
          exact hk y (by simp [opsL]; simpa using hy)
        cases b <;> (try (simp [isVal] at hv; done))
        case append => exact append_vok hkargs h
        case copy =>
          have h : acopy P A argTypes (args.toList.map (ev tm)) = some (v, A') := h
          unfold acopy at h
          split at h
          · split at h
            · split at h
              · split at h
                · cases h
                · split at h
                  · split at h
                    · simp only [Option.some.injEq, Prod.mk.injEq] at h
                      obtain ⟨rfl, rfl⟩ := h
                      rfl
                    · cases h
                  · cases h
              · cases h
            · cases h
          · cases h
    | _ => simp [isVal] at hv
noncomputable def recOne (job : Job) (A : AS) (r : Value × AS) : Rec := by
  classical
  exact fun j B => if j = job ∧ B = A then some r else none
theorem recOne_ok {job : Job} {v : Value} (h : Does P job A v A') : RecOK P (recOne job A (v, A')) := fun j B u B' e => by
  unfold recOne at e
  split at e
  · rename_i hj
    obtain ⟨rfl, rfl⟩ := hj
    simp only [Option.some.injEq, Prod.mk.injEq] at e
    obtain ⟨rfl, rfl⟩ := e
    exact h
  · cases e
theorem recOne_eq (job : Job) (A : AS) (r : Value × AS) : recOne job A r job A = some r := by unfold recOne; rw [if_pos ⟨rfl, rfl⟩]
def rec0 : Rec := fun _ _ => none
theorem rec0_ok : RecOK P rec0 := fun j B u B' e => by cases e
def cfg0 : Cfg := ⟨0, 0, 0⟩
def wCall (P : Program) (f : Value) (args : List Value) (A : AS) (K : Value → AS → Prop) : Prop :=
  match f with
  | .func (.func g) first cap => ∃ v A', Does P (.call g (first.toList ++ args ++ cap.toList) false) A v A' ∧ K v A'
  | _ => False
def wSome (r : Option (Value × AS)) (K : Value → AS → Prop) : Prop :=
  match r with
  | some (v, A') => K v A'
  | none => False
def wOp (P : Program) (tm : Trie Value) (o : Oper) (A : AS) (K : Value → AS → Prop) : Prop :=
  match o.op with
  | .call cl => (match cl.callee with
    | .value f => wCall P (ev tm f) (cl.args.toList.map (ev tm)) A K
    | .builtin b => if isRecover b then False else wSome (aBuiltin P tm o b cl A) K
    | .invoke _ _ => False)
  | .defer _ => False
  | op => wSome (aopOf P tm o op A) K
theorem wSome_some {r : Option (Value × AS)} {K : Value → AS → Prop} (h : wSome r K) : ∃ v A', r = some (v, A') ∧ K v A' := by
  unfold wSome at h
  split at h
  · exact ⟨_, _, rfl, h⟩
  · exact h.elim
theorem wOp_ev {tm : Trie Value} {o : Oper} {K : Value → AS → Prop} (h : wOp P tm o A K) (hops : ∀ x ∈ opsL o.op, opk x = true) :
    ∃ rc v A', RecOK P rc ∧ K v A' ∧ ((∃ φ w, Rel φ A w) → (∀ x ∈ opsL o.op, vok A.ok (ev tm x) = true) → evOper P cfg0 rc false tm o A = some (v, A', none)) := by
  have fin : ∀ {rc : Rec} {v : Value} {A' : AS}, evOp1 P cfg0 rc false tm o A = some (v, A', none) → vok A'.ok v = true → evOper P cfg0 rc false tm o A = some (v, A', none) := fun h1 h2 => by
    unfold evOper
    rw [if_pos (List.all_eq_true.2 hops), h1]
    simp [okRes, h2]
  obtain ⟨dst, op, type, pos, after, guard⟩ := o
  unfold wOp at h
  cases op with
  | call cl =>
    obtain ⟨callee, args, argTypes⟩ := cl
    cases callee with
    | value f =>
      simp only [wCall] at h
      split at h
      · rename_i g first cap hf
        obtain ⟨v, A', hd, hK⟩ := h
        refine ⟨recOne _ A (v, A'), v, A', recOne_ok hd, hK, fun _ _ => fin ?_ hd.1⟩
        show noD (Ev.callee cfg0 _ (ev tm f) (args.toList.map (ev tm)) A) = _
        rw [hf]
        simp only [Ev.callee]
        rw [if_neg (by simp [cfg0]), if_neg (by simp [cfg0]), recOne_eq]
        rfl
      · exact h.elim
    | invoke r m => exact h.elim
    | builtin b =>
      simp only at h
      split at h
      · exact h.elim
      · rename_i hr
        obtain ⟨v, A', h1, h2⟩ := wSome_some h
        refine ⟨rec0, v, A', rec0_ok, h2, fun ⟨φ, w, hR⟩ hk => fin ?_ (aop_vok (P := P) (tm := tm) (o := ⟨dst, .call ⟨.builtin b, args, argTypes⟩, type, pos, after, guard⟩) hR hk h1)⟩
        show (if isRecover b then _ else noD (aBuiltin P tm _ b _ A)) = _
        rw [if_neg hr, h1]; rfl
  | defer cl => exact h.elim
  | _ =>
    obtain ⟨v, A', h1, h2⟩ := wSome_some h
    exact ⟨rec0, v, A', rec0_ok, h2, fun ⟨φ, w, hR⟩ hk => fin (by simp only [evOp1]; unfold aop; simp only; rw [h1]; rfl) (aop_vok (P := P) (tm := tm) hR hk h1)⟩
end Go.Ev
namespace Go.Ev
open Go
variable {P : Program} {A A' : AS} {φ φ' : Rn} {w w' : World} {a : Act} {b : Frame} {cs : List Frame}
def wIf (b : Bool) (X Y : Prop) : Prop := if b then X else Y
theorem wIf_true {X Y : Prop} : wIf true X Y = X := rfl
theorem wIf_false {X Y : Prop} : wIf false X Y = Y := rfl
def wOps (P : Program) (ns : Nat) (ops : List Oper) : List Oper → Trie Value → AS → (Trie Value → AS → Prop) → Prop
  | [], tm, A, K => K tm A
  | o :: rest, tm, A, K => wIf (wants tm ops o) (wOp P tm o A fun v A' => wOps P ns ops rest (putD ns tm o.dst v) A' K) (wOps P ns ops rest (putD ns tm o.dst undef) A K)
def isFn (o : Oper) : Bool :=
  match o.op with
  | .call ⟨.value _, _, _⟩ => true
  | _ => false
def wKeep (c b : Bool) (A A' : AS) (X : Prop) : Prop :=
  match b with
  | true => (c = true → A' = A) ∧ X
  | false => X
def wOpsF (P : Program) (c : Bool) (ns : Nat) (ops : List Oper) : List Oper → Trie Value → AS → (Trie Value → AS → Prop) → Prop
  | [], tm, A, K => K tm A
  | o :: rest, tm, A, K => wIf (wants tm ops o) (wOp P tm o A fun v A' => wKeep c (isFn o) A A' (wOpsF P c ns ops rest (putD ns tm o.dst v) A' K)) (wOpsF P c ns ops rest (putD ns tm o.dst undef) A K)
def opsOk (ops : List Oper) : Bool := ops.all fun o => (opsL o.op).all opk
theorem opsOk_mem {ops : List Oper} (h : opsOk ops = true) {o : Oper} (ho : o ∈ ops) : ∀ x ∈ opsL o.op, opk x = true := List.all_eq_true.1 (List.all_eq_true.1 h o ho)
theorem cfg0_ok (hn : ∀ (f : FuncId) (fn : Func), P.funcs[f]? = some fn → fn.body.isSome = true → fn.name ≠ "runtime.NumGoroutine") : CfgOK P cfg0 :=
  ⟨hn, fun f h => by simp [cfg0] at h, fun f h => by simp [cfg0] at h⟩
def OpsRun (P : Program) (ns : Nat) (ops : Array Oper) (l : List Nat) (tm : Trie Value) (A : AS) (tm' : Trie Value) (A' : AS) : Prop :=
  ∀ (φ : Rn) (w : World) (a : Act) (b : Frame) (cs : List Frame) (k : List Item), CtxOK b cs → b.roundOf = none → Rel φ A w → FR φ A w ns tm [] a →
    ∃ φ' w' a', Steps P (lone (b.atR a (.inRegion ops l :: k)) cs w) (lone (b.atR a' k) cs w') ∧ Rel φ' A' w' ∧ Runs φ A w φ' A' w' ∧ FR φ' A' w' ns tm' [] a'
def evSeq (P : Program) (ns : Nat) (ops : List Oper) (rcs : Nat → Rec) : Nat → List Oper → Trie Value → AS → Option (Trie Value × AS)
  | _, [], tm, A => some (tm, A)
  | i, o :: rest, tm, A =>
    if wants tm ops o then
      match evOper P cfg0 (rcs i) false tm o A with
      | some (v, A', none) => if A'.pend = A.pend then evSeq P ns ops rcs (i + 1) rest (putD ns tm o.dst v) A' else none
      | _ => none
    else evSeq P ns ops rcs (i + 1) rest (putD ns tm o.dst undef) A
theorem evSeq_congr {ns : Nat} {ops : List Oper} {rcs rcs' : Nat → Rec} : ∀ (rest : List Oper) (i : Nat) (tm : Trie Value) (A : AS), (∀ j, i ≤ j → rcs j = rcs' j) → evSeq P ns ops rcs i rest tm A = evSeq P ns ops rcs' i rest tm A
  | [], i, tm, A, _ => rfl
  | o :: rest, i, tm, A, h => by
    simp only [evSeq]
    rw [h i (Nat.le_refl _)]
    split
    · split
      · rw [evSeq_congr rest _ _ _ fun j hj => h j (by omega)]
      · rfl
    · exact evSeq_congr rest _ _ _ fun j hj => h j (by omega)
def frame0 : Frame := { fn := 0, tmps := #[], todo := [], defers := [], mode := .run, kind := .normal }
theorem wOps_ev (hc : CfgOK P cfg0) {ns : Nat} {ops : Array Oper} (hops : opsOk ops.toList = true) {tail : List Oper} : ∀ (rest : List Oper) (i : Nat) (tm : Trie Value) (A : AS) (K : Trie Value → AS → Prop), ops.toList.drop i = rest ++ tail → wOps P ns ops.toList rest tm A K →
    ∃ (rcs : Nat → Rec) (tm' : Trie Value) (A' : AS), (∀ j, RecOK P (rcs j)) ∧ K tm' A' ∧ OpsRun P ns ops (List.range' i rest.length) tm A tm' A' ∧
      ∀ (φ : Rn) (w : World) (a : Act), Rel φ A w → FR φ A w ns tm [] a → evSeq P ns ops.toList rcs i rest tm A = some (tm', A')
  | [], i, tm, A, K, _, h => ⟨fun _ => rec0, tm, A, fun _ => rec0_ok, h, fun φ w a b cs k _ _ hR hF => ⟨φ, w, a, .one stepR_region_end, hR, Runs.refl _ _ _, hF⟩, fun _ _ _ _ _ => rfl⟩
  | o :: rest, i, tm, A, K, hd, h => by
    have ho : ops[i]? = some o := by
      have : (ops.toList.drop i)[0]? = some o := by rw [hd]; rfl
      rw [List.getElem?_drop] at this; simpa using this
    have hd' : ops.toList.drop (i + 1) = rest ++ tail := by rw [← List.drop_drop, hd]; rfl
    have hopk := opsOk_mem hops (o := o) (List.mem_of_getElem? (i := i) (by simpa using ho))
    simp only [wOps] at h
    rw [List.length_cons, List.range'_succ]
    cases hw : wants tm ops.toList o with
    | true =>
      rw [hw, wIf_true] at h
      obtain ⟨rc, v, A1, hrc, hK, hev⟩ := wOp_ev h hopk
      obtain ⟨rcs, tm', A', h1, h2, h3, h4⟩ := wOps_ev hc hops rest (i + 1) _ A1 K hd' hK
      have one : ∀ (φ : Rn) (w : World) (a : Act) (b : Frame) (cs : List Frame) (k : List Item), CtxOK b cs → b.roundOf = none → Rel φ A w → FR φ A w ns tm [] a →
          ∃ φ1 w1 a1, Steps P (lone (b.atR a (.inRegion ops (i :: List.range' (i + 1) rest.length) :: k)) cs w) (lone (b.atR a1 (.inRegion ops (List.range' (i + 1) rest.length) :: k)) cs w1) ∧ Rel φ1 A1 w1 ∧ Runs φ A w φ1 A1 w1 ∧ FR φ1 A1 w1 ns (putD ns tm o.dst v) [] a1 := fun φ w a b cs k hb hro hR hF => by
        have hwant : wants tm ops.toList o = Region.wanted o (yielded ops a.tmps) := wants_eq fun j want d _ _ => hF.tmr.2.1 d
        rw [hw] at hwant
        have hkk : ∀ x ∈ opsL o.op, vok A.ok (ev tm x) = true := fun x hx => ev_ok hF.tok (hopk x hx)
        obtain ⟨φ1, w1, V, D, q1, q2, q3, q4, q5, q6, q7⟩ := op_run hc hrc hR (k := k) (cs := cs) (a := a) (rest := List.range' (i + 1) rest.length) hb ho hwant.symm (fun x hx => ev_RV hF.tmr (hopk x hx)) hkk (by rw [hro]; exact hev ⟨φ, w, hR⟩ hkk)
        have hD : D = [] := by cases D with
          | nil => rfl
          | cons d D => exact absurd q6 (by simp [RDL])
        subst hD
        exact ⟨φ1, w1, _, q1, q3, q4, (hF.run hR q4).put q2 q5 o.dst⟩
      refine ⟨fun j => if j = i then rc else rcs j, tm', A', fun j => (by show RecOK P (if j = i then rc else rcs j); split <;> first | exact hrc | exact h1 j), h2, fun φ w a b cs k hb hro hR hF => ?_, fun φ w a hR hF => ?_⟩
      · obtain ⟨φ1, w1, a1, q1, q2, q3, q4⟩ := one φ w a b cs k hb hro hR hF
        obtain ⟨φ2, w2, a2, q5, q6, q7, q8⟩ := h3 φ1 w1 a1 b cs k hb hro q2 q4
        exact ⟨φ2, w2, a2, q1.trans q5, q6, q3.trans q7, q8⟩
      · obtain ⟨φ1, w1, a1, q1, q2, q3, q4⟩ := one φ w a frame0 [] [] (.inl rfl) rfl hR hF
        simp only [evSeq]
        rw [if_pos hw, if_true, hev ⟨φ, w, hR⟩ fun x hx => ev_ok hF.tok (hopk x hx)]
        simp only
        rw [if_pos q3.pend, evSeq_congr (rcs' := rcs) rest _ _ _ fun j hj => if_neg (by omega)]
        exact h4 φ1 w1 a1 q2 q4
    | false =>
      rw [hw, wIf_false] at h
      obtain ⟨rcs, tm', A', h1, h2, h3, h4⟩ := wOps_ev hc hops rest (i + 1) _ A K hd' h
      refine ⟨rcs, tm', A', h1, h2, fun φ w a b cs k hb hro hR hF => ?_, fun φ w a hR hF => ?_⟩
      · have hwant : wants tm ops.toList o = Region.wanted o (yielded ops a.tmps) := wants_eq fun j want d _ _ => hF.tmr.2.1 d
        rw [hw] at hwant
        obtain ⟨φ2, w2, a2, h8, h9, h10, h11⟩ := h3 φ w (a.put o.dst undef) b cs k hb hro hR (hF.put (RV_undef.2 rfl) rfl o.dst)
        have hs := stepR_op_skip (P := P) (b := b) (a := a) (k := k) (cs := cs) (w := w) (ops := ops) (i := i) (rest := List.range' (i + 1) rest.length) (by simp [ho, ← hwant])
        simp only [ho, Option.bind_some] at hs
        exact ⟨φ2, w2, a2, .head hs h8, h9, h10, h11⟩
      · simp only [evSeq]
        rw [if_neg (by rw [hw]; simp)]
        exact h4 φ w (a.put o.dst undef) hR (hF.put (RV_undef.2 rfl) rfl o.dst)
def wDraw (P : Program) (ns : Nat) (ops : List Oper) (tm : Trie Value) (A : AS) (K : Trie Value → AS → Prop) : Prop :=
  ∃ (rcs : Nat → Rec) (tm' : Trie Value) (A' : AS), (∀ j, RecOK P (rcs j)) ∧ K tm' A' ∧ ∀ (φ : Rn) (w : World) (a : Act), Rel φ A w → FR φ A w ns tm [] a → evDraw P cfg0 rcs false ns ops tm A = some (tm', A')
def dstat (ops : List Oper) : Nat → List Oper → List Nat → Seen → List Nat → List Nat → Bool
  | _, [], _, _, _, _ => true
  | i, o :: rest, ms, sn, ts, rs =>
    let m := maskOf i ms o.after.toList 0
    let ls := looks ops o
    ((opsL o.op).all opk && tempsOk sn m ls o.dst && o.after.toList.all (fun e => !bind e || Nat.blt e.on i)) &&
    (match kindOf o with
    | .news => false
    | .still => dstat ops (i + 1) rest (m :: ms) (seenOf sn i ls o.dst) ts rs
    | .reads => ts.all (fun t => m.testBit t) && dstat ops (i + 1) rest (m :: ms) (seenOf sn i ls o.dst) ts (i :: rs)
    | .turns => (ts.all (fun t => m.testBit t) && rs.all (fun t => m.testBit t)) && dstat ops (i + 1) rest (m :: ms) (seenOf sn i ls o.dst) (i :: ts) rs)
theorem again_all {pend : List Nat} {m : Nat} {B : AS} : ∀ {rs : List (Nat × Oper × Trie Value × Value)}, (∀ x ∈ rs, m.testBit x.1 = true) → again P pend m B rs = true
  | [], _ => rfl
  | (j, o, tm, u) :: rs, h => by
    simp only [again, Bool.and_eq_true, Bool.or_eq_true]
    exact ⟨.inl (h _ (List.mem_cons_self ..)), again_all fun x hx => h x (List.mem_cons_of_mem _ hx)⟩
theorem AS.eta (A : AS) : ({ A with pend := A.pend } : AS) = A := rfl
theorem evOper_pend {c : Cfg} {rc : Rec} {tm : Trie Value} {o : Oper} {B B' : AS} {v : Value} {d : Option Deferred} (hk : kindOf o = .still ∨ kindOf o = .reads) (h : evOper P c rc false tm o B = some (v, B', d)) : B' = B := by
  have h2 := kind_aop hk h
  rw [aop_map (A := B) (kind_val hk) (.inr rfl), Option.map_eq_some_iff] at h2
  obtain ⟨p, _, hp⟩ := h2
  exact (congrArg Prod.snd hp).symm
theorem pends_none {m : Nat} : ∀ (ids : List (Option Nat)) (i : Nat), (∀ x ∈ ids, x = none) → pends m ids i = []
  | [], i, _ => rfl
  | x :: ids, i, h => by
    have := h x (List.mem_cons_self ..)
    subst this
    simp only [pends]
    exact pends_none ids _ fun y hy => h y (List.mem_cons_of_mem _ hy)
theorem dstat_draw {ns : Nat} {ops : List Oper} {rcs : Nat → Rec} {ids : List (Option Nat)} (hids : ∀ x ∈ ids, x = none) {base : List Nat} : ∀ (rest : List Oper) (i : Nat) (S : DS) (A : AS) (hs : List AS) (ts rs : List Nat) (tm' : Trie Value) (A' : AS),
    dstat ops i rest S.ms S.sn ts rs = true → S.hs = A :: hs → A.pend = base → (∀ t ∈ S.ts, t ∈ ts) → (∀ x ∈ S.rs, x.1 ∈ rs) →
    evSeq P ns ops rcs i rest S.tm A = some (tm', A') → ∃ S', drawAll P cfg0 rcs false ns ops base ids i rest S = some S' ∧ S'.tm = tm' ∧ ∃ hs', S'.hs = A' :: hs'
  | [], i, S, A, hs, ts, rs, tm', A', _, hh, _, _, _, h => by
    simp only [evSeq, Option.some.injEq, Prod.mk.injEq] at h
    exact ⟨S, rfl, h.1, hs, by rw [hh, h.2]⟩
  | o :: rest, i, S, A, hs, ts, rs, tm', A', hst, hh, hp, hts, hrs, h => by
    simp only [dstat, Bool.and_eq_true] at hst
    have hcheck : dCheck S i (maskOf i S.ms o.after.toList 0) (looks ops o) o = true := by
      unfold dCheck
      simp only [Bool.and_eq_true]
      exact hst.1
    have hA0 : ({ A with pend := pends (maskOf i S.ms o.after.toList 0) ids 0 ++ base } : AS) = A := by
      rw [pends_none ids 0 hids, List.nil_append, ← hp]
    simp only [drawAll, drawOne]
    rw [if_pos hcheck]
    unfold dDo
    rw [hh]
    simp only
    simp only [evSeq] at h
    split at h
    · rename_i hw
      rw [if_pos hw]
      simp only [dKind, hA0]
      split at h
      · rename_i v A1 he
        by_cases hp1 : A1.pend = A.pend
        case neg => rw [if_neg hp1] at h; cases h
        rw [if_pos hp1] at h
        cases hk : kindOf o with
        | news => rw [hk] at hst; exact absurd hst.2 (by simp)
        | still =>
          rw [hk] at hst
          have e := evOper_pend (.inl hk) he
          subst e
          simp only [dStill, he, dSeen]
          exact dstat_draw hids rest (i + 1) { tm := putD ns S.tm o.dst v, ms := maskOf i S.ms o.after.toList 0 :: S.ms, sn := seenOf S.sn i (looks ops o) o.dst, hs := S.hs, ts := S.ts, rs := S.rs } A1 hs ts rs tm' A' hst.2 hh hp hts hrs h
        | reads =>
          rw [hk] at hst
          simp only [Bool.and_eq_true] at hst
          have e := evOper_pend (.inr hk) he
          subst e
          have hnil : (S.ts.takeWhile fun t => !(maskOf i S.ms o.after.toList 0).testBit t) = [] := by
            cases hS : S.ts with
            | nil => rfl
            | cons t r =>
              rw [List.takeWhile_cons_of_neg]
              have := List.all_eq_true.1 hst.2.1 t (hts t (by rw [hS]; simp))
              simp [this]
          simp only [dReads, he, hnil, List.length_nil, List.take_zero, List.all_nil, if_true, dSeen]
          exact dstat_draw hids rest (i + 1) { tm := putD ns S.tm o.dst v, ms := maskOf i S.ms o.after.toList 0 :: S.ms, sn := seenOf S.sn i (looks ops o) o.dst, hs := S.hs, ts := S.ts, rs := (i, o, S.tm, v) :: S.rs } A1 hs ts (i :: rs) tm' A' hst.2.2 hh hp hts
            (fun x hx => by
              rcases List.mem_cons.1 hx with rfl | hx
              · exact List.mem_cons_self ..
              · exact List.mem_cons_of_mem _ (hrs x hx)) h
        | turns =>
          rw [hk] at hst
          simp only [Bool.and_eq_true] at hst
          have hp1 : A1.pend = base := hp1.trans hp
          have hto : turnOk S.ts (maskOf i S.ms o.after.toList 0) = true := by
            cases hS : S.ts with
            | nil => rfl
            | cons t r => exact List.all_eq_true.1 hst.2.1.1 t (hts t (by rw [hS]; simp))
          have hA1 : ({ A1 with pend := base } : AS) = A1 := by rw [← hp1]
          have hag : again P (pends 0 ids 0 ++ base) (maskOf i S.ms o.after.toList 0) { A1 with pend := base } S.rs = true := again_all fun x hx => List.all_eq_true.1 hst.2.1.2 x.1 (hrs x hx)
          simp only [hto, if_true, dTurns, he]
          rw [if_pos hag]
          simp only [hA1, dSeen]
          exact dstat_draw hids rest (i + 1) { tm := putD ns S.tm o.dst v, ms := maskOf i S.ms o.after.toList 0 :: S.ms, sn := seenOf S.sn i (looks ops o) o.dst, hs := A1 :: S.hs, ts := i :: S.ts, rs := S.rs.filter fun x => !(maskOf i S.ms o.after.toList 0).testBit x.1 } A1 (S.hs) (i :: ts) rs tm' A' hst.2.2 rfl hp1
            (fun x hx => by
              rcases List.mem_cons.1 hx with rfl | hx
              · exact List.mem_cons_self ..
              · exact List.mem_cons_of_mem _ (hts x hx)) (fun x hx => hrs x (List.mem_filter.1 hx).1) h
      · cases h
    · rename_i hw
      rw [if_neg hw]
      cases hk : kindOf o with
      | news => rw [hk] at hst; exact absurd hst.2 (by simp)
      | still =>
        rw [hk] at hst
        simp only [dSkip, hk, dSeen]
        exact dstat_draw hids rest (i + 1) { tm := putD ns S.tm o.dst undef, ms := maskOf i S.ms o.after.toList 0 :: S.ms, sn := seenOf S.sn i (looks ops o) o.dst, hs := S.hs, ts := S.ts, rs := S.rs } A hs ts rs tm' A' hst.2 hh hp hts hrs h
      | reads =>
        rw [hk] at hst
        simp only [Bool.and_eq_true] at hst
        simp only [dSkip, hk, dSeen]
        exact dstat_draw hids rest (i + 1) { tm := putD ns S.tm o.dst undef, ms := maskOf i S.ms o.after.toList 0 :: S.ms, sn := seenOf S.sn i (looks ops o) o.dst, hs := S.hs, ts := S.ts, rs := S.rs } A hs ts (i :: rs) tm' A' hst.2.2 hh hp hts (fun x hx => List.mem_cons_of_mem _ (hrs x hx)) h
      | turns =>
        rw [hk] at hst
        simp only [Bool.and_eq_true] at hst
        simp only [dSkip, hk, dSeen]
        exact dstat_draw hids rest (i + 1) { tm := putD ns S.tm o.dst undef, ms := maskOf i S.ms o.after.toList 0 :: S.ms, sn := seenOf S.sn i (looks ops o) o.dst, hs := S.hs, ts := S.ts, rs := S.rs } A hs (i :: ts) rs tm' A' hst.2.2 hh hp (fun x hx => List.mem_cons_of_mem _ (hts x hx)) hrs h
end Go.Ev
namespace Go.Ev
open Go
variable {P : Program} {A A' : AS} {φ φ' : Rn} {w w' : World} {a : Act} {b : Frame} {cs : List Frame}
theorem dstat_ops {ops : List Oper} : ∀ (rest : List Oper) (i : Nat) (ms : List Nat) (sn : Seen) (ts rs : List Nat), dstat ops i rest ms sn ts rs = true → opsOk rest = true ∧ ∀ o ∈ rest, kindOf o ≠ .news
  | [], i, ms, sn, ts, rs, _ => ⟨rfl, by simp⟩
  | o :: rest, i, ms, sn, ts, rs, h => by
    simp only [dstat, Bool.and_eq_true] at h
    have fin : ∀ {ms sn ts rs}, dstat ops (i + 1) rest ms sn ts rs = true → kindOf o ≠ .news → opsOk (o :: rest) = true ∧ ∀ u ∈ o :: rest, kindOf u ≠ .news := fun h2 hk => by
      obtain ⟨q1, q2⟩ := dstat_ops rest _ _ _ _ _ h2
      refine ⟨?_, fun u hu => ?_⟩
      · unfold opsOk at q1 ⊢
        rw [List.all_cons, q1, h.1.1.1]; rfl
      · rcases List.mem_cons.1 hu with rfl | hu
        · exact hk
        · exact q2 u hu
    cases hk : kindOf o with
    | news => rw [hk] at h; exact absurd h.2 (by simp)
    | still => rw [hk] at h; exact fin h.2 (by rw [hk]; simp)
    | reads => rw [hk] at h; simp only [Bool.and_eq_true] at h; exact fin h.2.2 (by rw [hk]; simp)
    | turns => rw [hk] at h; simp only [Bool.and_eq_true] at h; exact fin h.2.2 (by rw [hk]; simp)
theorem reserve_none : ∀ (rest : List Oper) (A : AS) (acc : List (Option Nat)), (∀ o ∈ rest, kindOf o ≠ .news) → reserve P rest A acc = some (A, acc.reverse ++ List.replicate rest.length none)
  | [], A, acc, _ => by simp [reserve]
  | o :: rest, A, acc, h => by
    have ho := h o (List.mem_cons_self ..)
    unfold reserve
    split
    · rename_i t hop
      exact absurd (by unfold kindOf; rw [hop]) ho
    · rw [reserve_none rest A _ fun u hu => h u (List.mem_cons_of_mem _ hu)]
      simp [List.replicate_succ]
theorem wDraw_seq (hc : CfgOK P cfg0) {ns : Nat} {ops : List Oper} {tm : Trie Value} {K : Trie Value → AS → Prop} (hst : dstat ops 0 ops [] ⟨.nil, .nil⟩ [] [] = true) (h : wOps P ns ops ops tm A K) : wDraw P ns ops tm A K := by
  obtain ⟨q1, q2⟩ := dstat_ops _ _ _ _ _ _ hst
  obtain ⟨rcs, tm', A', h1, h2, h3, h4⟩ := wOps_ev hc (ops := ops.toArray) (tail := []) q1 ops 0 tm A K (by simp) h
  refine ⟨rcs, tm', A', h1, h2, fun φ w a hR hF => ?_⟩
  have h5 := h4 φ w a hR hF
  unfold evDraw
  rw [reserve_none ops A [] q2]
  simp only [List.reverse_nil, List.nil_append]
  obtain ⟨S', q3, q4, hs', q5⟩ := dstat_draw (P := P) (ids := List.replicate ops.length none) (base := A.pend) (by intro x hx; exact (List.mem_replicate.1 hx).2) ops 0 { tm, ms := [], sn := ⟨.nil, .nil⟩, hs := [A], ts := [], rs := [] } A [] [] [] tm' A' hst rfl rfl (by simp) (by simp) h5
  rw [q3]
  simp only [q5, q4]
def Wn (P : Program) (ns : Nat) : Nat → List Item → Trie Value → AS → (Trie Value → AS → Prop) → Prop
  | 0, _, _, _, _ => False
  | _ + 1, [], tm, A, Q => Q tm A
  | n + 1, it :: k, tm, A, Q =>
    match it with
    | .code cd => (match cd with
      | .ret => Q tm A
      | .skip => Wn P ns n k tm A Q
      | .label _ => Wn P ns n k tm A Q
      | .seq a b => Wn P ns n (.code a :: .code b :: k) tm A Q
      | .cond q a b => (match ev tm q with
        | .bool t => if t then Wn P ns n (.code a :: k) tm A Q else Wn P ns n (.code b :: k) tm A Q
        | _ => False)
      | .block id b => Wn P ns n (.code b :: .inBlock id :: k) tm A Q
      | .loop b => Wn P ns n (.code b :: .inLoop b :: k) tm A Q
      | .scope b => Wn P ns n (.code b :: .inScope b :: k) tm A Q
      | .exit id => (match exitTo id k with
        | some k' => Wn P ns n k' tm A Q
        | none => False)
      | .goto l => (match gotoIn l k with
        | some k' => Wn P ns n k' tm A Q
        | none => False)
      | .region _ ops draw => if draw then wDraw P ns ops.toList tm A fun tm' A' => Wn P ns n k tm' A' Q else wOps P ns ops.toList ops.toList tm A fun tm' A' => Wn P ns n k tm' A' Q
      | .rangeFunc _ _ _ _ => False
      | .refuse _ => False)
    | .inBlock _ => Wn P ns n k tm A Q
    | .inScope _ => Wn P ns n k tm A Q
    | .inLoop b => Wn P ns n (.code b :: .inLoop b :: k) tm A Q
    | _ => False
def codeOk : Code → Bool
  | .seq a b => codeOk a && codeOk b
  | .cond q a b => opk q && (codeOk a && codeOk b)
  | .block _ b => codeOk b
  | .loop b => codeOk b
  | .scope b => codeOk b
  | .region _ ops _ => opsOk ops.toList
  | .rangeFunc g _ a b => opk g && (codeOk a && codeOk b)
  | _ => true
def itemOk : Item → Bool
  | .code c => codeOk c
  | .inLoop c => codeOk c
  | .inScope c => codeOk c
  | _ => true
theorem exitTo_ok {e : Nat} : ∀ {k k' : List Item}, k.all itemOk = true → exitTo e k = some k' → k'.all itemOk = true
  | [], k', _, h => by simp [exitTo] at h
  | it :: k, k', hk, h => by
    simp only [List.all_cons, Bool.and_eq_true] at hk
    cases it with
    | inBlock i =>
      simp only [exitTo] at h
      split at h
      · simp only [Option.some.injEq] at h; subst h; exact hk.2
      · exact exitTo_ok hk.2 h
    | _ => exact exitTo_ok hk.2 h
theorem findLabel_ok {l : Nat} : ∀ {c c' : Code}, codeOk c = true → findLabel c l = some c' → codeOk c' = true
  | .seq a b, c', hc, h => by
    simp only [codeOk, Bool.and_eq_true] at hc
    simp only [findLabel] at h
    split at h
    · rename_i r hr
      simp only [Option.some.injEq] at h; subst h
      simp only [codeOk, Bool.and_eq_true]
      exact ⟨findLabel_ok hc.1 hr, hc.2⟩
    · exact findLabel_ok hc.2 h
  | .label m, c', _, h => by
    simp only [findLabel] at h
    split at h
    · simp only [Option.some.injEq] at h; subst h; rfl
    · cases h
  | .ret, _, _, h => by simp [findLabel] at h
  | .skip, _, _, h => by simp [findLabel] at h
  | .cond _ _ _, _, _, h => by simp [findLabel] at h
  | .block _ _, _, _, h => by simp [findLabel] at h
  | .loop _, _, _, h => by simp [findLabel] at h
  | .scope _, _, _, h => by simp [findLabel] at h
  | .exit _, _, _, h => by simp [findLabel] at h
  | .goto _, _, _, h => by simp [findLabel] at h
  | .region _ _ _, _, _, h => by simp [findLabel] at h
  | .rangeFunc _ _ _ _, _, _, h => by simp [findLabel] at h
  | .refuse _, _, _, h => by simp [findLabel] at h
theorem gotoIn_ok {l : Nat} : ∀ {k k' : List Item}, k.all itemOk = true → gotoIn l k = some k' → k'.all itemOk = true
  | [], k', _, h => by simp [gotoIn] at h
  | it :: k, k', hk, h => by
    simp only [List.all_cons, Bool.and_eq_true] at hk
    cases it with
    | inScope c =>
      simp only [gotoIn] at h
      split at h
      · rename_i r hr
        simp only [Option.some.injEq] at h; subst h
        simp only [List.all_cons, Bool.and_eq_true]
        exact ⟨findLabel_ok hk.1 hr, hk⟩
      · exact gotoIn_ok hk.2 h
    | _ => exact gotoIn_ok hk.2 h
def Comes1 (P : Program) (ns : Nat) (todo : List Item) (tm : Trie Value) (A : AS) (tm' : Trie Value) (A' : AS) : Prop :=
  ∃ todo' j, Ends todo' j ∧ (j = none ∨ j = some .ret) ∧ ∀ (φ : Rn) (w : World) (a : Act) (b : Frame) (cs : List Frame), CtxOK b cs → b.roundOf = none → Rel φ A w → FR φ A w ns tm [] a → Goes P φ A w b cs a todo todo' ns tm' [] A'
theorem Comes1.head {ns : Nat} {todo k : List Item} {tm tm' : Trie Value} (h : Comes1 P ns k tm A tm' A') (hs : ∀ (φ : Rn) (w : World) (a : Act) (b : Frame) (cs : List Frame), b.roundOf = none → FR φ A w ns tm [] a → step P (lone (b.atR a todo) cs w) = .next (lone (b.atR a k) cs w)) : Comes1 P ns todo tm A tm' A' := by
  obtain ⟨todo', j, h1, h2, h3⟩ := h
  refine ⟨todo', j, h1, h2, fun φ w a b cs hb hro hR hF => ?_⟩
  obtain ⟨φ', w', a', q1, q2, q3, q4⟩ := h3 φ w a b cs hb hro hR hF
  exact ⟨φ', w', a', .head (hs φ w a b cs hro hF) q1, q2, q3, q4⟩
theorem Wn_run (hc : CfgOK P cfg0) (hm : P.follows .mixedOrders = true) {ns : Nat} {Q : Trie Value → AS → Prop} : ∀ (n : Nat) (todo : List Item) (tm : Trie Value) (A : AS), todo.all itemOk = true → Wn P ns n todo tm A Q → ∃ tm' A', Q tm' A' ∧ Comes1 P ns todo tm A tm' A'
  | 0, _, _, _, _, h => h.elim
  | n + 1, [], tm, A, _, h => ⟨tm, A, h, [], none, .inl ⟨rfl, rfl⟩, .inl rfl, fun φ w a b cs _ _ hR hF => ⟨φ, w, a, .refl _ _, hR, Runs.refl _ _ _, hF⟩⟩
  | n + 1, it :: k, tm, A, hk, h => by
    simp only [List.all_cons, Bool.and_eq_true] at hk
    obtain ⟨hit, hk⟩ := hk
    have go : ∀ {k' : List Item}, k'.all itemOk = true → Wn P ns n k' tm A Q → (∀ (φ : Rn) (w : World) (a : Act) (b : Frame) (cs : List Frame), b.roundOf = none → FR φ A w ns tm [] a → step P (lone (b.atR a (it :: k)) cs w) = .next (lone (b.atR a k') cs w)) → ∃ tm' A', Q tm' A' ∧ Comes1 P ns (it :: k) tm A tm' A' := fun hk' h hs => by
      obtain ⟨tm', A', h1, h2⟩ := Wn_run hc hm n _ tm A hk' h
      exact ⟨tm', A', h1, h2.head hs⟩
    have reg : ∀ {tm1 : Trie Value} {A1 : AS}, Wn P ns n k tm1 A1 Q → (∀ (φ : Rn) (w : World) (a : Act) (b : Frame) (cs : List Frame), CtxOK b cs → b.roundOf = none → Rel φ A w → FR φ A w ns tm [] a → ∃ φ' w' a', Steps P (lone (b.atR a (it :: k)) cs w) (lone (b.atR a' k) cs w') ∧ Rel φ' A1 w' ∧ Runs φ A w φ' A1 w' ∧ FR φ' A1 w' ns tm1 [] a') → ∃ tm' A', Q tm' A' ∧ Comes1 P ns (it :: k) tm A tm' A' := fun h hs => by
      obtain ⟨tm', A', h1, todo', j, h2, h3, h4⟩ := Wn_run hc hm n k _ _ hk h
      refine ⟨tm', A', h1, todo', j, h2, h3, fun φ w a b cs hb hro hR hF => ?_⟩
      obtain ⟨φ1, w1, a1, q1, q2, q3, q4⟩ := hs φ w a b cs hb hro hR hF
      obtain ⟨φ2, w2, a2, q5, q6, q7, q8⟩ := h4 φ1 w1 a1 b cs hb hro q2 q4
      exact ⟨φ2, w2, a2, q1.trans q5, q6, q3.trans q7, q8⟩
    cases it with
    | code cd =>
      cases cd with
      | ret => exact ⟨tm, A, h, .code .ret :: k, some .ret, .inr (.inl ⟨k, rfl, rfl⟩), .inr rfl, fun φ w a b cs _ _ hR hF => ⟨φ, w, a, .refl _ _, hR, Runs.refl _ _ _, hF⟩⟩
      | skip => exact go hk h fun φ w a b cs _ _ => stepR_skip
      | label l => exact go hk h fun φ w a b cs _ _ => stepR_label
      | seq x y => exact go (by simp only [itemOk, codeOk, Bool.and_eq_true] at hit; simp [itemOk, hit, hk]) h fun φ w a b cs _ _ => stepR_seq
      | cond q x y =>
        simp only [Wn] at h
        simp only [itemOk, codeOk, Bool.and_eq_true] at hit
        split at h
        · rename_i t ht
          have : Wn P ns n (.code (if t then x else y) :: k) tm A Q := by cases t <;> exact h
          refine go (by cases t <;> simp [itemOk, hit, hk]) this fun φ w a b cs _ hF => ?_
          have h1 := ev_RV hF.tmr hit.1
          rw [ht] at h1
          exact stepR_cond (RV_bool.1 h1)
        · exact h.elim
      | block id x => exact go (by simp only [itemOk, codeOk] at hit; simp [itemOk, hit, hk]) h fun φ w a b cs _ _ => stepR_block
      | loop x => exact go (by simp only [itemOk, codeOk] at hit; simp [itemOk, hit, hk]) h fun φ w a b cs _ _ => stepR_loop
      | scope x => exact go (by simp only [itemOk, codeOk] at hit; simp [itemOk, hit, hk]) h fun φ w a b cs _ _ => stepR_scope
      | exit id =>
        simp only [Wn] at h
        split at h
        · rename_i hx
          exact go (exitTo_ok hk hx) h fun φ w a b cs _ _ => stepR_exit hx
        · exact h.elim
      | goto l =>
        simp only [Wn] at h
        split at h
        · rename_i hx
          exact go (gotoIn_ok hk hx) h fun φ w a b cs _ _ => stepR_goto hx
        · exact h.elim
      | region idr ops draw =>
        simp only [Wn] at h
        cases draw with
        | true =>
          rw [if_pos rfl] at h
          obtain ⟨rcs, tm1, A1, h1, h2, h3⟩ := h
          exact reg h2 fun φ w a b cs hb hro hR hF => draw_run hc h1 hm hb hR hF (by rw [hro]; exact h3 φ w a hR hF)
        | false =>
          rw [if_neg (by simp)] at h
          obtain ⟨rcs, tm1, A1, h1, h2, h3, _⟩ := wOps_ev hc hit (tail := []) ops.toList 0 tm A _ (by simp) h
          refine reg h2 fun φ w a b cs hb hro hR hF => ?_
          obtain ⟨φ', w', a', q1, q2⟩ := h3 φ w a b cs k hb hro hR hF
          refine ⟨φ', w', a', .head stepR_region ?_, q2⟩
          rw [List.range_eq_range']
          simpa using q1
      | rangeFunc g ps x y => exact h.elim
      | refuse s => exact h.elim
    | inBlock id => exact go hk h fun φ w a b cs _ _ => stepR_inBlock
    | inScope x => exact go hk h fun φ w a b cs _ _ => stepR_inScope
    | inLoop x => exact go (by simp only [itemOk] at hit; simp [itemOk, hit, hk]) h fun φ w a b cs _ _ => stepR_inLoop
    | _ => exact h.elim
theorem wSome_ex {F : Nat → Value → AS → Prop} {r : Option (Value × AS)} (h : wSome r fun v A => ∃ n, F n v A) : ∃ n, wSome r (F n) := by
  obtain ⟨v, A', h1, n, h2⟩ := wSome_some h
  exact ⟨n, by rw [h1]; exact h2⟩
theorem wOp_ex {F : Nat → Value → AS → Prop} {tm : Trie Value} {o : Oper} (h : wOp P tm o A fun v A => ∃ n, F n v A) : ∃ n, wOp P tm o A (F n) := by
  unfold wOp at h ⊢
  split at h
  · split at h
    · unfold wCall at h ⊢
      split at h
      · obtain ⟨v, A', h1, n, h2⟩ := h
        exact ⟨n, v, A', h1, h2⟩
      · exact h.elim
    · split at h
      · exact h.elim
      · rename_i hr
        obtain ⟨n, hn⟩ := wSome_ex h
        exact ⟨n, by rw [if_neg hr]; exact hn⟩
    · exact h.elim
  · exact h.elim
  · exact wSome_ex h
theorem wOp_mono {F G : Value → AS → Prop} (hFG : ∀ v A, F v A → G v A) {tm : Trie Value} {o : Oper} (h : wOp P tm o A F) : wOp P tm o A G := by
  have s : ∀ {r : Option (Value × AS)}, wSome r F → wSome r G := fun h => by
    obtain ⟨v, A', h1, h2⟩ := wSome_some h
    rw [h1]; exact hFG _ _ h2
  unfold wOp at h ⊢
  split at h
  · split at h
    · unfold wCall at h ⊢
      split at h
      · obtain ⟨v, A', h1, h2⟩ := h
        exact ⟨v, A', h1, hFG _ _ h2⟩
      · exact h.elim
    · split at h
      · exact h.elim
      · rename_i hr
        rw [if_neg hr]; exact s h
    · exact h.elim
  · exact h.elim
  · exact s h
theorem wOps_mono {ns : Nat} {ops : List Oper} {F G : Trie Value → AS → Prop} (hFG : ∀ v A, F v A → G v A) : ∀ (rest : List Oper) (tm : Trie Value) (A : AS), wOps P ns ops rest tm A F → wOps P ns ops rest tm A G
  | [], tm, A, h => hFG _ _ h
  | o :: rest, tm, A, h => by
    simp only [wOps] at h ⊢
    cases hw : wants tm ops o with
    | true => rw [hw, wIf_true] at h; rw [wIf_true]; exact wOp_mono (fun v A' h => wOps_mono hFG rest _ _ h) h
    | false => rw [hw, wIf_false] at h; rw [wIf_false]; exact wOps_mono hFG rest _ _ h
theorem wOps_ex {ns : Nat} {ops : List Oper} {F : Nat → Trie Value → AS → Prop} : ∀ (rest : List Oper) (tm : Trie Value) (A : AS), wOps P ns ops rest tm A (fun tm A => ∃ n, F n tm A) → ∃ n, wOps P ns ops rest tm A (F n)
  | [], tm, A, h => h
  | o :: rest, tm, A, h => by
    simp only [wOps] at h ⊢
    cases hw : wants tm ops o with
    | true =>
      rw [hw, wIf_true] at h
      simp only [wIf_true]
      exact wOp_ex (wOp_mono (fun v A' h => wOps_ex rest _ _ h) h)
    | false =>
      rw [hw, wIf_false] at h
      simp only [wIf_false]
      exact wOps_ex rest _ _ h
theorem wKeep_mono {c b : Bool} {A A' : AS} {X Y : Prop} (h : X → Y) (hx : wKeep c b A A' X) : wKeep c b A A' Y := by
  cases b with
  | true => exact ⟨hx.1, h hx.2⟩
  | false => exact h hx
theorem wOpsF_mono {c : Bool} {ns : Nat} {ops : List Oper} {F G : Trie Value → AS → Prop} (hFG : ∀ v A, F v A → G v A) : ∀ (rest : List Oper) (tm : Trie Value) (A : AS), wOpsF P c ns ops rest tm A F → wOpsF P c ns ops rest tm A G
  | [], tm, A, h => hFG _ _ h
  | o :: rest, tm, A, h => by
    simp only [wOpsF] at h ⊢
    cases hw : wants tm ops o with
    | true => rw [hw, wIf_true] at h; rw [wIf_true]; exact wOp_mono (fun v A' h => wKeep_mono (wOpsF_mono hFG rest _ _) h) h
    | false => rw [hw, wIf_false] at h; rw [wIf_false]; exact wOpsF_mono hFG rest _ _ h
theorem wOpsF_wOps {c : Bool} {ns : Nat} {ops : List Oper} {F : Trie Value → AS → Prop} : ∀ (rest : List Oper) (tm : Trie Value) (A : AS), wOpsF P c ns ops rest tm A F → wOps P ns ops rest tm A F
  | [], tm, A, h => h
  | o :: rest, tm, A, h => by
    simp only [wOpsF] at h
    simp only [wOps]
    cases hw : wants tm ops o with
    | true =>
      rw [hw, wIf_true] at h; rw [wIf_true]
      refine wOp_mono (fun v A' h => ?_) h
      cases hf : isFn o with
      | true => rw [hf] at h; exact wOpsF_wOps rest _ _ h.2
      | false => rw [hf] at h; exact wOpsF_wOps rest _ _ h
    | false => rw [hw, wIf_false] at h; rw [wIf_false]; exact wOpsF_wOps rest _ _ h
theorem wOps_wOpsF {ns : Nat} {ops : List Oper} {F : Trie Value → AS → Prop} : ∀ (rest : List Oper) (tm : Trie Value) (A : AS), wOps P ns ops rest tm A F → wOpsF P false ns ops rest tm A F
  | [], tm, A, h => h
  | o :: rest, tm, A, h => by
    simp only [wOps] at h
    simp only [wOpsF]
    cases hw : wants tm ops o with
    | true =>
      rw [hw, wIf_true] at h; rw [wIf_true]
      refine wOp_mono (fun v A' h => ?_) h
      cases hf : isFn o with
      | true => exact ⟨fun e => by simp at e, wOps_wOpsF rest _ _ h⟩
      | false => exact wOps_wOpsF rest _ _ h
    | false => rw [hw, wIf_false] at h; rw [wIf_false]; exact wOps_wOpsF rest _ _ h
theorem wOpsF_false {ns : Nat} {ops rest : List Oper} {tm : Trie Value} {A : AS} {F : Trie Value → AS → Prop} : wOpsF P false ns ops rest tm A F = wOps P ns ops rest tm A F := propext ⟨wOpsF_wOps rest tm A, wOps_wOpsF rest tm A⟩
def W (P : Program) (ns : Nat) (todo : List Item) (tm : Trie Value) (A : AS) (Q : Trie Value → AS → Prop) : Prop := ∃ n, Wn P ns n todo tm A Q
section rules
variable {ns : Nat} {k : List Item} {tm : Trie Value} {Q : Trie Value → AS → Prop}
theorem W_step {todo todo' : List Item} (h : ∀ n, Wn P ns (n + 1) todo tm A Q = Wn P ns n todo' tm A Q) : W P ns todo tm A Q = W P ns todo' tm A Q := by
  apply propext
  constructor
  · rintro ⟨n, hn⟩
    cases n with
    | zero => exact hn.elim
    | succ n => exact ⟨n, by rw [← h]; exact hn⟩
  · rintro ⟨n, hn⟩
    exact ⟨n + 1, by rw [h]; exact hn⟩
theorem W_end {todo : List Item} (h : ∀ n, Wn P ns (n + 1) todo tm A Q = Q tm A) : W P ns todo tm A Q = Q tm A := by
  apply propext
  constructor
  · rintro ⟨n, hn⟩
    cases n with
    | zero => exact hn.elim
    | succ n => rw [← h n]; exact hn
  · exact fun hq => ⟨1, by rw [h]; exact hq⟩
theorem W_nil : W P ns [] tm A Q = Q tm A := W_end fun _ => rfl
theorem W_ret : W P ns (.code .ret :: k) tm A Q = Q tm A := W_end fun _ => rfl
theorem W_skip : W P ns (.code .skip :: k) tm A Q = W P ns k tm A Q := W_step fun _ => rfl
theorem W_label {l : Nat} : W P ns (.code (.label l) :: k) tm A Q = W P ns k tm A Q := W_step fun _ => rfl
theorem W_seq {a b : Code} : W P ns (.code (.seq a b) :: k) tm A Q = W P ns (.code a :: .code b :: k) tm A Q := W_step fun _ => rfl
theorem W_block {id : Nat} {b : Code} : W P ns (.code (.block id b) :: k) tm A Q = W P ns (.code b :: .inBlock id :: k) tm A Q := W_step fun _ => rfl
theorem W_loop {b : Code} : W P ns (.code (.loop b) :: k) tm A Q = W P ns (.inLoop b :: k) tm A Q := (W_step (todo' := .code b :: .inLoop b :: k) fun _ => rfl).trans (W_step fun _ => rfl).symm
theorem W_inLoop {b : Code} : W P ns (.inLoop b :: k) tm A Q = W P ns (.code b :: .inLoop b :: k) tm A Q := W_step fun _ => rfl
theorem W_scope {b : Code} : W P ns (.code (.scope b) :: k) tm A Q = W P ns (.code b :: .inScope b :: k) tm A Q := W_step fun _ => rfl
theorem W_inBlock {id : Nat} : W P ns (.inBlock id :: k) tm A Q = W P ns k tm A Q := W_step fun _ => rfl
theorem W_inScope {b : Code} : W P ns (.inScope b :: k) tm A Q = W P ns k tm A Q := W_step fun _ => rfl
theorem W_exit_block {e i : Nat} : W P ns (.code (.exit e) :: .inBlock i :: k) tm A Q = if i = e then W P ns k tm A Q else W P ns (.code (.exit e) :: k) tm A Q := by
  split
  · rename_i h
    subst h
    exact W_step fun n => by simp [Wn, exitTo]
  · rename_i h
    have : exitTo e (.inBlock i :: k) = exitTo e k := by simp [exitTo, h]
    unfold W
    congr 1
    funext n
    cases n with
    | zero => rfl
    | succ n => simp only [Wn]; rw [this]
theorem W_exit_skip {e : Nat} {it : Item} (h : ∀ k, exitTo e (it :: k) = exitTo e k) : W P ns (.code (.exit e) :: it :: k) tm A Q = W P ns (.code (.exit e) :: k) tm A Q := by
  unfold W
  congr 1
  funext n
  cases n with
  | zero => rfl
  | succ n => simp only [Wn]; rw [h]
theorem W_exit_code {e : Nat} {c : Code} : W P ns (.code (.exit e) :: .code c :: k) tm A Q = W P ns (.code (.exit e) :: k) tm A Q := W_exit_skip fun _ => rfl
theorem W_exit_loop {e : Nat} {c : Code} : W P ns (.code (.exit e) :: .inLoop c :: k) tm A Q = W P ns (.code (.exit e) :: k) tm A Q := W_exit_skip fun _ => rfl
theorem W_exit_scope {e : Nat} {c : Code} : W P ns (.code (.exit e) :: .inScope c :: k) tm A Q = W P ns (.code (.exit e) :: k) tm A Q := W_exit_skip fun _ => rfl
theorem W_goto {l : Nat} {k' : List Item} (h : gotoIn l k = some k') : W P ns (.code (.goto l) :: k) tm A Q = W P ns k' tm A Q := W_step fun n => by simp only [Wn]; rw [h]
def wCond (P : Program) (ns : Nat) (v : Value) (a b : Code) (k : List Item) (tm : Trie Value) (A : AS) (Q : Trie Value → AS → Prop) : Prop :=
  match v with
  | .bool t => wIf t (W P ns (.code a :: k) tm A Q) (W P ns (.code b :: k) tm A Q)
  | _ => False
theorem W_cond {q : Operand} {a b : Code} : W P ns (.code (.cond q a b) :: k) tm A Q = wCond P ns (ev tm q) a b k tm A Q := by
  unfold wCond
  cases hv : ev tm q with
  | bool t =>
    simp only
    cases t with
    | true => exact W_step fun n => by simp only [Wn]; rw [hv]; rfl
    | false => exact W_step fun n => by simp only [Wn]; rw [hv]; rfl
  | _ =>
    apply propext
    refine ⟨?_, fun h => h.elim⟩
    rintro ⟨n, hn⟩
    cases n with
    | zero => exact hn
    | succ n => simp only [Wn] at hn; rw [hv] at hn; exact hn
theorem W_region {idr : Nat} {ops : Array Oper} : W P ns (.code (.region idr ops false) :: k) tm A Q = wOps P ns ops.toList ops.toList tm A fun tm' A' => W P ns k tm' A' Q := by
  apply propext
  constructor
  · rintro ⟨n, hn⟩
    cases n with
    | zero => exact hn.elim
    | succ n => exact wOps_mono (fun tm' A' h => ⟨n, h⟩) _ _ _ hn
  · intro h
    obtain ⟨n, hn⟩ := wOps_ex _ _ _ h
    exact ⟨n + 1, hn⟩
theorem W_draw {idr : Nat} {ops : Array Oper} : W P ns (.code (.region idr ops true) :: k) tm A Q = wDraw P ns ops.toList tm A fun tm' A' => W P ns k tm' A' Q := by
  apply propext
  constructor
  · rintro ⟨n, hn⟩
    cases n with
    | zero => exact hn.elim
    | succ n =>
      obtain ⟨rcs, tm', A', h1, h2, h3⟩ := hn
      exact ⟨rcs, tm', A', h1, ⟨n, h2⟩, h3⟩
  · rintro ⟨rcs, tm', A', h1, ⟨n, h2⟩, h3⟩
    exact ⟨n + 1, rcs, tm', A', h1, h2, h3⟩
end rules
theorem aresults_vok (hR : Rel φ A w) {tm : Trie Value} (hk : ∀ t, vok A.ok (tget tm t) = true) : ∀ (rs : List ResultVar) (vs : List Value), aresults P tm A rs = some vs → vokL A.ok vs = true
  | [], vs, h => by simp only [aresults, Option.some.injEq] at h; subst h; rfl
  | r :: rs, vs, h => by
    unfold aresults at h
    split at h
    · rename_i v hv
      obtain ⟨vs', h1, rfl⟩ := Option.map_eq_some_iff.1 h
      simp only [vokL, Bool.and_eq_true]
      refine ⟨?_, aresults_vok hR hk rs vs' h1⟩
      cases r with
      | tmp t => simp only [aresult, Option.some.injEq] at hv; subst hv; exact hk t
      | cell a t => exact aload_vok hR (hk a) hv
    · cases h
theorem tupleOf_vok {ok : Nat → Bool} {vs : List Value} (h : vokL ok vs = true) : vok ok (tupleOf vs) = true := by
  unfold tupleOf
  split
  · simpa [vokL] using h
  · exact h
def CallsW (P : Program) (f : FuncId) (args : List Value) (A : AS) (v : Value) (A' : AS) : Prop :=
  (∃ fn, P.funcs[f]? = some fn ∧ fn.body.isSome = true) ∧ ∀ (φ : Rn) (w : World) (Vs : List Value), Rel φ A w → vokL A.ok args = true → RVL φ w args Vs → ∀ (d : Bool) (cs : List Frame), (d = true → ∃ c cs', cs = c :: cs' ∧ c.mode = .returning) →
    ∃ φ' w' V fr, Steps P (lone (Frame.enter P f Vs.toArray (if d then .deferred else .normal)) cs w) (lone fr cs w') ∧ fr.mode = .returning ∧ fr.defers = [] ∧ fr.kind = (if d then .deferred else .normal) ∧ fr.fn = f ∧
      (∃ fn, P.funcs[fr.fn]? = some fn ∧ (results fn fr.tmps).run P w' = .ok V w') ∧ RV φ' w' v V ∧ Rel φ' A' w' ∧ Runs φ A w φ' A' w' ∧ vok A'.ok v = true
theorem fn_calls (hc : CfgOK P cfg0) (hm : P.follows .mixedOrders = true) {f : FuncId} {fn : Func} {body : Code} {args : List Value} {R : Value → AS → Prop} (hfn : P.funcs[f]? = some fn) (hbody : fn.body = some body) (h1 : args.length ≤ fn.ntmps) (h2 : fn.ntmps < 65535) (hok : codeOk body = true)
    (h : W P fn.ntmps [.code body] (setArgs args 0 .nil) A fun tm A' => ∃ vs, aresults P tm A' fn.results.toList = some vs ∧ R (tupleOf vs) A') : ∃ v A', R v A' ∧ CallsW P f args A v A' := by
  obtain ⟨n, hn⟩ := h
  obtain ⟨tm', A', ⟨vs, hvs, hR⟩, todo', j, he, hj, hrun⟩ := Wn_run hc hm n _ _ _ (by simpa [itemOk] using hok) hn
  refine ⟨tupleOf vs, A', hR, ⟨fn, hfn, by rw [hbody]; rfl⟩, fun φ w Vs hRel hk hV d cs hd => ?_⟩
  have hF := enter_FR (k := if d then CallKind.deferred else .normal) hfn hk hV h1 h2
  have hb : CtxOK (Frame.enter P f Vs.toArray (if d then CallKind.deferred else .normal)) cs := by
    cases d with
    | false => exact .inl rfl
    | true => obtain ⟨c, cs', e1, e2⟩ := hd rfl; exact .inr ⟨rfl, rfl, c, cs', e1, e2⟩
  obtain ⟨φ1, w1, a1, q1, q2, q3, q4⟩ := hrun φ w _ (Frame.enter P f Vs.toArray (if d then CallKind.deferred else .normal)) cs hb rfl hRel hF
  have hent : (Frame.enter P f Vs.toArray (if d then CallKind.deferred else .normal)).atR ⟨(Frame.enter P f Vs.toArray (if d then CallKind.deferred else .normal)).tmps, []⟩ [.code body] = Frame.enter P f Vs.toArray (if d then CallKind.deferred else .normal) := by
    simp [Frame.enter, Frame.atR, hfn, hbody]
  rw [hent] at q1
  have hret : step P (lone ((Frame.enter P f Vs.toArray (if d then CallKind.deferred else .normal)).atR a1 todo') cs w1) = .next (lone { (Frame.enter P f Vs.toArray (if d then CallKind.deferred else .normal)).atR a1 todo' with mode := .returning } cs w1) := by
    rcases he with ⟨rfl, rfl⟩ | ⟨k, rfl, rfl⟩ | ⟨e, k, rfl, rfl, _⟩ | ⟨e, k, rfl, rfl, _⟩
    · exact stepR_end rfl
    · exact stepR_ret rfl
    · simp at hj
    · simp at hj
  have htk : ∀ t, vok A'.ok (tget tm' t) = true := fun t => by
    unfold tget
    cases ht : tm'.get t with
    | none => rfl
    | some v => exact Trie.all_get q4.tok ht
  obtain ⟨V, h10, h11⟩ := results_run (fn := fn) q2 q4.tmr.2.1 htk hvs
  refine ⟨φ1, w1, V, _, Steps.trans q1 (.one hret), rfl, q4.dsr, rfl, rfl, ⟨fn, hfn, h10⟩, h11, q2, q3, tupleOf_vok (aresults_vok q2 htk _ _ hvs)⟩
theorem CallsW.does {f : FuncId} {args : List Value} {v : Value} {d : Bool} (h : CallsW P f args A v A') (hv : vok A'.ok v = true) : Does P (.call f args d) A v A' := by
  refine ⟨hv, h.1, fun φ w Vs hR hk hV c cs hd => ?_⟩
  obtain ⟨φ', w', V, fr, h1, h2, h3, h4, h5, ⟨fn, h6, h7⟩, h8, h9, h10, _⟩ := h.2 φ w Vs hR hk hV d (c :: cs) fun e => ⟨c, cs, rfl, hd e⟩
  refine ⟨φ', w', V, Steps.trans h1 (.one ?_), h8, h9, h10⟩
  cases d with
  | false => exact step_leave_returned ⟨h2, h3, h4, fn, h6, h7⟩
  | true =>
    have := step_going_returned (P := P) (fr := fr) (c := c) (cs := cs) (w := w') (v := V) h4 ⟨h2, h3, fn, h6, h7⟩
    have hs : settle c.mode = c.mode := by rw [hd rfl]; rfl
    rw [hs] at this
    exact this
end Go.Ev
namespace Go.Ev
open Go
variable {P : Program} {A A' : AS} {φ φ' : Rn} {w w' : World} {a : Act} {b : Frame} {cs : List Frame}
def frN (n : Nat) : Bool := n == rowN || n == ptrN
def clean (v : Value) : Bool := vok frN v
def cleanL (l : List Value) : Bool := vokL frN l
mutual
inductive Frz (A : AS) : Value → Value → Prop where
  | clean {v : Value} : clean v = true → Frz A v v
  | nil : Frz A (.slice none 0 0) (frow 0 [])
  | row {a : Addr} {len cap k : Nat} {l l' : List Value} : a.spot = none → cellsAt A a.block a.off k = some l → FrzL A l l' → len ≤ (if cap < big then cap else cap - big) → Frz A (.slice (some a) len cap) (frow len l')
  | agg {l l' : List Value} : FrzL A l l' → Frz A (.agg ⟨l⟩) (.agg ⟨l'⟩)
  | tuple {l l' : List Value} : FrzL A l l' → Frz A (.tuple ⟨l⟩) (.tuple ⟨l'⟩)
inductive FrzL (A : AS) : List Value → List Value → Prop where
  | clean {l : List Value} : cleanL l = true → FrzL A l l
  | cons {v v' : Value} {l l' : List Value} : Frz A v v' → FrzL A l l' → FrzL A (v :: l) (v' :: l')
end
theorem clean_frow {n : Nat} {l : List Value} (h : cleanL l = true) : clean (frow n l) = true := by
  unfold clean frow
  simp only [vok, vokA, vokL, Bool.and_eq_true]
  exact ⟨by decide, h, by decide⟩
mutual
theorem Frz.cleans : ∀ {v v' : Value}, Frz A v v' → Ev.clean v' = true
  | _, _, .clean h => h
  | _, _, .nil => clean_frow rfl
  | _, _, .row _ _ h _ => clean_frow h.cleans
  | _, _, .agg h => by show vok frN _ = true; simp only [vok, vokA]; exact h.cleans
  | _, _, .tuple h => by show vok frN _ = true; simp only [vok, vokA]; exact h.cleans
theorem FrzL.cleans : ∀ {l l' : List Value}, FrzL A l l' → cleanL l' = true
  | _, _, .clean h => h
  | _, _, .cons h k => by
    show vokL frN _ = true
    simp only [vokL, Bool.and_eq_true]
    exact ⟨h.cleans, k.cleans⟩
end
theorem frN_big {n : Nat} (h : frN n = true) : big ≤ n := by
  unfold frN at h
  simp only [Bool.or_eq_true, beq_iff_eq] at h
  rcases h with rfl | rfl <;> decide
theorem clean_ok {v : Value} (h : clean v = true) : vok A.ok v = true := vok_mono (fun n hn => by rw [AS.ok_iff]; exact .inr (frN_big hn)) v h
theorem cleanL_ok {l : List Value} (h : cleanL l = true) : vokL A.ok l = true := vokL_mono (fun n hn => by rw [AS.ok_iff]; exact .inr (frN_big hn)) l h
def frzAll (φ : Rn) (A : AS) (ψ : Rn) : Rn := ⟨ψ.b, ψ.x, fun b => ψ.F b ∨ φ.F b ∨ ∃ n ab, A.h.get n = some ab ∧ ab.live = true ∧ φ.b n = b⟩
theorem cellsAt_row (hR : Rel φ A w) (hp : A.pend = []) {n off k : Nat} {l : List Value} (h : cellsAt A n off k = some l) :
    ∃ (c : Array Value) (e : TypeId) (fz : Nat × Nat) (C : List Value), w.heap[φ.b n]? = some (.cells c e fz) ∧ RVL φ w l C ∧ (∃ ab, A.h.get n = some ab ∧ ab.live = true) ∧ ∀ i, i < C.length → c[off + i]? = C[i]? := by
  have fin : ∀ {cs : List Value} {c : Array Value} {m : Nat}, RVL φ w cs (c.toList.take m) → (if off + k ≤ cs.length then some ((cs.drop off).take k) else none) = some l → ∃ C : List Value, RVL φ w l C ∧ ∀ i, i < C.length → c[off + i]? = C[i]? := fun {cs c m} h1 h2 => by
    split at h2
    · rename_i hle
      simp only [Option.some.injEq] at h2
      subst h2
      refine ⟨_, (h1.drop off).take k, fun i hi => ?_⟩
      rw [List.getElem?_take]
      simp only [List.length_take, List.length_drop, Array.length_toList] at hi
      rw [if_pos (by omega), List.getElem?_drop, List.getElem?_take, if_pos (by omega), Array.getElem?_toList]
    · cases h2
  unfold cellsAt at h
  split at h
  · rename_i cs e fz hg
    obtain ⟨c, h1, h2⟩ := hR.obj n _ hg (by rw [hp]; simp)
    obtain ⟨C, h3, h4⟩ := fin (m := c.toList.length) (by rw [List.take_length]; exact h2) h
    exact ⟨c, e, fz, C, h1, h3, ⟨_, hg, rfl⟩, h4⟩
  · rename_i cs e s hg
    obtain ⟨c, h1, h2, _⟩ := hR.obj n _ hg (by rw [hp]; simp)
    obtain ⟨C, h3, h4⟩ := fin h2 h
    exact ⟨c, e, (0, 0), C, h1, h3, ⟨_, hg, rfl⟩, h4⟩
  · cases h
mutual
theorem Frz.rv {ψ : Rn} (hR : Rel φ A w) (hp : A.pend = []) (hψ : ∀ n, frN n = true → ψ.b n = φ.b n ∧ ψ.x n = φ.x n) : ∀ {v v' V : Value}, Frz A v v' → RV φ w v V → RV (frzAll φ A ψ) w v' V
  | _, _, V, .clean h, hV => RV.ext (ok := frN) (ψ := frzAll φ A ψ) ⟨hψ, fun b hb => .inr (.inl hb), fun _ _ => rfl⟩ _ V h hV
  | _, _, V, .nil, hV => by
    have hV : V = .slice none 0 0 := hV
    subst hV
    simp only [frow, RV]
    refine ⟨#[], #[.int .i64 0], rfl, ⟨_, _, rfl, rfl, rfl⟩, ?_⟩
    simp only [funRel, if_true]
    exact .inl ⟨rfl, rfl, rfl⟩
  | _, _, V, .row (a := a) (len := len) (cap := cap) hs hc hl hle, hV => by
    have hV : V = .slice (some (renA φ a)) len (renCap φ a.block cap) := hV
    subst hV
    obtain ⟨c, e, fz, C, h1, h2, ⟨ab, h3, h4⟩, h5⟩ := cellsAt_row hR hp hc
    simp only [frow, RV]
    refine ⟨C.toArray, #[.int .i64 len], ?_, ⟨_, _, rfl, rfl, rfl⟩, ?_⟩
    · simp only [RVA]; exact hl.rv hR hp hψ h2
    · simp only [funRel, if_true]
      refine .inr ⟨renA φ a, renCap φ a.block cap, by simp [lenOf], ?_, .inl ⟨hs, .inr (.inr ⟨_, ab, h3, h4, rfl⟩), c, e, fz, h1, fun i hi => by have := h5 i (by simpa using hi); simpa [renA] using this⟩⟩
      simp only [lenOf, Int.toNat_natCast]
      unfold renCap
      split at hle
      · rename_i hc; rw [if_pos hc]; exact hle
      · rename_i hc; rw [if_neg hc]; omega
  | _, _, V, .agg hl, hV => by
    simp only [RV] at hV ⊢
    obtain ⟨C, h1, h2⟩ := hV
    exact ⟨C, h1, by simp only [RVA] at h2 ⊢; exact hl.rv hR hp hψ h2⟩
  | _, _, V, .tuple hl, hV => by
    simp only [RV] at hV ⊢
    obtain ⟨C, h1, h2⟩ := hV
    exact ⟨C, h1, by simp only [RVA] at h2 ⊢; exact hl.rv hR hp hψ h2⟩
theorem FrzL.rv {ψ : Rn} (hR : Rel φ A w) (hp : A.pend = []) (hψ : ∀ n, frN n = true → ψ.b n = φ.b n ∧ ψ.x n = φ.x n) : ∀ {l l' L : List Value}, FrzL A l l' → RVL φ w l L → RVL (frzAll φ A ψ) w l' L
  | _, _, L, .clean h, hV => RVL.ext (ok := frN) (ψ := frzAll φ A ψ) ⟨hψ, fun b hb => .inr (.inl hb), fun _ _ => rfl⟩ _ L h hV
  | _, _, L, .cons h k, hV => by
    obtain ⟨V, M, rfl, h1, h2⟩ := hV
    exact ⟨V, M, rfl, h.rv hR hp hψ h1, k.rv hR hp hψ h2⟩
end
def A0 : AS := ⟨.nil, 0, []⟩
theorem Rel.empty (hR : Rel φ A w) : Rel φ A0 w where
  obj n ab h := by simp [A0, Trie.get] at h
  lt n ab h := by simp [A0, Trie.get] at h
  inj n m a b h := by simp [A0, Trie.get] at h
  wf n ab h := by simp [A0, Trie.get] at h
  fro b hb := ⟨(hR.fro b hb).1, fun n ab h => by simp [A0, Trie.get] at h⟩
  room := by decide
def Fn (P : Program) (f : FuncId) (args : List Value) (v : Value) : Prop := ∀ (d : Bool) (A : AS), Does P (.call f args d) A v A
theorem Rel.around {φ1 : Rn} (hF1 : φ1.F = φ.F) (hR : Rel φ A w) (hR' : Rel φ' A' w') (hr : Runs φ1 A0 w φ' A' w') : Rel (frzAll φ' A' φ) A w' ∧ Runs φ A w (frzAll φ' A' φ) A w' := by
  have hsame : ∀ b, b < w.heap.size → w'.heap[b]? = w.heap[b]? := fun b hb => hr.keep b hb fun n ab h => by simp [A0, Trie.get] at h
  have hold : ∀ b, (frzAll φ' A' φ).F b → φ.F b ∨ w.heap.size ≤ b := fun b hb => by
    rcases hb with h | h | ⟨n, ab, h1, h2, h3⟩
    · exact .inl h
    · rcases hr.new b h with h4 | h4 | ⟨m, ab, h4, _⟩
      · exact .inl (by rw [← hF1]; exact h4)
      · exact .inr h4
      · simp [A0, Trie.get] at h4
    · rcases hr.img n ab h1 h2 (by simp [A0]) with h4 | ⟨m, c, h4, _⟩
      · exact .inr (by omega)
      · simp [A0, Trie.get] at h4
  have ext : Ext A.ok φ w (frzAll φ' A' φ) w' := ⟨fun _ _ => ⟨rfl, rfl⟩, fun _ h => .inl h, fun b hb => hsame b (hR.fro b hb).1⟩
  constructor
  · refine ⟨fun n ab h1 h2 => ?_, hR.lt, hR.inj, hR.wf, fun b hb => ⟨?_, fun n ab h1 h2 h3 e => ?_⟩, hR.room⟩
    · cases hl : ab.live with
      | false => exact ABRel.dead_of hl
      | true =>
        show ABRel (frzAll φ' A' φ) w' (φ.x n) ab w'.heap[φ.b n]?
        rw [hsame _ (hR.lt_heap h1 hl h2)]
        exact (hR.obj n ab h1 h2).ext ext (hR.wf n ab h1 h2)
    · rcases hb with h | h | ⟨n, ab, h1, h2, h3⟩
      · exact Nat.lt_of_lt_of_le (hR.fro b h).1 hr.size
      · exact (hR'.fro b h).1
      · rw [← h3]
        exact hR'.lt_heap h1 h2 (by rw [hr.pend]; simp [A0])
    · have e : φ.b n = b := e
      rcases hold b hb with h | h
      · exact (hR.fro b h).2 n ab h1 h2 h3 e
      · have := hR.lt_heap h1 h2 h3; omega
  · refine ⟨fun _ _ => ⟨rfl, rfl⟩, Nat.le_refl _, rfl, hr.size, fun b hb _ => hsame b hb, fun n ab h1 h2 h3 => .inr ⟨n, ab, h1, h2, h3, rfl⟩, fun _ _ => rfl, fun _ h => .inl h, fun b hb => ?_, hr.os, hr.tape, hr.out⟩
    rcases hold b hb with h | h
    · exact .inl h
    · exact .inr (.inl h)
theorem Fn.ofAlt {f : FuncId} {args : List Value} {v' : Value} (hcl : clean v' = true) (hf : ∃ fn, P.funcs[f]? = some fn ∧ fn.body.isSome = true)
    (h : ∀ (φ : Rn) (w : World) (Vs : List Value), RVL φ w args Vs → ∃ (φ1 : Rn) (args1 : List Value) (v : Value) (A' : AS), φ1.F = φ.F ∧ (∀ n, frN n = true → φ1.b n = φ.b n ∧ φ1.x n = φ.x n) ∧ vokL A0.ok args1 = true ∧ RVL φ1 w args1 Vs ∧ CallsW P f args1 A0 v A' ∧ Frz A' v v') : Fn P f args v' := by
  intro d A
  refine ⟨clean_ok hcl, hf, fun φ w Vs hR hk hV c cs hd => ?_⟩
  obtain ⟨φ1, args1, v, A', hF, hag, hk1, hV1, hcalls, hv⟩ := h φ w Vs hV
  have hE : Rel φ1 A0 w := { hR.empty with fro := fun b hb => ⟨(hR.empty.fro b (by rw [← hF]; exact hb)).1, fun n ab h => by simp [A0, Trie.get] at h⟩, obj := fun n ab h => by simp [A0, Trie.get] at h, inj := fun n m a b h => by simp [A0, Trie.get] at h }
  obtain ⟨φ', w', V, fr, h1, h2, h3, h4, h5, ⟨fn, h6, h7⟩, h8, h9, h10, _⟩ := hcalls.2 φ1 w Vs hE hk1 hV1 d (c :: cs) fun e => ⟨c, cs, rfl, hd e⟩
  obtain ⟨q1, q2⟩ := Rel.around hF hR h9 h10
  have hpd : A'.pend = [] := h10.pend
  refine ⟨_, w', V, Steps.trans h1 (.one ?_), hv.rv h9 hpd (fun n hn => by
    have := h10.agree n (.inr (frN_big hn))
    have h13 := hag n hn
    exact ⟨(this.1.trans h13.1).symm, (this.2.trans h13.2).symm⟩) h8, q1, q2⟩
  cases d with
  | false => exact step_leave_returned ⟨h2, h3, h4, fn, h6, h7⟩
  | true =>
    have := step_going_returned (P := P) (fr := fr) (c := c) (cs := cs) (w := w') (v := V) h4 ⟨h2, h3, fn, h6, h7⟩
    have hs : settle c.mode = c.mode := by rw [hd rfl]; rfl
    rw [hs] at this
    exact this
theorem Fn.of {f : FuncId} {args : List Value} {v v' : Value} (h : CallsW P f args A0 v A') (hargs : cleanL args = true) (hv : Frz A' v v') : Fn P f args v' := by
  intro d A
  refine ⟨clean_ok hv.cleans, h.1, fun φ w Vs hR hk hV c cs hd => ?_⟩
  obtain ⟨φ', w', V, fr, h1, h2, h3, h4, h5, ⟨fn, h6, h7⟩, h8, h9, h10, _⟩ := h.2 φ w Vs hR.empty (cleanL_ok hargs) hV d (c :: cs) fun e => ⟨c, cs, rfl, hd e⟩
  obtain ⟨q1, q2⟩ := Rel.around rfl hR h9 h10
  have hpd : A'.pend = [] := h10.pend
  refine ⟨_, w', V, Steps.trans h1 (.one ?_), hv.rv h9 hpd (fun n hn => by
    have := h10.agree n (.inr (frN_big hn))
    exact ⟨this.1.symm, this.2.symm⟩) h8, q1, q2⟩
  cases d with
  | false => exact step_leave_returned ⟨h2, h3, h4, fn, h6, h7⟩
  | true =>
    have := step_going_returned (P := P) (fr := fr) (c := c) (cs := cs) (w := w') (v := V) h4 ⟨h2, h3, fn, h6, h7⟩
    have hs : settle c.mode = c.mode := by rw [hd rfl]; rfl
    rw [hs] at this
    exact this
theorem fn_of (hc : CfgOK P cfg0) (hm : P.follows .mixedOrders = true) {f : FuncId} {fn : Func} {body : Code} {args : List Value} {R : Value → Prop} (hfn : P.funcs[f]? = some fn) (hbody : fn.body = some body) (h1 : args.length ≤ fn.ntmps) (h2 : fn.ntmps < 65535) (hok : codeOk body = true) (hargs : cleanL args = true)
    (h : W P fn.ntmps [.code body] (setArgs args 0 .nil) A0 fun tm A' => ∃ vs v, aresults P tm A' fn.results.toList = some vs ∧ Frz A' (tupleOf vs) v ∧ R v) : ∃ v, R v ∧ Fn P f args v := by
  obtain ⟨v0, A', ⟨v, hv, hR⟩, hcalls⟩ := fn_calls (R := fun v0 A' => ∃ v, Frz A' v0 v ∧ R v) hc hm hfn hbody h1 h2 hok (by
    obtain ⟨n, hn⟩ := h
    refine ⟨n, ?_⟩
    have e : (fun (tm : Trie Value) (A' : AS) => ∃ vs v, aresults P tm A' fn.results.toList = some vs ∧ Frz A' (tupleOf vs) v ∧ R v) = fun tm A' => ∃ vs, aresults P tm A' fn.results.toList = some vs ∧ ∃ v, Frz A' (tupleOf vs) v ∧ R v := by
      funext tm A'
      apply propext
      constructor
      · rintro ⟨vs, v, q1, q2, q3⟩; exact ⟨vs, q1, v, q2, q3⟩
      · rintro ⟨vs, q1, v, q2, q3⟩; exact ⟨vs, v, q1, q2, q3⟩
    rw [e] at hn; exact hn)
  exact ⟨v, hR, .of hcalls hargs hv⟩
end Go.Ev
