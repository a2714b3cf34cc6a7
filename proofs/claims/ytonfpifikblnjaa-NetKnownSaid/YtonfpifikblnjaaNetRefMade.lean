/- The document's net: a letter made. -/
import Derived.Deep.CutRange
import Derived.Test.YtonfpifikblnjaaNetRefOps
namespace Go.Proofs.Ytonfpifikblnjaa.Net
open Go.RowKit

theorem info_rpk : (Try.prog.info? 48).map (fun i => (i.zero, i.size, i.bytes)) = some (some (.agg #[.int .i64 0, .int .i64 0, .string ByteArray.empty]), 3, 32) := by kernel_rfl
section
variable {ops : Array Oper} {o : Oper} {a : Act} {w : World} {K : Act → World → Prop} {Q : Exit → Act → World → Prop} {E : Prop}
theorem step_append_int (hg : o.guard = none) (s x : Operand) (hop : o.op = Op.call { callee := Callee.builtin Builtin.append, args := #[s, x], argTypes := #[56, 56] })
    (B : Nat) (v : Value) (ns : List Nat) (y : Nat) (hs : a.eval s = v) (hown : w.ownsRow B 3 1 v ns.length (ns.map fun (n : Nat) => Value.int .i64 (n : Int))) (g : Nat) (hx : a.eval x = .slice (some ⟨g, 0, none⟩) 1 1) (hc : w.heap[g]? = some (.cells #[.int .i64 (y : Int)] 3)) (hb : ns.length < 100000) (hB : B ≤ w.heap.size)
    (hK : ∀ v' w', w'.ownsRow B 3 1 v' (ns ++ [y]).length ((ns ++ [y]).map fun (n : Nat) => Value.int .i64 (n : Int)) → w.grownBy w' v.ownBlock → (v'.ownBlock = v.ownBlock ∨ v'.ownBlock = some w.heap.size) → K (a.put o.dst v') w') :
    if Region.wanted o (yielded ops a.tmps) = true then Oper.wp Try.prog o a w K Q else E := by
  have hw : Region.wanted o (yielded ops a.tmps) = true := by simp [Region.wanted, hg]
  rw [if_pos hw]
  obtain ⟨i0, hi0, he⟩ := Option.map_eq_some_iff.1 info_int
  simp only [Prod.mk.injEq] at he
  obtain ⟨v', w', hrun, hown', hgr, _, hob⟩ := run_append_own_at (P := Try.prog) w B 56 o.type 3 i0 _ 1 8 Try.underlying56 hi0 he.1 he.2.1 he.2.2 rfl (by decide) v ns.length _ hown ⟨g, 0, none⟩ 1 1 [.int .i64 (y : Int)] rfl
    (by
      intro j z hj
      rw [add_flat, Nat.zero_add]
      simp only [World.cell?, hc]
      simpa using hj) (by intro z hz; simp at hz; subst hz; rfl) (by unfold maxLen; omega) (by omega) hB
  unfold Oper.wp
  simp [execOp, hop, resolve, invoke, builtin, hs, hx, hrun, Result.andThen]
  refine hK v' w' ?_ hgr hob
  rw [List.length_append, List.map_append]
  exact hown'
theorem step_append_rpk (hg : o.guard = none) (s x : Operand) (hop : o.op = Op.call { callee := Callee.builtin Builtin.append, args := #[s, x], argTypes := #[73, 73] })
    (v : Value) (ps : List Pk) (p : Pk) (hs : a.eval s = v) (hown : RAll w v ps) (g : Nat) (hx : a.eval x = .slice (some ⟨g, 0, none⟩) 1 1) (hc : w.heap[g]? = some (.cells #[.int .i64 p.src, .int .i64 p.to, strV p.b] 48)) (hb : ps.length < 100000)
    (hK : ∀ v' w', RAll w' v' (ps ++ [p]) → w.grownBy w' v.ownBlock → (v'.ownBlock = v.ownBlock ∨ v'.ownBlock = some w.heap.size) → K (a.put o.dst v') w') :
    if Region.wanted o (yielded ops a.tmps) = true then Oper.wp Try.prog o a w K Q else E := by
  have hw : Region.wanted o (yielded ops a.tmps) = true := by simp [Region.wanted, hg]
  rw [if_pos hw]
  obtain ⟨i0, hi0, he⟩ := Option.map_eq_some_iff.1 info_rpk
  simp only [Prod.mk.injEq] at he
  obtain ⟨v', w', hrun, hown', hgr, _, hob⟩ := run_append_own_at (P := Try.prog) w 0 73 o.type 48 i0 _ 3 32 Try.underlying73 hi0 he.1 he.2.1 he.2.2 rfl (by decide) v ps.length _ hown ⟨g, 0, none⟩ 1 1 (rcells p) rfl
    (by
      intro j z hj
      rw [add_flat, Nat.zero_add]
      simp only [World.cell?, hc]
      simpa [rcells] using hj) (by intro z hz; simp only [rcells, List.mem_cons, List.not_mem_nil, or_false] at hz; rcases hz with rfl | rfl | rfl <;> rfl) (by unfold maxLen; omega) (by omega) (Nat.zero_le _)
  unfold Oper.wp
  simp [execOp, hop, resolve, invoke, builtin, hs, hx, hrun, Result.andThen]
  refine hK v' w' ?_ hgr hob
  unfold RAll
  rw [List.length_append, List.flatMap_append]
  simpa using hown'
end
theorem row_shape {w : World} {B n sz : Nat} {e : TypeId} {v : Value} {xs : List Value} (h : w.ownsRow B e sz v n xs) : ∃ A cap, v = .slice A n cap := by
  rcases h.2 with ⟨rfl, e⟩ | ⟨g, cap, cur, rfl, _⟩
  · exact ⟨none, 0, by rw [e]⟩
  · exact ⟨_, cap, rfl⟩
theorem row_any {w : World} {B n sz : Nat} {e : TypeId} {v : Value} {xs : List Value} (h : w.ownsRow B e sz v n xs) : ∃ A k cap, v = .slice A k cap := let ⟨A, cap, e⟩ := row_shape h; ⟨A, n, cap, e⟩
/-- Only blocks of T have been turned, which become T'. -/
structure RTurn (T T' : Nat → Prop) (w w' : World) : Prop where
  off : Off T w w'
  sub : ∀ b, T' b → T b ∨ w.heap.size ≤ b
  lt : ∀ b, T' b → b < w'.heap.size
theorem RTurn.trans {S S' S'' : Nat → Prop} {a b c : World} (h : RTurn S S' a b) (k : RTurn S' S'' b c) : RTurn S S'' a c := by
  refine ⟨⟨k.off.os.trans h.off.os, k.off.tape.trans h.off.tape, k.off.output.trans h.off.output, Nat.le_trans h.off.size k.off.size, fun j hj hs => (k.off.block j (Nat.lt_of_lt_of_le hj h.off.size) (fun hs' => ?_)).trans (h.off.block j hj hs)⟩, fun b hb => ?_, k.lt⟩
  · rcases h.sub j hs' with e | e
    · exact hs e
    · omega
  · rcases k.sub b hb with e | e
    · exact h.sub b e
    · exact .inr (Nat.le_trans h.off.size e)
theorem RTurn.grown {S : Nat → Prop} {a b : World} (hl : ∀ x, S x → x < a.heap.size) (hg : a.grownBy b none) : RTurn S S a b := ⟨Off.of_grown hg (by simp), fun _ hb => .inl hb, fun x hx => Nat.lt_of_lt_of_le (hl x hx) hg.size⟩
def Rf.push (R : Rf) (p : Pk) : Rf := ⟨R.n, R.all ++ [p], fun i => if i = 0 then R.row 0 ++ [R.all.length] else R.row i⟩
def Rf.made (R : Rf) (p : Pk) : Int × Rf := if (R.row 0).length = 256 then (3, R) else (0, R.push p)
/-- A row's append, stored. -/
theorem RefIn.append {w w5 : World} {T : Nat → Prop} {m xb : Nat} {va v2 : Value} {V : Nat → Value} {R : Rf} {j y : Nat} (h : RefIn w T m xb va V R) (hj : j ≤ R.n)
    (h5 : w5.ownsRow 0 3 1 v2 (R.row j ++ [y]).length ((R.row j ++ [y]).map fun (n : Nat) => Value.int .i64 (n : Int))) (hg5 : (w.alloc (.cells #[.int .i64 (y : Int)] 3)).grownBy w5 (V j).ownBlock) (hob : v2.ownBlock = (V j).ownBlock ∨ v2.ownBlock = some (w.alloc (.cells #[.int .i64 (y : Int)] 3)).heap.size) :
    w5.cell? ⟨rb m xb j, ro j, none⟩ = some (V j) ∧ w5.frozen? ⟨rb m xb j, ro j, none⟩ = false ∧ ∃ T', RefIn (w5.setCell ⟨rb m xb j, ro j, none⟩ v2) T' m xb va (updV V j v2) (R.set j (R.row j ++ [y])) ∧ RTurn T T' w (w5.setCell ⟨rb m xb j, ro j, none⟩ v2) ∧ (∀ b, T' b → T b ∨ w.heap.size < b) := by
  have hgA := World.grownBy_alloc w (.cells #[.int .i64 (y : Int)] 3) none
  have hA : RefIn (w.alloc (.cells #[.int .i64 (y : Int)] 3)) T m xb va V R := h.other (U := fun _ => False) (Off.of_grown hgA (by simp)) (fun _ _ x => x)
  have hs := World.size_alloc w (.cells #[.int .i64 (y : Int)] 3)
  have hne : some (rb m xb j) ≠ (V j).ownBlock := by
    intro e
    have ht := (hA.rows j hj).1.typed _ e.symm
    obtain ⟨capx, h1, _⟩ := hA.net
    obtain ⟨cx, h3, _⟩ := hA.box
    cases j with
    | zero => exact (ht.ne (show Typed _ m _ from ⟨_, _, h1⟩) (by decide)) rfl
    | succ j => exact (ht.ne (show Typed _ xb _ from ⟨_, _, h3⟩) (by decide)) rfl
  have hlt : rb m xb j < (w.alloc (.cells #[.int .i64 (y : Int)] 3)).heap.size := World.block_lt_of_cell? _ _ (hA.cell hj).1
  obtain ⟨hput, hoff⟩ := hA.put hj hg5 (v := v2) h5 (hob.elim .inl (fun e => .inr (fun g hg => by rw [e] at hg; have := Option.some.inj hg; omega)))
  have ho : Off T w _ := (Off.of_grown hgA (by simp)).trans hoff
  refine ⟨hg5.cell (hA.cell hj).1 hne, (World.frozen?_of_block (a := ⟨rb m xb j, ro j, none⟩) (hg5.block _ hlt hne)).trans (hA.cell hj).2, _, hput, ⟨ho, fun b hb => hb.1.elim .inl (fun e => .inr (by omega)), fun b hb => hb.2⟩, fun b hb => hb.1.elim .inl (fun e => .inr (by omega))⟩

set_option maxRecDepth 100000 in
set_option maxHeartbeats 8000000 in
theorem made_at (T : Nat → Prop) (m : Nat) (R : Rf) (p : Pk) (w : World) (h : RefAt w T m R) (hl : R.all.length < 10000) (hr : (R.row 0).length ≤ 256) :
    Calls Try.prog 47 #[.pointer (some ⟨m, 0, none⟩), .agg #[.int .i64 p.src, .int .i64 p.to, strV p.b]] w fun e w' => e = .returned (.int .i64 (R.made p).1) ∧ ∃ T', RefAt w' T' m (R.made p).2 ∧ RTurn T T' w w' := by
  obtain ⟨xb, va, V, h⟩ := h
  obtain ⟨A1, cap1, hv, _⟩ := int_row (h.rows 0 (Nat.zero_le _)).1
  obtain ⟨Aa, capa, hva, _⟩ := all_row h.all
  have hgx := World.grownBy_alloc w (.cells #[.int .i64 p.src, .int .i64 p.to, strV p.b] 48) none
  have hbx := (MapKept.heap_alloc w (.cells #[.int .i64 p.src, .int .i64 p.to, strV p.b] 48)).1
  obtain ⟨w0, hw0⟩ : ∃ w0, w0 = w.alloc (.cells #[.int .i64 p.src, .int .i64 p.to, strV p.b] 48) := ⟨_, rfl⟩
  rw [← hw0] at hgx hbx
  have h0 : RefIn w0 T m xb va V R := h.other (U := fun _ => False) (Off.of_grown hgx (by simp)) (fun _ _ x => x)
  have HW0 := Lib.hid hw0
  have HGX := Lib.hid hgx
  have HBX := Lib.hid hbx
  have HI := Lib.hid h0
  have HTL := Lib.hid h.lt
  have hnTx : ¬ T w.heap.size := fun ht => by have := h.lt _ ht; omega
  have HNT := Lib.hid hnTx
  obtain ⟨capx, hnet, _⟩ := h0.net
  have c1 : w0.cell? ⟨m, 1, none⟩ = some (V 0) := by simp only [World.cell?, hnet]; rfl
  rw [hv] at c1
  rw [hw0] at c1
  have HV := Lib.hid hv
  have HVA := Lib.hid hva
  unfold Rf.made
  by_cases hf : (R.row 0).length = 256
  · rw [if_pos hf]
    have HF := Lib.hid hf
    have hfd : (((R.row 0).length : Int) == 256) = true := by simp [hf]
    clear h hgx hbx hw0 h0 hnTx hnet hv hva
    generalize (R.row 0).length = len at hf c1 hfd
    subst hf
    go_enter Try.func47, Try.ntmps47
    go_wp2_with fail
    go_ret
    rw [← HW0.out]
    exact ⟨rfl, T, ⟨xb, va, V, HI.out⟩, RTurn.grown HTL.out HGX.out⟩
  · rw [if_neg hf]
    have hfd : (((R.row 0).length : Int) == 256) = false := by simp; omega
    have HFEW : Hid ((R.row 0).length < 100000) := by show _ < _; omega
    have HFA : Hid (R.all.length < 100000) := by show _ < _; omega
    clear h hgx hbx hw0 h0 hnTx hnet hv hva hf hl hr
    go_enter Try.func47, Try.ntmps47
    go_upto_region 3 with fail
    rw [← HW0.out]
    clear c1 hfd
    go_cut [3] from 5 to 34 (fun s3 wx => s3 = .pointer (some ⟨w.heap.size, 0, none⟩) ∧ ∃ T' V', RefIn wx T' m xb va V' (R.set 0 (R.row 0 ++ [R.all.length])) ∧ RTurn T T' w0 wx ∧ (∀ b, T' b → T b ∨ w0.heap.size < b))
    case first =>
      have hd : w0.grownBy w0.drew none := drew_grown w0 none
      have hIx : RefIn w0.drew T m xb va V R := HI.out.other (U := fun _ => False) (Off.of_grown hd (by simp)) (fun _ _ x => x)
      have hgA := World.grownBy_alloc w0.drew (.cells #[.int .i64 (R.all.length : Int)] 3) none
      have hbA := (MapKept.heap_alloc w0.drew (.cells #[.int .i64 (R.all.length : Int)] 3)).1
      have hIA : RefIn (w0.drew.alloc (.cells #[.int .i64 (R.all.length : Int)] 3)) T m xb va V R := hIx.other (U := fun _ => False) (Off.of_grown hgA (by simp)) (fun _ _ x => x)
      have HROW : Hid ((w0.drew.alloc (.cells #[.int .i64 (R.all.length : Int)] 3)).ownsRow 0 3 1 (V 0) (R.row 0).length ((R.row 0).map fun (n : Nat) => Value.int .i64 (n : Int))) := (hIA.rows 0 (Nat.zero_le _)).1
      have HBA := Lib.hid hbA
      obtain ⟨capy, hnx, _⟩ := hIx.net
      obtain ⟨capz, hnA, _⟩ := hIA.net
      have C0 : Hid (w0.drew.cell? ⟨m, 0, none⟩ = some (.slice Aa R.all.length capa)) := by show World.cell? _ _ = _; rw [← HVA.out]; simp only [World.cell?, hnx]; rfl
      have C1 : Hid (w0.cell? ⟨m, 1, none⟩ = some (.slice A1 (R.row 0).length cap1)) := by
        have hnx' : w0.heap[m]? = _ := hnx
        show World.cell? _ _ = _; rw [← HV.out]; simp only [World.cell?, hnx']; rfl
      have C0A : Hid ((w0.drew.alloc (.cells #[.int .i64 (R.all.length : Int)] 3)).cell? ⟨m, 0, none⟩ = some (.slice Aa R.all.length capa)) := by show World.cell? _ _ = _; rw [← HVA.out]; simp only [World.cell?, hnA]; rfl
      have C1A : Hid ((w0.alloc (.cells #[.int .i64 (R.all.length : Int)] 3)).cell? ⟨m, 1, none⟩ = some (.slice A1 (R.row 0).length cap1)) := by
        have hnA' : (w0.alloc (.cells #[.int .i64 (R.all.length : Int)] 3)).heap[m]? = _ := hnA
        show World.cell? _ _ = _; rw [← HV.out]; simp only [World.cell?, hnA']; rfl
      have HPUT : Hid (∀ (v2 : Value) (w5 : World), w5.ownsRow 0 3 1 v2 (R.row 0 ++ [R.all.length]).length ((R.row 0 ++ [R.all.length]).map fun (n : Nat) => Value.int .i64 (n : Int)) → (w0.drew.alloc (.cells #[.int .i64 (R.all.length : Int)] 3)).grownBy w5 (V 0).ownBlock → (v2.ownBlock = (V 0).ownBlock ∨ v2.ownBlock = some (w0.drew.alloc (.cells #[.int .i64 (R.all.length : Int)] 3)).heap.size) →
          w5.cell? ⟨m, 1, none⟩ = some (.slice A1 (R.row 0).length cap1) ∧ w5.frozen? ⟨m, 1, none⟩ = false ∧ w5.cell? ⟨m, 0, none⟩ = some (.slice Aa R.all.length capa) ∧ (w5.setCell ⟨m, 1, none⟩ v2).cell? ⟨m, 0, none⟩ = some (.slice Aa R.all.length capa) ∧ (∃ T' V', RefIn (w5.setCell ⟨m, 1, none⟩ v2) T' m xb va V' (R.set 0 (R.row 0 ++ [R.all.length])) ∧ RTurn T T' w0 (w5.setCell ⟨m, 1, none⟩ v2) ∧ (∀ b, T' b → T b ∨ w0.heap.size < b))) := by
        intro v2 w5 h5 hg5 hob5
        obtain ⟨p1, p2, T', p3, p4, p5⟩ := hIx.append (j := 0) (Nat.zero_le _) h5 hg5 hob5
        simp only [rb, ro] at p1 p2 p3 p4
        rw [HV.out] at p1
        have hne : some m ≠ (V 0).ownBlock := fun e => by
          have ht := (hIA.rows 0 (Nat.zero_le _)).1.typed m e.symm
          exact (ht.ne (show Typed _ m _ from ⟨_, _, hnA⟩) (by decide)) rfl
        have q0 := hg5.cell C0A.out hne
        exact ⟨p1, p2, q0, (World.cell?_setCell_other _ _ _ _ (by first | (simp; done) | (simp; omega))).trans q0, T', _, p3, ⟨⟨p4.off.os, p4.off.tape, p4.off.output, p4.off.size, p4.off.block⟩, p4.sub, p4.lt⟩, p5⟩
      clear hd hIx hgA hbA hIA hnx hnA
      refine wp_region_noPanic ?_
      refine wp_region_held_drew (S := fun w' => w'.cell? ⟨m, 0, none⟩ = some (.slice Aa R.all.length capa)) (by kernel_rfl) ?hSa (fun hHeld => ?_)
      case hSa => exact C0.out
      refine wpAnyH_take (i := 0) (oi := ⟨_, _, _, _, _, _⟩) (v := ?va0) rfl (by kernel_rfl) (by kernel_rfl) (by kernel_rfl) (fun _ _ _ h => h) (Or.inl ⟨by rfl, ?hya0⟩) hHeld ?_
      case hya0 => (intro wS hSw; (try dsimp only at hSw); go_simp; (first | done | with_reducible rfl))
      try simp only [Act.put, List.setIfInBounds_toArray, List.set_cons_zero, List.set_cons_succ]
      refine wpAnyH_take (i := 1) (oi := ⟨_, _, _, _, _, _⟩) (v := ?va1) rfl (by kernel_rfl) (by kernel_rfl) (by kernel_rfl) (fun _ _ _ h => h) (Or.inl ⟨by rfl, ?hya1⟩) hHeld ?_
      case hya1 => (intro wS hSw; (try dsimp only at hSw); go_simp; (first | done | with_reducible rfl))
      try simp only [Act.put, List.setIfInBounds_toArray, List.set_cons_zero, List.set_cons_succ]
      refine wpAnyH_take (i := 2) (oi := ⟨_, _, _, _, _, _⟩) (v := ?va2) rfl (by kernel_rfl) (by kernel_rfl) (by kernel_rfl) (fun _ _ _ h => h) (Or.inl ⟨by rfl, ?hya2⟩) hHeld ?_
      case hya2 => (intro wS hSw; (try dsimp only at hSw); go_simp; (first | done | with_reducible rfl))
      try simp only [Act.put, List.setIfInBounds_toArray, List.set_cons_zero, List.set_cons_succ]
      refine wpAnyH_take (i := 3) (oi := ⟨_, _, _, _, _, _⟩) (v := ?va3) rfl (by kernel_rfl) (by kernel_rfl) (by kernel_rfl) (fun _ _ _ h => h) (Or.inl ⟨by rfl, ?hya3⟩) hHeld ?_
      case hya3 => (intro wS hSw; (try dsimp only at hSw); go_simp; (first | done | with_reducible rfl))
      try simp only [Act.put, List.setIfInBounds_toArray, List.set_cons_zero, List.set_cons_succ]
      refine wpAnyH_take (i := 5) (oi := ⟨_, _, _, _, _, _⟩) (v := ?va5) rfl (by kernel_rfl) (by kernel_rfl) (by kernel_rfl) (fun _ _ _ h => h) (Or.inl ⟨by rfl, ?hya5⟩) hHeld ?_
      case hya5 => (intro wS hSw; (try dsimp only at hSw); go_simp; (first | done | with_reducible rfl))
      try simp only [Act.put, List.setIfInBounds_toArray, List.set_cons_zero, List.set_cons_succ]
      refine wpAnyH_take (i := 6) (oi := ⟨_, _, _, _, _, _⟩) (v := ?va6) rfl (by kernel_rfl) (by kernel_rfl) (by kernel_rfl) (fun _ _ _ h => h) (Or.inl ⟨by rfl, ?hya6⟩) hHeld ?_
      case hya6 => (intro wS hSw; (try dsimp only at hSw); go_simp; (first | done | with_reducible rfl))
      try simp only [Act.put, List.setIfInBounds_toArray, List.set_cons_zero, List.set_cons_succ]
      refine wpAnyH_take (i := 7) (oi := ⟨_, _, _, _, _, _⟩) (v := ?va7) rfl (by kernel_rfl) (by kernel_rfl) (by kernel_rfl) (fun _ _ _ h => h) (Or.inl ⟨by rfl, ?hya7⟩) hHeld ?_
      case hya7 => (intro wS hSw; (try dsimp only at hSw); go_simp; (first | done | with_reducible rfl))
      try simp only [Act.put, List.setIfInBounds_toArray, List.set_cons_zero, List.set_cons_succ]
      refine wpAnyH_take (i := 8) (oi := ⟨_, _, _, _, _, _⟩) (v := ?va8) rfl (by kernel_rfl) (by kernel_rfl) (by kernel_rfl) (fun _ _ _ h => h) (Or.inl ⟨by rfl, ?hya8⟩) hHeld ?_
      case hya8 => (intro wS hSw; (try dsimp only at hSw); go_simp; (first | done | with_reducible rfl))
      try simp only [Act.put, List.setIfInBounds_toArray, List.set_cons_zero, List.set_cons_succ]
      refine wpAnyH_take (i := 9) (oi := ⟨_, _, _, _, _, _⟩) (v := ?va9) rfl (by kernel_rfl) (by kernel_rfl) (by kernel_rfl) (fun _ _ _ h => h) (Or.inl ⟨by rfl, ?hya9⟩) hHeld ?_
      case hya9 => (intro wS hSw; (try dsimp only at hSw); go_simp; (first | done | with_reducible rfl))
      try simp only [Act.put, List.setIfInBounds_toArray, List.set_cons_zero, List.set_cons_succ]
      refine wpAnyH_ready (rs := [4, 10]) (by kernel_rfl) (by simp) ?_
      refine AllReadyH.cons (o := ⟨_, _, _, _, _, _⟩) rfl (fun K hK => ?_) (AllReadyH.cons (o := ⟨_, _, _, _, _, _⟩) rfl (fun K hK => ?_) AllReadyH.nil)
      · have c1 := C1.out
        have c1a := C1A.out
        go_simp
        clear c1 c1a
        refine hK.out _ _ ?kax4 (fun hNew => ?_)
        case kax4 => (try dsimp only); exact hHeld
        clear hK K hHeld
        have hHeld := hNew
        clear hNew
        try simp only [Act.put, List.setIfInBounds_toArray, List.set_cons_zero, List.set_cons_succ]
        refine wpAnyH_ready (rs := [10]) (by kernel_rfl) (by simp) ?_
        refine AllReadyH.cons (o := ⟨_, _, _, _, _, _⟩) rfl (fun K hK => ?_) AllReadyH.nil
        go_simp
        refine hK.out _ _ ?kax10 (fun hNew => ?_)
        case kax10 => (try dsimp only); exact C0A.out
        clear hK K hHeld
        have hHeld := hNew
        clear hNew
        try simp only [Act.put, List.setIfInBounds_toArray, List.set_cons_zero, List.set_cons_succ]
        refine wpAnyH_ready (rs := [11]) (by kernel_rfl) (by simp) ?_
        refine AllReadyH.cons (o := ⟨_, _, _, _, _, _⟩) rfl (fun K hK => ?_) AllReadyH.nil
        refine step_append_int rfl (.tmp 15) (.tmp 21) rfl 0 (V 0) (R.row 0) R.all.length (by exact HV.out.symm) HROW.out w0.heap.size rfl HBA.out HFEW.out (Nat.zero_le _) ?_
        intro v2 w5 h5 hg5 hob5
        obtain ⟨A2, n2, cap2, rfl⟩ := row_any h5
        have hp := HPUT.out _ w5 h5 hg5 hob5
        have HP := Lib.hid hp
        clear hp h5 hg5 hob5
        refine hK.out _ _ ?kax11 (fun hNew => ?_)
        case kax11 => (try dsimp only); exact HP.out.2.2.1
        clear hK K hHeld
        have hHeld := hNew
        clear hNew
        try simp only [Act.put, List.setIfInBounds_toArray, List.set_cons_zero, List.set_cons_succ]
        refine wpAnyH_take (i := 12) (oi := ⟨_, _, _, _, _, _⟩) (v := ?vax12) rfl (by kernel_rfl) (by kernel_rfl) (by kernel_rfl) (fun _ _ _ h => h) (Or.inl ⟨by rfl, ?hyax12⟩) hHeld ?_
        case hyax12 => (intro wS hSw; (try dsimp only at hSw); go_simp; (first | done | with_reducible rfl))
        try simp only [Act.put, List.setIfInBounds_toArray, List.set_cons_zero, List.set_cons_succ]
        refine wpAnyH_take (i := 13) (oi := ⟨_, _, _, _, _, _⟩) (v := ?vax13) rfl (by kernel_rfl) (by kernel_rfl) (by kernel_rfl) (fun _ _ _ h => h) (Or.inl ⟨by rfl, ?hyax13⟩) hHeld ?_
        case hyax13 => (intro wS hSw; (try dsimp only at hSw); go_simp; (first | done | with_reducible rfl))
        try simp only [Act.put, List.setIfInBounds_toArray, List.set_cons_zero, List.set_cons_succ]
        refine wpAnyH_ready (rs := [14]) (by kernel_rfl) (by simp) ?_
        refine AllReadyH.cons (o := ⟨_, _, _, _, _, _⟩) rfl (fun K hK => ?_) AllReadyH.nil
        have c5 := HP.out.1
        have z5 := HP.out.2.1
        go_simp
        clear c5 z5
        refine hK.out _ _ ?kax14 (fun hNew => ?_)
        case kax14 => (try dsimp only); exact HP.out.2.2.2.1
        clear hK K hHeld
        have hHeld := hNew
        clear hNew
        try simp only [Act.put, List.setIfInBounds_toArray, List.set_cons_zero, List.set_cons_succ]
        refine wpAnyH_done (by kernel_rfl) ?_ _
        refine NoPanic.normal ?_
        clear hHeld
        go_wp2_with fail
        go_meet
        exact ⟨rfl, HP.out.2.2.2.2⟩
      · go_simp
        refine hK.out _ _ ?kay10 (fun hNew => ?_)
        case kay10 => (try dsimp only); exact C0A.out
        clear hK K hHeld
        have hHeld := hNew
        clear hNew
        try simp only [Act.put, List.setIfInBounds_toArray, List.set_cons_zero, List.set_cons_succ]
        refine wpAnyH_ready (rs := [4]) (by kernel_rfl) (by simp) ?_
        refine AllReadyH.cons (o := ⟨_, _, _, _, _, _⟩) rfl (fun K hK => ?_) AllReadyH.nil
        have c1 := C1.out
        have c1a := C1A.out
        go_simp
        clear c1 c1a
        refine hK.out _ _ ?kay4 (fun hNew => ?_)
        case kay4 => (try dsimp only); exact hHeld
        clear hK K hHeld
        have hHeld := hNew
        clear hNew
        try simp only [Act.put, List.setIfInBounds_toArray, List.set_cons_zero, List.set_cons_succ]
        refine wpAnyH_ready (rs := [11]) (by kernel_rfl) (by simp) ?_
        refine AllReadyH.cons (o := ⟨_, _, _, _, _, _⟩) rfl (fun K hK => ?_) AllReadyH.nil
        refine step_append_int rfl (.tmp 15) (.tmp 21) rfl 0 (V 0) (R.row 0) R.all.length (by exact HV.out.symm) HROW.out w0.heap.size rfl HBA.out HFEW.out (Nat.zero_le _) ?_
        intro v2 w5 h5 hg5 hob5
        obtain ⟨A2, n2, cap2, rfl⟩ := row_any h5
        have hp := HPUT.out _ w5 h5 hg5 hob5
        have HP := Lib.hid hp
        clear hp h5 hg5 hob5
        refine hK.out _ _ ?kay11 (fun hNew => ?_)
        case kay11 => (try dsimp only); exact HP.out.2.2.1
        clear hK K hHeld
        have hHeld := hNew
        clear hNew
        try simp only [Act.put, List.setIfInBounds_toArray, List.set_cons_zero, List.set_cons_succ]
        refine wpAnyH_take (i := 12) (oi := ⟨_, _, _, _, _, _⟩) (v := ?vay12) rfl (by kernel_rfl) (by kernel_rfl) (by kernel_rfl) (fun _ _ _ h => h) (Or.inl ⟨by rfl, ?hyay12⟩) hHeld ?_
        case hyay12 => (intro wS hSw; (try dsimp only at hSw); go_simp; (first | done | with_reducible rfl))
        try simp only [Act.put, List.setIfInBounds_toArray, List.set_cons_zero, List.set_cons_succ]
        refine wpAnyH_take (i := 13) (oi := ⟨_, _, _, _, _, _⟩) (v := ?vay13) rfl (by kernel_rfl) (by kernel_rfl) (by kernel_rfl) (fun _ _ _ h => h) (Or.inl ⟨by rfl, ?hyay13⟩) hHeld ?_
        case hyay13 => (intro wS hSw; (try dsimp only at hSw); go_simp; (first | done | with_reducible rfl))
        try simp only [Act.put, List.setIfInBounds_toArray, List.set_cons_zero, List.set_cons_succ]
        refine wpAnyH_ready (rs := [14]) (by kernel_rfl) (by simp) ?_
        refine AllReadyH.cons (o := ⟨_, _, _, _, _, _⟩) rfl (fun K hK => ?_) AllReadyH.nil
        have c5 := HP.out.1
        have z5 := HP.out.2.1
        go_simp
        clear c5 z5
        refine hK.out _ _ ?kay14 (fun hNew => ?_)
        case kay14 => (try dsimp only); exact HP.out.2.2.2.1
        clear hK K hHeld
        have hHeld := hNew
        clear hNew
        try simp only [Act.put, List.setIfInBounds_toArray, List.set_cons_zero, List.set_cons_succ]
        refine wpAnyH_done (by kernel_rfl) ?_ _
        refine NoPanic.normal ?_
        clear hHeld
        go_wp2_with fail
        go_meet
        exact ⟨rfl, HP.out.2.2.2.2⟩
    case rest =>
      obtain ⟨rfl, T1, V1, hI1, hT1, hT1b⟩ := hcut
      have hd : wc.grownBy wc.drew none := drew_grown wc none
      have hIx : RefIn wc.drew T1 m xb va V1 (R.set 0 (R.row 0 ++ [R.all.length])) := hI1.other (U := fun _ => False) (Off.of_grown hd (by simp)) (fun _ _ x => x)
      have hgA := World.grownBy_alloc wc.drew (.cells #[.int .i64 p.src, .int .i64 p.to, strV p.b] 48) none
      have hbA := (MapKept.heap_alloc wc.drew (.cells #[.int .i64 p.src, .int .i64 p.to, strV p.b] 48)).1
      have hsA := World.size_alloc wc.drew (.cells #[.int .i64 p.src, .int .i64 p.to, strV p.b] 48)
      have hIA : RefIn (wc.drew.alloc (.cells #[.int .i64 p.src, .int .i64 p.to, strV p.b] 48)) T1 m xb va V1 (R.set 0 (R.row 0 ++ [R.all.length])) := hIx.other (U := fun _ => False) (Off.of_grown hgA (by simp)) (fun _ _ x => x)
      have HROW : Hid (RAll (wc.drew.alloc (.cells #[.int .i64 p.src, .int .i64 p.to, strV p.b] 48)) va R.all) := hIA.all
      have HBA := Lib.hid hbA
      have hgxlt : w.heap.size < w0.heap.size := (Array.getElem?_eq_some_iff.1 HBX.out).1
      have hxT : ¬ T1 w.heap.size := fun ht => by
        rcases hT1b _ ht with e | e
        · exact HNT.out e
        · omega
      have hbx := (hT1.off.block _ hgxlt HNT.out).trans HBX.out
      have hbx' : wc.drew.heap[w.heap.size]? = _ := hbx
      have hbxA := (hgA.block _ (Array.getElem?_eq_some_iff.1 hbx').1 (by simp)).trans hbx'
      have X0 : Hid (wc.drew.cell? ⟨w.heap.size, 0, none⟩ = some (.int .i64 p.src) ∧ wc.drew.cell? ⟨w.heap.size, 1, none⟩ = some (.int .i64 p.to) ∧ wc.drew.cell? ⟨w.heap.size, 2, none⟩ = some (strV p.b)) := ⟨by simp only [World.cell?, hbx']; rfl, by simp only [World.cell?, hbx']; rfl, by simp only [World.cell?, hbx']; rfl⟩
      have hcx : ∀ y : World, y.heap[w.heap.size]? = some (.cells #[.int .i64 p.src, .int .i64 p.to, strV p.b] 48) → (y.cell? ⟨w.heap.size, 0, none⟩ = some (.int .i64 p.src) ∧ y.cell? ⟨w.heap.size, 1, none⟩ = some (.int .i64 p.to) ∧ y.cell? ⟨w.heap.size, 2, none⟩ = some (strV p.b)) := fun y hy => ⟨by simp only [World.cell?, hy]; rfl, by simp only [World.cell?, hy]; rfl, by simp only [World.cell?, hy]; rfl⟩
      have X0A := Lib.hid (hcx _ hbxA)
      obtain ⟨capy, hnx, _⟩ := hIx.net
      obtain ⟨capz, hnA, _⟩ := hIA.net
      have C1 : Hid (wc.cell? ⟨m, 0, none⟩ = some (.slice Aa R.all.length capa)) := by
        have hnx' : wc.heap[m]? = _ := hnx
        show World.cell? _ _ = _; rw [← HVA.out]; simp only [World.cell?, hnx']; rfl
      have C1A : Hid ((wc.alloc (.cells #[.int .i64 p.src, .int .i64 p.to, strV p.b] 48)).cell? ⟨m, 0, none⟩ = some (.slice Aa R.all.length capa)) := by
        have hnA' : (wc.alloc (.cells #[.int .i64 p.src, .int .i64 p.to, strV p.b] 48)).heap[m]? = _ := hnA
        show World.cell? _ _ = _; rw [← HVA.out]; simp only [World.cell?, hnA']; rfl
      have hT0 : RTurn T T1 w wc := (RTurn.grown HTL.out HGX.out).trans hT1
      have HPUT : Hid (∀ (v2 : Value) (w5 : World), RAll w5 v2 (R.all ++ [p]) → (wc.drew.alloc (.cells #[.int .i64 p.src, .int .i64 p.to, strV p.b] 48)).grownBy w5 va.ownBlock → (v2.ownBlock = va.ownBlock ∨ v2.ownBlock = some (wc.drew.alloc (.cells #[.int .i64 p.src, .int .i64 p.to, strV p.b] 48)).heap.size) →
          w5.cell? ⟨m, 0, none⟩ = some (.slice Aa R.all.length capa) ∧ w5.frozen? ⟨m, 0, none⟩ = false ∧ (w5.cell? ⟨w.heap.size, 0, none⟩ = some (.int .i64 p.src) ∧ w5.cell? ⟨w.heap.size, 1, none⟩ = some (.int .i64 p.to) ∧ w5.cell? ⟨w.heap.size, 2, none⟩ = some (strV p.b)) ∧
          ((w5.setCell ⟨m, 0, none⟩ v2).cell? ⟨w.heap.size, 0, none⟩ = some (.int .i64 p.src) ∧ (w5.setCell ⟨m, 0, none⟩ v2).cell? ⟨w.heap.size, 1, none⟩ = some (.int .i64 p.to) ∧ (w5.setCell ⟨m, 0, none⟩ v2).cell? ⟨w.heap.size, 2, none⟩ = some (strV p.b)) ∧ ∃ T', RefAt (w5.setCell ⟨m, 0, none⟩ v2) T' m (R.push p) ∧ RTurn T T' w (w5.setCell ⟨m, 0, none⟩ v2)) := by
        intro v2 w5 h5 hg5 hob5
        have tm : Typed (wc.drew.alloc (.cells #[.int .i64 p.src, .int .i64 p.to, strV p.b] 48)) m 76 := ⟨_, _, hnA⟩
        have hne : some m ≠ va.ownBlock := fun e => ((hIA.all.typed m e.symm).ne tm (by decide)) rfl
        have hnx2 : some w.heap.size ≠ va.ownBlock := fun e => hxT (hIA.tall _ e.symm)
        have b5 := (hg5.block _ (Array.getElem?_eq_some_iff.1 hbxA).1 hnx2).trans hbxA
        have hmx : w.heap.size ≠ m := fun e => hxT (e ▸ hIx.tm)
        have b6 : (w5.setCell ⟨m, 0, none⟩ v2).heap[w.heap.size]? = _ := (heap_setCell_other w5 ⟨m, 0, none⟩ w.heap.size v2 hmx).trans b5
        obtain ⟨p3, p4⟩ := hIA.more hg5 h5 (hob5.elim .inl (fun e => .inr (fun g hg => by rw [e] at hg; have := Option.some.inj hg; omega)))
        have hs1 : wc.heap.size ≤ (wc.drew.alloc (.cells #[.int .i64 p.src, .int .i64 p.to, strV p.b] 48)).heap.size := hgA.size
        refine ⟨hg5.cell C1A.out hne, (World.frozen?_of_block (a := ⟨m, 0, none⟩) (hg5.block m tm.lt hne)).trans (by simp only [World.frozen?, hnA]; simp), hcx _ b5, hcx _ b6, _, ⟨xb, v2, V1, p3⟩, hT0.trans ⟨?_, fun b hb => hb.1.elim .inl (fun e => .inr (Nat.le_trans hs1 e)), fun b hb => hb.2⟩⟩
        have h7 := (Off.of_grown (S := T1) hd (by simp)).trans ((Off.of_grown hgA (by simp)).trans p4)
        exact h7
      clear hd hIx hgA hbA hIA hnx hnA hI1 hT1 hT1b hgxlt hxT hbx hbx' hbxA hcx hsA hT0
      go_upto_region 4 with fail
      refine wp_region_noPanic ?_
      refine wp_region_held_drew (S := fun w' => w'.cell? ⟨w.heap.size, 0, none⟩ = some (.int .i64 p.src) ∧ w'.cell? ⟨w.heap.size, 1, none⟩ = some (.int .i64 p.to) ∧ w'.cell? ⟨w.heap.size, 2, none⟩ = some (strV p.b)) (by kernel_rfl) ?hSb (fun hHeld => ?_)
      case hSb => exact X0.out
      refine wpAnyH_take (i := 0) (oi := ⟨_, _, _, _, _, _⟩) (v := ?vb0) rfl (by kernel_rfl) (by kernel_rfl) (by kernel_rfl) (fun _ _ _ h => h) (Or.inl ⟨by rfl, ?hyb0⟩) hHeld ?_
      case hyb0 => (intro wS hSw; (try dsimp only at hSw); go_simp; (first | done | with_reducible rfl))
      try simp only [Act.put, List.setIfInBounds_toArray, List.set_cons_zero, List.set_cons_succ]
      refine wpAnyH_take (i := 1) (oi := ⟨_, _, _, _, _, _⟩) (v := ?vb1) rfl (by kernel_rfl) (by kernel_rfl) (by kernel_rfl) (fun _ _ _ h => h) (Or.inl ⟨by rfl, ?hyb1⟩) hHeld ?_
      case hyb1 => (intro wS hSw; (try dsimp only at hSw); go_simp; (first | done | with_reducible rfl))
      try simp only [Act.put, List.setIfInBounds_toArray, List.set_cons_zero, List.set_cons_succ]
      refine wpAnyH_take (i := 2) (oi := ⟨_, _, _, _, _, _⟩) (v := ?vb2) rfl (by kernel_rfl) (by kernel_rfl) (by kernel_rfl) (fun _ _ _ h => h) (Or.inl ⟨by rfl, ?hyb2⟩) hHeld ?_
      case hyb2 => (intro wS hSw; (try dsimp only at hSw); go_simp; (first | done | with_reducible rfl))
      try simp only [Act.put, List.setIfInBounds_toArray, List.set_cons_zero, List.set_cons_succ]
      refine wpAnyH_take (i := 3) (oi := ⟨_, _, _, _, _, _⟩) (v := ?vb3) rfl (by kernel_rfl) (by kernel_rfl) (by kernel_rfl) (fun _ _ _ h => h) (Or.inl ⟨by rfl, ?hyb3⟩) hHeld ?_
      case hyb3 => (intro wS hSw; (try dsimp only at hSw); go_simp; (first | done | with_reducible rfl))
      try simp only [Act.put, List.setIfInBounds_toArray, List.set_cons_zero, List.set_cons_succ]
      refine wpAnyH_take (i := 5) (oi := ⟨_, _, _, _, _, _⟩) (v := ?vb5) rfl (by kernel_rfl) (by kernel_rfl) (by kernel_rfl) (fun _ _ _ h => h) (Or.inl ⟨by rfl, ?hyb5⟩) hHeld ?_
      case hyb5 => (intro wS hSw; (try dsimp only at hSw); go_simp; (first | done | with_reducible rfl))
      try simp only [Act.put, List.setIfInBounds_toArray, List.set_cons_zero, List.set_cons_succ]
      refine wpAnyH_ready (rs := [4, 6]) (by kernel_rfl) (by simp) ?_
      refine AllReadyH.cons (o := ⟨_, _, _, _, _, _⟩) rfl (fun K hK => ?_) (AllReadyH.cons (o := ⟨_, _, _, _, _, _⟩) rfl (fun K hK => ?_) AllReadyH.nil)
      · have c1 := C1.out
        have c1a := C1A.out
        go_simp
        clear c1 c1a
        refine hK.out _ _ ?kbx4 (fun hNew => ?_)
        case kbx4 => (try dsimp only); exact hHeld
        clear hK K hHeld
        have hHeld := hNew
        clear hNew
        try simp only [Act.put, List.setIfInBounds_toArray, List.set_cons_zero, List.set_cons_succ]
        refine wpAnyH_ready (rs := [6]) (by kernel_rfl) (by simp) ?_
        refine AllReadyH.cons (o := ⟨_, _, _, _, _, _⟩) rfl (fun K hK => ?_) AllReadyH.nil
        go_simp
        refine hK.out _ _ ?kbx6 (fun hNew => ?_)
        case kbx6 => (try dsimp only); exact X0A.out
        clear hK K hHeld
        have hHeld := hNew
        clear hNew
        try simp only [Act.put, List.setIfInBounds_toArray, List.set_cons_zero, List.set_cons_succ]
        refine wpAnyH_ready (rs := [7]) (by kernel_rfl) (by simp) ?_
        refine AllReadyH.cons (o := ⟨_, _, _, _, _, _⟩) rfl (fun K hK => ?_) AllReadyH.nil
        refine step_append_rpk rfl (.tmp 29) (.tmp 31) rfl va R.all p (by exact HVA.out.symm) HROW.out wc.heap.size rfl HBA.out HFA.out ?_
        intro v2 w5 h5 hg5 hob5
        obtain ⟨A2, n2, cap2, rfl⟩ := row_any h5
        have hp := HPUT.out _ w5 h5 hg5 hob5
        have HP := Lib.hid hp
        clear hp h5 hg5 hob5
        refine hK.out _ _ ?kbx7 (fun hNew => ?_)
        case kbx7 => (try dsimp only); exact HP.out.2.2.1
        clear hK K hHeld
        have hHeld := hNew
        clear hNew
        try simp only [Act.put, List.setIfInBounds_toArray, List.set_cons_zero, List.set_cons_succ]
        refine wpAnyH_take (i := 8) (oi := ⟨_, _, _, _, _, _⟩) (v := ?vbx8) rfl (by kernel_rfl) (by kernel_rfl) (by kernel_rfl) (fun _ _ _ h => h) (Or.inl ⟨by rfl, ?hybx8⟩) hHeld ?_
        case hybx8 => (intro wS hSw; (try dsimp only at hSw); go_simp; (first | done | with_reducible rfl))
        try simp only [Act.put, List.setIfInBounds_toArray, List.set_cons_zero, List.set_cons_succ]
        refine wpAnyH_take (i := 9) (oi := ⟨_, _, _, _, _, _⟩) (v := ?vbx9) rfl (by kernel_rfl) (by kernel_rfl) (by kernel_rfl) (fun _ _ _ h => h) (Or.inl ⟨by rfl, ?hybx9⟩) hHeld ?_
        case hybx9 => (intro wS hSw; (try dsimp only at hSw); go_simp; (first | done | with_reducible rfl))
        try simp only [Act.put, List.setIfInBounds_toArray, List.set_cons_zero, List.set_cons_succ]
        refine wpAnyH_ready (rs := [10]) (by kernel_rfl) (by simp) ?_
        refine AllReadyH.cons (o := ⟨_, _, _, _, _, _⟩) rfl (fun K hK => ?_) AllReadyH.nil
        have c5 := HP.out.1
        have z5 := HP.out.2.1
        go_simp
        clear c5 z5
        refine hK.out _ _ ?kbx10 (fun hNew => ?_)
        case kbx10 => (try dsimp only); exact HP.out.2.2.2.1
        clear hK K hHeld
        have hHeld := hNew
        clear hNew
        try simp only [Act.put, List.setIfInBounds_toArray, List.set_cons_zero, List.set_cons_succ]
        refine wpAnyH_done (by kernel_rfl) ?_ _
        refine NoPanic.normal ?_
        clear hHeld
        go_wp2_with fail
        go_ret
        exact ⟨rfl, HP.out.2.2.2.2⟩
      · go_simp
        refine hK.out _ _ ?kby6 (fun hNew => ?_)
        case kby6 => (try dsimp only); exact X0A.out
        clear hK K hHeld
        have hHeld := hNew
        clear hNew
        try simp only [Act.put, List.setIfInBounds_toArray, List.set_cons_zero, List.set_cons_succ]
        refine wpAnyH_ready (rs := [4]) (by kernel_rfl) (by simp) ?_
        refine AllReadyH.cons (o := ⟨_, _, _, _, _, _⟩) rfl (fun K hK => ?_) AllReadyH.nil
        have c1 := C1.out
        have c1a := C1A.out
        go_simp
        clear c1 c1a
        refine hK.out _ _ ?kby4 (fun hNew => ?_)
        case kby4 => (try dsimp only); exact hHeld
        clear hK K hHeld
        have hHeld := hNew
        clear hNew
        try simp only [Act.put, List.setIfInBounds_toArray, List.set_cons_zero, List.set_cons_succ]
        refine wpAnyH_ready (rs := [7]) (by kernel_rfl) (by simp) ?_
        refine AllReadyH.cons (o := ⟨_, _, _, _, _, _⟩) rfl (fun K hK => ?_) AllReadyH.nil
        refine step_append_rpk rfl (.tmp 29) (.tmp 31) rfl va R.all p (by exact HVA.out.symm) HROW.out wc.heap.size rfl HBA.out HFA.out ?_
        intro v2 w5 h5 hg5 hob5
        obtain ⟨A2, n2, cap2, rfl⟩ := row_any h5
        have hp := HPUT.out _ w5 h5 hg5 hob5
        have HP := Lib.hid hp
        clear hp h5 hg5 hob5
        refine hK.out _ _ ?kby7 (fun hNew => ?_)
        case kby7 => (try dsimp only); exact HP.out.2.2.1
        clear hK K hHeld
        have hHeld := hNew
        clear hNew
        try simp only [Act.put, List.setIfInBounds_toArray, List.set_cons_zero, List.set_cons_succ]
        refine wpAnyH_take (i := 8) (oi := ⟨_, _, _, _, _, _⟩) (v := ?vby8) rfl (by kernel_rfl) (by kernel_rfl) (by kernel_rfl) (fun _ _ _ h => h) (Or.inl ⟨by rfl, ?hyby8⟩) hHeld ?_
        case hyby8 => (intro wS hSw; (try dsimp only at hSw); go_simp; (first | done | with_reducible rfl))
        try simp only [Act.put, List.setIfInBounds_toArray, List.set_cons_zero, List.set_cons_succ]
        refine wpAnyH_take (i := 9) (oi := ⟨_, _, _, _, _, _⟩) (v := ?vby9) rfl (by kernel_rfl) (by kernel_rfl) (by kernel_rfl) (fun _ _ _ h => h) (Or.inl ⟨by rfl, ?hyby9⟩) hHeld ?_
        case hyby9 => (intro wS hSw; (try dsimp only at hSw); go_simp; (first | done | with_reducible rfl))
        try simp only [Act.put, List.setIfInBounds_toArray, List.set_cons_zero, List.set_cons_succ]
        refine wpAnyH_ready (rs := [10]) (by kernel_rfl) (by simp) ?_
        refine AllReadyH.cons (o := ⟨_, _, _, _, _, _⟩) rfl (fun K hK => ?_) AllReadyH.nil
        have c5 := HP.out.1
        have z5 := HP.out.2.1
        go_simp
        clear c5 z5
        refine hK.out _ _ ?kby10 (fun hNew => ?_)
        case kby10 => (try dsimp only); exact HP.out.2.2.2.1
        clear hK K hHeld
        have hHeld := hNew
        clear hNew
        try simp only [Act.put, List.setIfInBounds_toArray, List.set_cons_zero, List.set_cons_succ]
        refine wpAnyH_done (by kernel_rfl) ?_ _
        refine NoPanic.normal ?_
        clear hHeld
        go_wp2_with fail
        go_ret
        exact ⟨rfl, HP.out.2.2.2.2⟩
end Go.Proofs.Ytonfpifikblnjaa.Net
