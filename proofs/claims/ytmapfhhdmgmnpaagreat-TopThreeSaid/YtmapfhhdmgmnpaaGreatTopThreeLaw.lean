/- Proved: for every tree and every three lists of operations the law TopThree returns true and changes nothing that was there. Conditions: none. -/
import Derived.Test.YtmapfhhdmgmnpaaGreatRows
import Derived.WalkKit
import Derived.ProofKit
import Derived.OpenShut
import Derived.ShutString
import Derived.ChangeOld
import Derived.Below
import Derived.Test.YtmapfhhdmgmnpaaGreatK16
namespace Go.Proofs.YtmapfhhdmgmnpaaGreat.topThree
open Go Go.Proofs Go.ChangeShapes Go.WideShapes Go.ChangeAt Go.RowKit
set_option linter.unusedVariables false
theorem own : ownKnob Tryz.prog.godebug = none := by kernel_rfl
theorem laidOut : laidOutB Tryz.prog = true := by kernel_rfl
set_option maxRecDepth 100000 in
theorem lifted (os : Os) (started : os.Started) (H : Type) (enc : TypeId × Value → H) :
    ReturnsInHanded {} Tryz.checked os 3 .any (Rows.topThreeSpec.pre6 enc Tryz.prog Tryz.f3 Rows.topThreeRow.domain false) (Rows.topThreeSpec.post enc Tryz.prog Tryz.f3 false true false false) := by
  refine returnsInHanded_of_change (C := Tryz.checked) own started (by kernel_rfl) Tryz.func3
    (ChangeSpec.witness6 (enc := enc) (C := Tryz.checked) false ⟨#[], #[.agg #[.int .u64 0, .bool false, .string ⟨#[]⟩, .slice none 0 0, .string ⟨#[]⟩, .slice none 0 0], .slice none 0 0, .slice none 0 0, .slice none 0 0], []⟩ 8 (by kernel_rfl) (by kernel_rfl) (by kernel_rfl) (by kernel_rfl)) ?_
  intro W base args ds gs before hval0 hW hcnd _
  have hval : ∀ (j : Nat) t v, Tryz.f3.params[j]? = some t → args[j]? = some v → Value.okWide Tryz.prog W .any base t v := hval0
  have hW' := hW
  obtain ⟨p, q, hA0, hV, rfl, hfz, hnd⟩ := hW
  have hA : DataW.TrodAll enc Tryz.prog W 0 (fun _ => true) true Tryz.f3.params.toList args.toList ds p := hA0
  rw [Tryz.params3] at hA hval
  obtain ⟨v0, vs0, d0, ds0, p0, q0, hargs, rfl, rfl, h0, r0⟩ := trodAll_cons hA
  obtain ⟨v1, vs1, d1, ds1, p1, q1, rfl, rfl, rfl, h1, r1⟩ := trodAll_cons r0
  obtain ⟨v2, vs2, d2, ds2, p2, q2, rfl, rfl, rfl, h2, r2⟩ := trodAll_cons r1
  obtain ⟨v3, vs3, d3, ds3, p3, q3, rfl, rfl, rfl, h3, r3⟩ := trodAll_cons r2
  obtain ⟨rfl, rfl, rfl⟩ := trodAll_nil r3
  obtain rfl : args = #[v0, v1, v2, v3] := by cases args; simp_all
  obtain ⟨rfl, rfl⟩ := trodVars_none hV
  obtain ⟨cs0, rfl, hcs0⟩ : ∃ cs, v0 = .agg cs ∧ True := by
    have := hval 0 26 v0 rfl rfl
    simp only [Value.okWide, Tryz.underlying26] at this
    obtain ⟨cs, e, _⟩ := this
    exact ⟨cs, e, trivial⟩
  obtain ⟨a1, len1, cap1, rfl⟩ := okWide_slice Tryz.underlying27 (hval 1 27 v1 rfl rfl)
  obtain ⟨a2, len2, cap2, rfl⟩ := okWide_slice Tryz.underlying27 (hval 2 27 v2 rfl rfl)
  obtain ⟨a3, len3, cap3, rfl⟩ := okWide_slice Tryz.underlying27 (hval 3 27 v3 rfl rfl)
  have k0 := h0
  have k1 := h1
  have k2 := h2
  have k3 := h3
  have lt0 : ∀ x ∈ p0, x.block < W.heap.size := by obtain ⟨m, hm⟩ := k0; exact DataW.trod_lt m _ _ _ hm
  have lt1 : ∀ x ∈ p1, x.block < W.heap.size := by obtain ⟨m, hm⟩ := k1; exact DataW.trod_lt m _ _ _ hm
  have lt2 : ∀ x ∈ p2, x.block < W.heap.size := by obtain ⟨m, hm⟩ := k2; exact DataW.trod_lt m _ _ _ hm
  have lt3 : ∀ x ∈ p3, x.block < W.heap.size := by obtain ⟨m, hm⟩ := k3; exact DataW.trod_lt m _ _ _ hm
  obtain ⟨T, hT⟩ : ∃ T, Ev.RV (Ev.ice W) W (Ev.vNode T) (.agg cs0) := by
    obtain ⟨m, hm⟩ := h0
    obtain ⟨T, hT⟩ := Ev.node_open (Ev.ice_ice W) m m (Nat.le_refl _) _ _ hm
    exact ⟨T, cs0, rfl, hT⟩
  obtain ⟨A, hA1⟩ : ∃ A, Ev.RV (Ev.ice W) W (Ev.rowO A) (.slice a1 len1 cap1) := by
    obtain ⟨m, hm⟩ := h1
    obtain ⟨l, V, e, hl⟩ := Ev.ops_open (Ev.ice_ice W) hm
    cases e
    exact ⟨l, hl⟩
  obtain ⟨B, hB1⟩ : ∃ A, Ev.RV (Ev.ice W) W (Ev.rowO A) (.slice a2 len2 cap2) := by
    obtain ⟨m, hm⟩ := h2
    obtain ⟨l, V, e, hl⟩ := Ev.ops_open (Ev.ice_ice W) hm
    cases e
    exact ⟨l, hl⟩
  obtain ⟨C, hC1⟩ : ∃ A, Ev.RV (Ev.ice W) W (Ev.rowO A) (.slice a3 len3 cap3) := by
    obtain ⟨m, hm⟩ := h3
    obtain ⟨l, V, e, hl⟩ := Ev.ops_open (Ev.ice_ice W) hm
    cases e
    exact ⟨l, hl⟩
  clear hA0 hval0
  obtain ⟨w0, A', hc, hz⟩ := Ev.topThree_calls T A B C
  have walk := Ev.calls_of hc hz (Ev.cleanL_cons (Ev.vNode_clean T) (Ev.cl3 (Ev.rowO_clean A) (Ev.rowO_clean B) (Ev.rowO_clean C))) (Ev.rvl_cons hT (Ev.rvl_cons hA1 (Ev.rvl_cons hB1 (Ev.rvl_cons hC1 rfl)))) rfl
  refine walk.mono fun e W' ⟨he, bel⟩ => ?_
  subst he
  exact ⟨_, rfl, _, _, _, [], _, [], hW', trodAll_mk1 (shut_bool Tryz.underlying4 _), (trodAll_cons_mk (Below.trod laidOut (by kernel_rfl) (of_decide_eq_true (by kernel_rfl)) k0 bel lt0) (trodAll_cons_mk (Below.trod laidOut (by kernel_rfl) (of_decide_eq_true (by kernel_rfl)) k1 bel lt1) (trodAll_cons_mk (Below.trod laidOut (by kernel_rfl) (of_decide_eq_true (by kernel_rfl)) k2 bel lt2) (trodAll_cons_mk (Below.trod laidOut (by kernel_rfl) (of_decide_eq_true (by kernel_rfl)) k3 bel lt3) trodAll_mk0)))), rfl, bel.frame _, fun h => by cases h⟩
theorem f_inPlace : (Rows.topThreeRow.inPlace == Tryz.pinned.checked.prog.inPlace 3) = true := by kernel_rfl
theorem f_unfollowed : (Rows.topThreeRow.unfollowed == Tryz.pinned.checked.prog.unfollowed 3) = true := by kernel_rfl
theorem f_recurses : (Rows.topThreeRow.recurses == Tryz.pinned.checked.prog.recurses 3) = true := by kernel_rfl
theorem f_named : (Rows.topThreeRow.named == Tryz.pinned.checked.prog.varsNamed 3) = true := by kernel_rfl
theorem closed : joinedFacts Tryz.pinned.checked.prog 3 Tryz.f3 Rows.topThreeSpec Rows.topThreeRow = true := by
  unfold joinedFacts
  rw [f_inPlace, f_unfollowed, f_recurses, f_named]
  kernel_rfl
theorem over : Rows.topThreeRow.holds Tryz.pinned (OpenSpec.ofChange Rows.topThreeSpec) :=
  OpenClaim.holds_of_wide 3 Tryz.f3 rfl rfl rfl rfl rfl rfl rfl ⟨rfl, rfl, rfl, rfl, rfl⟩ rfl rfl rfl rfl rfl (by kernel_rfl) Tryz.func3 closed
    (of_decide_eq_true (by kernel_rfl)) (by unfold Func.isWrapper; first | (rw [if_pos (by decide +kernel)]; kernel_rfl) | (rw [if_neg (by decide +kernel)]; exact ⟨rfl, rfl⟩))
    (fun os started H enc _ => lifted os started H enc)
theorem proved : Rows.TopThreeSaid := over
#print axioms proved
end Go.Proofs.YtmapfhhdmgmnpaaGreat.topThree
