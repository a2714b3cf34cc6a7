/- A row of things to be done that came in, opened. -/
import Derived.Deep.Strs
import Derived.Lib.SmallJoins
import Derived.OpenShut
import Derived.ChangeOld
import Derived.Test.YtonfpifikblnjaaNetArgs
namespace Go.Proofs.Ytonfpifikblnjaa.Net
open Go.RowKit Go.Deep Go.Joins Go.ChangeShapes Go.WideShapes

theorem cells_act : Try.prog.cellsOf 33 = 4 := by kernel_rfl
theorem cells_int : Try.prog.cellsOf 3 = 1 := by kernel_rfl
theorem cells_u8 : Try.prog.cellsOf 5 = 1 := by kernel_rfl
theorem cells_str : Try.prog.cellsOf 9 = 1 := by kernel_rfl

theorem act_open {H : Type} {enc : TypeId × Value → H} {W : World} {fuel : Nat} {g o : Nat} {cs : List Value} {x : DataW H × List MemPlace} (hc : W.cells? 0 ⟨g, o, none⟩ 4 = some cs) (h : DataW.trod enc Try.prog W 0 (fun _ => true) true fuel 33 cs = some x) :
    ∃ c : ActV, ActAt W g o c := by
  obtain ⟨_, hlen, hcell⟩ := World.cells?_some hc
  obtain ⟨y0, y1, y2, y3, n, _, _, t0, t1, t2, t3⟩ := trod_struct4 Try.underlying33 h
  match cs, hlen with
  | [v0, v1, v2, v3], _ =>
    simp only [cells_u8, cells_int, cells_str, List.drop_zero, List.drop_succ_cons, List.take_succ_cons, List.take_zero] at t0 t1 t2 t3
    obtain ⟨z0, e0, _, w0⟩ := DataW.trod_int Try.underlying5 t0
    obtain ⟨z1, e1, _, w1⟩ := DataW.trod_int Try.underlying3 t1
    obtain ⟨z2, e2, _, w2⟩ := DataW.trod_int Try.underlying3 t2
    obtain ⟨s, e3, _, _⟩ := DataW.trod_string Try.underlying9 t3
    simp at e0 e1 e2 e3
    subst e0 e1 e2 e3
    have hb : 0 ≤ z0 ∧ z0 ≤ 255 := by
      simp [Lit.wf, IntKind.min, IntKind.max, IntKind.bits, IntKind.signed] at w0
      simpa using w0
    have c0 := hcell 0 (by omega)
    have c1 := hcell 1 (by omega)
    have c2 := hcell 2 (by omega)
    have c3 := hcell 3 (by omega)
    rw [Addr.add_mid] at c0 c1 c2 c3
    refine ⟨⟨UInt8.ofNat z0.toNat, z1, z2, s.data.toList⟩, ⟨?_, c1, c2, c3.trans ?_⟩⟩
    · rw [show o = o + 0 from rfl, c0]
      simp
      omega
    · show some (Value.string s) = some (strV s.data.toList)
      rw [strV, ← bs_of]

theorem acts_open {H : Type} {enc : TypeId × Value → H} {W : World} {fuel : Nat} {a : Option Addr} {len cap : Nat} {x : DataW H × List MemPlace} (h : DataW.trod enc Try.prog W 0 (fun _ => true) true fuel 22 [.slice a len cap] = some x) :
    ∃ l : List ActV, l.length = len ∧ len ≤ cap ∧ cap ≤ maxLen ∧ ActsAt W (fun b => W.heap.size ≤ b) a l := by
  rcases open_slice Try.underlying22 h with ⟨hcs, _⟩ | ⟨a', l, c, m, n, D, Pl, hcs, _, hl, hm, he, _, hel⟩
  · simp at hcs
    obtain ⟨rfl, rfl, rfl⟩ := hcs
    exact ⟨[], rfl, Nat.le_refl _, by unfold maxLen; omega, .inl rfl⟩
  · simp at hcs he
    obtain ⟨rfl, rfl, rfl⟩ := hcs
    subst he
    by_cases h0 : len = 0
    · subst h0
      exact ⟨[], rfl, hl, hm, .inl rfl⟩
    · obtain ⟨b, off, spot⟩ := a'
      have hspot : spot = none := by
        obtain ⟨cs', hc', _⟩ := hel 0 (by omega)
        obtain ⟨_, hlen', hcell⟩ := World.cells?_some hc'
        rw [cells_act] at hlen' hcell
        have := hcell 0 (by omega)
        match cs', hlen' with
        | v :: _, _ => simpa [Addr.add] using World.cell?_spot this
      subst hspot
      obtain ⟨f, hf⟩ := choose_lt (n := len) (p := fun i (c : ActV) => ActAt W b (off + i * 4) c) (fun i hi => by
        obtain ⟨cs', hc', ht⟩ := hel i (by omega)
        rw [cells_act, Addr.add_mid] at hc'
        exact act_open hc' ht)
      have hlt : b < W.heap.size := World.block_lt_of_cell? W _ (hf 0 (by omega)).1
      refine ⟨(List.range len).map f, by simp, hl, hm, .inr ⟨b, off, rfl, ?_, hlt, ?_⟩⟩
      · show ¬ W.heap.size ≤ b
        omega
      · intro j c hj
        have hjl : j < len := by
          have := (List.getElem?_eq_some_iff.1 hj).1
          simpa using this
        simp [hjl] at hj
        rw [← hj]
        exact hf j hjl
end Go.Proofs.Ytonfpifikblnjaa.Net
