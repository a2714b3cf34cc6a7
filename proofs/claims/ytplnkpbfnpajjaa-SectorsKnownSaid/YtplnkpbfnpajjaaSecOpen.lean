/- A row of calls that came in, opened. -/
import Derived.Deep.Strs
import Derived.Test.YtplnkpbfnpajjaaSecCutsW
namespace Go.Proofs.Ytplnkpbfnpajjaa.Sec
open Go.RowKit Go.Maps Go.Deep Go.ChangeShapes Go.WideShapes

theorem cells_call : Try.prog.cellsOf 31 = 3 := by kernel_rfl
theorem cells_int : Try.prog.cellsOf 3 = 1 := by kernel_rfl
theorem cells_bytes : Try.prog.cellsOf 29 = 1 := by kernel_rfl
instance : Inhabited CallV := ⟨⟨0, 0, []⟩⟩

theorem bytes_open {H : Type} {enc : TypeId × Value → H} {W : World} {fuel : Nat} {v : Value} {x : DataW H × List MemPlace} (h : DataW.trod enc Try.prog W 0 (fun _ => true) true fuel 29 [v] = some x) :
    ∃ (A : Option Addr) (l : List UInt8) (cap : Nat), v = .slice A l.length cap ∧ RowB W (fun b => W.heap.size ≤ b) A l ∧ l.length ≤ cap ∧ cap ≤ maxLen := by
  rcases open_ints Try.underlying29 Try.underlying5 cells_u8 h with ⟨hcs, _⟩ | ⟨a, l, c, zs, hcs, _, hl, hm, hz, _, hcell, hwz⟩
  · simp at hcs
    exact ⟨none, [], 0, by simpa using hcs, .inl rfl, Nat.le_refl _, by unfold maxLen; omega⟩
  · simp at hcs hz
    refine ⟨some a, (zs.take l).map fun n => UInt8.ofNat n.toNat, c, by rw [hcs]; simp; omega, ?_, by simp; omega, hm⟩
    by_cases h0 : l = 0
    · left; subst h0; simp
    · right
      obtain ⟨b, off, spot⟩ := a
      have hc := hcell 0 (by omega)
      have hspot : spot = none := by simpa [Addr.add] using World.cell?_spot hc
      subst hspot
      have hlt : b < W.heap.size := World.block_lt_of_cell? W _ (show W.cell? ⟨b, off, none⟩ = _ by simpa [Addr.add] using hc)
      refine ⟨b, off, rfl, by omega, fun j u hu => ?_⟩
      have hj : j < l := by
        have := (List.getElem?_eq_some_iff.1 hu).1
        simp [u8s] at this
        omega
      have hcc := hcell j (by omega)
      rw [Addr.add_mid] at hcc
      rw [hcc]
      have hzj : zs.getD j 0 = zs[j]'(by omega) := by simp [show j < zs.length by omega]
      have hw := hwz (zs.getD j 0) (by rw [hzj]; exact List.getElem_mem _)
      have hb : 0 ≤ zs.getD j 0 ∧ zs.getD j 0 ≤ 255 := by
        simp [Lit.wf, IntKind.min, IntKind.max, IntKind.bits, IntKind.signed] at hw
        simpa using hw
      rw [hzj] at hb ⊢
      simp [u8s, hj, show j < zs.length by omega] at hu
      rw [← hu]
      congr 2
      omega

theorem call_open {H : Type} {enc : TypeId × Value → H} {W : World} {fuel : Nat} {g o : Nat} {cs : List Value} {x : DataW H × List MemPlace} (hc : W.cells? 0 ⟨g, o, none⟩ 3 = some cs) (h : DataW.trod enc Try.prog W 0 (fun _ => true) true fuel 31 cs = some x) :
    ∃ c : CallV, CallAt W (fun b => W.heap.size ≤ b) g o c ∧ (Lit.int .i64 c.i).wf = true ∧ c.b.length ≤ maxLen := by
  obtain ⟨_, hlen, hcell⟩ := World.cells?_some hc
  obtain ⟨y0, y1, y2, n, _, _, t0, t1, t2⟩ := trod_struct3 Try.underlying31 h
  match cs, hlen with
  | [v0, v1, v2], _ =>
    simp only [cells_u8, cells_int, cells_bytes, List.drop_zero, List.drop_succ_cons, List.take_succ_cons, List.take_zero] at t0 t1 t2
    obtain ⟨z0, e0, _, w0⟩ := DataW.trod_int Try.underlying5 t0
    obtain ⟨z1, e1, _, w1⟩ := DataW.trod_int Try.underlying3 t1
    obtain ⟨A, l, cap, e2, hr, hlc, hm⟩ := bytes_open t2
    simp at e0 e1
    subst e0 e1 e2
    have hb : 0 ≤ z0 ∧ z0 ≤ 255 := by
      simp [Lit.wf, IntKind.min, IntKind.max, IntKind.bits, IntKind.signed] at w0
      simpa using w0
    have c0 := hcell 0 (by omega)
    have c1 := hcell 1 (by omega)
    have c2 := hcell 2 (by omega)
    rw [Addr.add_mid] at c0 c1 c2
    refine ⟨⟨UInt8.ofNat z0.toNat, z1, l⟩, ⟨?_, c1, A, cap, c2, hr, hlc, hm⟩, w1, Nat.le_trans hlc hm⟩
    rw [show o = o + 0 from rfl, c0]
    simp
    omega

theorem calls_open {H : Type} {enc : TypeId × Value → H} {W : World} {fuel : Nat} {a : Option Addr} {len cap : Nat} {x : DataW H × List MemPlace} (h : DataW.trod enc Try.prog W 0 (fun _ => true) true fuel 22 [.slice a len cap] = some x) :
    ∃ l : List CallV, l.length = len ∧ len ≤ cap ∧ cap ≤ maxLen ∧ CallsAt W (fun b => W.heap.size ≤ b) a l := by
  rcases open_slice Try.underlying22 h with ⟨hcs, _⟩ | ⟨a', l, c, m, n, D, Pl, hcs, _, hl, hm, he, _, hel⟩
  · simp at hcs
    obtain ⟨rfl, rfl, rfl⟩ := hcs
    exact ⟨[], rfl, Nat.le_refl _, by unfold maxLen; omega, by simp, .inl rfl⟩
  · simp at hcs he
    obtain ⟨rfl, rfl, rfl⟩ := hcs
    subst he
    by_cases h0 : len = 0
    · subst h0
      exact ⟨[], rfl, hl, hm, by simp, .inl rfl⟩
    · obtain ⟨b, off, spot⟩ := a'
      have hspot : spot = none := by
        obtain ⟨cs', hc', _⟩ := hel 0 (by omega)
        obtain ⟨_, hlen', hcell⟩ := World.cells?_some hc'
        rw [cells_call] at hlen' hcell
        have := hcell 0 (by omega)
        match cs', hlen' with
        | v :: _, _ => simpa [Addr.add] using World.cell?_spot this
      subst hspot
      obtain ⟨f, hf⟩ := choose_lt (n := len) (p := fun i (c : CallV) => CallAt W (fun b => W.heap.size ≤ b) b (off + i * 3) c ∧ (Lit.int .i64 c.i).wf = true ∧ c.b.length ≤ maxLen) (fun i hi => by
        obtain ⟨cs', hc', ht⟩ := hel i (by omega)
        rw [cells_call, Addr.add_mid] at hc'
        exact call_open hc' ht)
      refine ⟨(List.range len).map f, by simp, hl, hm, ?_, .inr ⟨b, off, rfl, ?_, ?_⟩⟩
      · intro c hc
        obtain ⟨i, hi, rfl⟩ := List.mem_map.1 hc
        exact (hf i (by simpa using hi)).2
      · have := World.block_lt_of_cell? W _ (hf 0 (by omega)).1.1
        dsimp only at this
        omega
      · intro j c hj
        have hjl : j < len := by
          have := (List.getElem?_eq_some_iff.1 hj).1
          simpa using this
        simp [hjl] at hj
        rw [← hj]
        exact (hf j hjl).1
end Go.Proofs.Ytplnkpbfnpajjaa.Sec
