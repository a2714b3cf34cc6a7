/- The operations of a write: its value is made, laid, appended. -/
import Derived.Great.BuildSlice
import Derived.Maps.AppendAt
import Derived.Deep.RegionLaw
import Derived.Test.YtplnkpbfnpajjaaSecCopy
namespace Go.Proofs.Ytplnkpbfnpajjaa.Sec
open Go.RowKit Go.Maps

theorem zero_wr (w : World) : (zeroValue 55).run Try.prog w = .ok (.agg (wrA 0 noughts)) w := by kernel_rfl
theorem size_wr : (Try.prog.info? 55).map (·.size) = some 129 := by kernel_rfl
theorem build_wr (w : World) (i : Nat) : (Instr.build 55 #[(0, .int .i64 (i : Int))]).run Try.prog w = .ok (.agg (wrA i noughts)) w := by kernel_rfl
theorem info_wr : (Try.prog.info? 55).map (fun i => (i.zero, i.size, i.bytes)) = some (some (.agg (wrA 0 noughts)), 129, 136) := by kernel_rfl
theorem wrA_size (i : Nat) (l : List UInt8) : (wrA i l).size = l.length + 1 := by simp [wrA, u8s_length]
theorem wrA_list (i : Nat) (l : List UInt8) : (wrA i l).toList = .int .i64 (i : Int) :: u8s l := by simp [wrA]
theorem wrA_one (i : Nat) (l : List UInt8) : ∀ v ∈ (wrA i l).toList, v.oneCell' = true := by
  intro v hv
  rw [wrA_list] at hv
  rcases List.mem_cons.1 hv with rfl | hv
  · rfl
  · simp only [u8s, List.mem_map] at hv
    obtain ⟨c, _, rfl⟩ := hv
    rfl
theorem u8s_one (l : List UInt8) : ∀ v ∈ u8s l, v.oneCell' = true := by
  intro v hv
  simp only [u8s, List.mem_map] at hv
  obtain ⟨c, _, rfl⟩ := hv
  rfl

theorem fill_one (cs A : Array Value) (n : Nat) (hn : 0 < n) (h1 : cs.size = n) (h2 : A.size = n) : Instr.fill (fun i => some (i * n, n)) A [(0, .agg cs)] = some cs := by
  have := Great.fill_whole hn [.agg cs] A (by simpa [Value.cells] using h1) (by simpa using h2.symm)
  simpa [Value.cells] using this

/-- A slice literal of one write. -/
theorem run_one_wr (w : World) (i : Nat) (l : List UInt8) (hl : l.length = 128) : (Instr.buildSlice 47 1 #[(0, .agg (wrA i l))]).run Try.prog w = .ok (.slice (some ⟨w.heap.size, 0, none⟩) 1 1) (w.alloc (.cells (wrA i l) 55)) := by
  obtain ⟨i0, hi0, he⟩ := Option.map_eq_some_iff.1 info_wr
  simp only [Prod.mk.injEq] at he
  refine run_buildSlice w _ _ 1 _ _ i0 _ Try.underlying47 hi0 he.1 (by rw [he.2.1]; decide) (by rw [he.2.1]; decide) ?_
  rw [he.2.1]
  exact fill_one _ _ 129 (by decide) (by rw [wrA_size, hl]) (by simp)

section
variable {P : Program} {ops : Array Oper} {o : Oper} {a : Act} {w : World} {K : Act → World → Prop} {Q : Exit → Act → World → Prop} {E : Prop}
/-- append to a row that is owned, as one step of a region that draws. -/
theorem step_append_own (hg : o.guard = none) (s x : Operand) (t e : TypeId) (hop : o.op = Op.call { callee := Callee.builtin Builtin.append, args := #[s, x], argTypes := #[t, t] })
    (i : TypeInfo) (z : Value) (size bytes : Nat) (ht : P.underlying t = some (.slice e)) (hi : P.info? e = some i) (hz : i.zero = some z) (hsize : i.size = size) (hby : i.bytes = bytes) (hzs : z.cells.size = size) (hsz : 0 < size)
    (base : Nat) (v : Value) (n : Nat) (xs : List Value) (hown : w.ownsRow base e size v n xs) (hs : a.eval s = v)
    (ad : Addr) (m c : Nat) (news : List Value) (hx : a.eval x = .slice (some ad) m c) (hl : news.length = m * size) (hnews : ∀ j u, news[j]? = some u → w.cell? (ad.add j) = some u) (h1 : ∀ u ∈ news, u.oneCell' = true)
    (h63 : n + m ≤ maxLen) (hbytes : (n + m) * bytes ≤ 140737488355328) (hbase : base ≤ w.heap.size)
    (hK : ∀ v' w', w'.ownsRow base e size v' (n + m) (xs ++ news) → w.grownBy w' v.ownBlock → (v'.ownBlock = v.ownBlock ∨ v'.ownBlock = some w.heap.size) → K (a.put o.dst v') w') :
    if Region.wanted o (yielded ops a.tmps) = true then Oper.wp P o a w K Q else E := by
  have hw : Region.wanted o (yielded ops a.tmps) = true := by simp [Region.wanted, hg]
  rw [if_pos hw]
  obtain ⟨v', w', hrun, hown', hgr, _, hob⟩ := run_append_own_at (P := P) w base t o.type e i z size bytes ht hi hz hsize hby hzs hsz v n xs hown ad m c news hl hnews h1 h63 hbytes hbase
  unfold Oper.wp
  simp [execOp, hop, resolve, invoke, builtin, hs, hx, hrun, Result.andThen]
  exact hK v' w' hown' hgr hob
/-- An operation that yields a value, as one step of a region that draws. -/
theorem step_wp (hg : o.guard = none) (h : Oper.wp P o a w K Q) : if Region.wanted o (yielded ops a.tmps) = true then Oper.wp P o a w K Q else E := by
  have hw : Region.wanted o (yielded ops a.tmps) = true := by simp [Region.wanted, hg]
  rw [if_pos hw]
  exact h
end
end Go.Proofs.Ytplnkpbfnpajjaa.Sec
