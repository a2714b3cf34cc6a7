/- A sector goes into a map: sectors.put. -/
import Derived.Carry
import Derived.Maps.Range
import Derived.Maps.RangeWalk
import Derived.Lib.Hide
import Derived.Test.YtplnkpbfnpajjaaSecOps
namespace Go.Proofs.Ytplnkpbfnpajjaa.Sec
open Go.RowKit Go.Maps

/-- A write's value, and its cells. (Plain names: the walk does not look into them.) -/
def wrA (i : Nat) (l : List UInt8) : Array Value := (Value.int .i64 (i : Int) :: u8s l).toArray
theorem zero_sec (w : World) : (zeroValue 53).run Try.prog w = .ok (.agg (u8s noughts).toArray) w := by kernel_rfl
theorem guard_sec : Try.prog.eqGuardType Try.prog.depth 53 = false := by kernel_rfl
theorem size_sec : (Try.prog.info? 53).map (·.size) = some 128 := by kernel_rfl
theorem cell_new (w : World) (C : Array Value) (t : TypeId) (j : Nat) : (w.alloc (.cells C t)).cell? ⟨w.heap.size, j, none⟩ = C[j]? := by
  have hb : (w.alloc (.cells C t)).heap[w.heap.size]? = some (.cells C t) := (MapKept.heap_alloc w _).1
  simp only [World.cell?, hb]
  rfl
theorem wr_cell0 (w : World) (i : Nat) (l : List UInt8) : (w.alloc (.cells (wrA i l) 55)).cell? ⟨w.heap.size, 0, none⟩ = some (.int .i64 (i : Int)) := by
  rw [cell_new]; simp [wrA]
theorem wr_range (w : World) (i : Nat) (l : List UInt8) : (w.alloc (.cells (wrA i l) 55)).rangeAt w.heap.size 1 (u8s l) := fun j v hv => by
  rw [cell_new, Nat.add_comm]
  simp [wrA]
  exact hv
theorem wpList_load_sec {ops : Array Oper} {rest : List Oper} {op : Oper} {a : Act} {w : World} {Q : Exit → Act → World → Prop} (hgd : op.guard = none) (x : Operand) (ho : op.op = .load 53 x)
    (b o : Nat) (hx : a.eval x = .pointer (some ⟨b, o, none⟩)) (l : List UInt8) (hl : l.length = 128) (hc : w.rangeAt b o (u8s l))
    (h : wpList Try.prog ops Q rest (a.put op.dst (secV l)) w) : wpList Try.prog ops Q (op :: rest) a w :=
  wpList_load_mid hgd _ x ho b o hx (u8s l) _ hc Try.underlying53 rfl (by rw [size_sec, u8s_length, hl]) h

set_option maxRecDepth 100000 in
set_option maxHeartbeats 2000000 in
theorem put_at (m N i : Nat) (f : Nat → List UInt8) (l : List UInt8) (w : World) (hi : i < N) (hN : N ≤ 16384) (hl : l.length = 128) (h : SecMap w m N f) :
    Calls Try.prog 26 #[.map (some m), .agg (wrA i l)] w fun e w' => e = .returned (.tuple #[]) ∧ SecMap w' m N (upd f i l) ∧ w.grownBy w' (some m) := by
  obtain ⟨n, D, hn, hown, hk, hf⟩ := h
  have hzs := zero_sec
  have hgu : ∀ w' x y, (eqGuard .eql 53 x y (secV l) (.agg (u8s noughts).toArray)).run Try.prog w' = .ok () w' := fun w' x y => run_eqGuard_agg w' _ _ x y _ _ guard_sec
  have HR := Lib.hid (wr_range w i l)
  have HL := Lib.hid hl
  have hc0 := wr_cell0 w i l
  have hkey := keyOf_nat (i := i) (by omega)
  have hma := hown.canon intKeyed
  have hma' : IsMap D := let ⟨es, e, _⟩ := hma; ⟨es, e⟩
  have hown0 := hown.alloc (.cells (wrA i l) 55)
  have hg0 := World.grownBy_alloc w (.cells (wrA i l) 55) none
  by_cases hz : l = noughts
  · have heq : ∀ w', (binOp .eql 53 (secV l) (.agg (u8s noughts).toArray)).run Try.prog w' = .ok (.bool true) w' := fun w' => by rw [show Value.agg (u8s noughts).toArray = secV noughts from rfl, run_eql_sec w' l noughts hl noughts_length, decide_eq_true hz]
    have HZ := Lib.hid hz
    clear hma hz
    go_enter Try.func26, Try.ntmps26
    go_wp2_with (first
      | (at_delete; refine wpList_delete_own _ rfl _ _ 46 3 rfl 53 intKeyed Try.underlying46 secR m n D rfl hown0 _ _ rfl hkey ?_; intro w1 hown1 hturn1; go_frame)
      | (refine wpList_load_sec rfl _ rfl w.heap.size 1 rfl l HL.out HR.out ?_; go_frame)
      | go_in)
    refine bodyPost_ret (results_none rfl _ _ _) rfl ?_
    refine ⟨rfl, ?_, (hg0.but _).andThen hturn1.grown (fun j hj => .inr hj)⟩
    rw [HZ.out]
    exact SecMap.del hn hk hf hown1
  · have heq : ∀ w', (binOp .eql 53 (secV l) (.agg (u8s noughts).toArray)).run Try.prog w' = .ok (.bool false) w' := fun w' => by rw [show Value.agg (u8s noughts).toArray = secV noughts from rfl, run_eql_sec w' l noughts hl noughts_length, decide_eq_false hz]
    have HZ := Lib.hid hz
    have hroom : n < maxLen := by unfold maxLen; omega
    clear hz
    go_enter Try.func26, Try.ntmps26
    go_wp2_with (first
      | (at_mapUpdate; refine wpList_mapUpdate_own _ rfl _ _ _ 46 rfl 3 53 intKeyed Try.underlying46 secR m _ _ rfl hown0 hroom _ _ _ rfl rfl hkey _ _ (secR_mk HL.out) ?_; intro w2 hown2 hg2; go_frame)
      | (refine wpList_load_sec rfl _ rfl w.heap.size 1 rfl l HL.out HR.out ?_; go_frame)
      | go_in)
    go_end0
    exact ⟨rfl, SecMap.put hi hk hf hma' hn hown2, (hg0.but _).andThen hg2 (fun j hj => .inr hj)⟩
end Go.Proofs.Ytplnkpbfnpajjaa.Sec
