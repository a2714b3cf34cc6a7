/- A sector is read: sectors.Read. -/
import Derived.Test.YtplnkpbfnpajjaaSecNew
namespace Go.Proofs.Ytplnkpbfnpajjaa.Sec
open Go.RowKit Go.Maps

theorem look_at {w : World} {b N i : Nat} {f : Nat → List UInt8} (h : SecMap w b N f) (hi : i < N) (hN : N ≤ 16384) :
    (f i).length = 128 ∧ (Instr.lookup 46 (.map (some b)) (.int .i64 (i : Int)) false).run Try.prog w = .ok (secV (f i)) w := by
  obtain ⟨n, D, hn, hown, hk, hf⟩ := h
  obtain ⟨v, ps, hrun, hv⟩ := hown.lookup intKeyed Try.underlying46 (zero_sec w) (secR_mk noughts_length) (keyOf_nat (i := i) (by omega))
  rw [hf i hi] at hv
  obtain ⟨l, hl, rfl, e⟩ := secR_inv hv
  have e1 : f i = l := by
    injection e with e1 _
    injection e1 with e1
    injection e1
  rw [e1]
  exact ⟨hl, hrun⟩

theorem wpList_store_sec {ops : Array Oper} {rest : List Oper} {op : Oper} {a : Act} {w : World} {Q : Exit → Act → World → Prop} (hgd : op.guard = none) (x y : Operand) (ho : op.op = .store 53 x y)
    (b o : Nat) (l : List UInt8) (hl : l.length = 128) (hx : a.eval x = .pointer (some ⟨b, o, none⟩)) (hy : a.eval y = secV l) (ht : w.there b o 128)
    (h : wpList Try.prog ops Q rest (a.put op.dst undef) (w.setCells b o (u8s l))) : wpList Try.prog ops Q (op :: rest) a w :=
  wpList_store_mid hgd _ x y ho b o (u8s l).toArray hx hy (by simpa [u8s_length, hl] using ht) (by rw [size_sec]; simp [u8s_length, hl])
    (by simp [u8s]; intro i hi; rfl) (by simpa using h)

theorem there_new (w : World) (C : Array Value) (t : TypeId) (n : Nat) (hn : n ≤ C.size) : (w.alloc (.cells C t)).there w.heap.size 0 n := fun j hj => by
  rw [Nat.zero_add, cell_new]
  exact ⟨by simp; omega, frozen_blk (MapKept.heap_alloc w _).1 j⟩

set_option maxRecDepth 100000 in
set_option maxHeartbeats 2000000 in
theorem read_ok (S : Nat → Prop) (d i : Nat) (D : Dsk) (w : World) (h : DiskAt w S d D) (hi : i < D.n) (ho : D.off = false) :
    Calls Try.prog 22 #[.pointer (some ⟨d, 0, none⟩), .int .i64 (i : Int)] w fun e w' => e = .returned (.tuple #[.slice (some ⟨w.heap.size, 0, none⟩) 128 128, .int .i64 0]) ∧ w' = (w.alloc (.cells (u8s noughts).toArray 53)).setCells w.heap.size 0 (u8s (D.now i)) := by
  have hask := asked_at S d D (i : Int) w h
  rw [show askedN D (i : Int) = 0 by unfold askedN; rw [if_neg (by simp [ho]), if_neg (by omega)]] at hask
  obtain ⟨h1, _, mb, mn, sv, pa, hd, _, _, _, _, _, hsn, _⟩ := h
  obtain ⟨hl, hlk⟩ := look_at hsn hi h1
  have c2 : w.cell? ⟨d, 2, none⟩ = some (.map (some mn)) := cell_blk hd 2
  have hzs := zero_sec
  have HL := Lib.hid hl
  have HT := Lib.hid (there_new w (u8s noughts).toArray 53 128 (by simp [u8s_length, noughts_length]))
  have HA := Lib.hid hask
  clear hd hask hl hsn
  go_enter Try.func22, Try.ntmps22
  go_wp2_with fail
  refine HA.out.mono ?_
  rintro e w' ⟨rfl, rfl⟩
  go_wp2_with (first
    | (refine wpList_store_sec rfl _ _ rfl w.heap.size 0 (D.now i) HL.out rfl rfl HT.out ?_; go_frame)
    | go_in)
  go_ret2
  exact ⟨rfl, rfl⟩
end Go.Proofs.Ytplnkpbfnpajjaa.Sec
