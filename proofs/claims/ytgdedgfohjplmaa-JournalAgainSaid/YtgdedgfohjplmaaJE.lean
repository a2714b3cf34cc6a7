/- The journal: headOf. -/
import Derived.Laws.ResultCell
import Derived.Laws.Rows
import Derived.Deep.CutBlock
import Derived.Test.YtgdedgfohjplmaaJD
namespace Go.Proofs.Ytgdedgfohjplmaa.Jnl
open Go.RowKit Go.Maps Sec

set_option maxRecDepth 100000 in
theorem run_idx3p (w : World) (x y z : Value) (hx : ∃ p, x = .pointer p) (hy : ∃ p, y = .pointer p) (hz : ∃ p, z = .pointer p) : (Instr.index 92 (.agg #[x, y, z]) (.int .i64 0)).run Try.prog w = .ok x w ∧ (Instr.index 92 (.agg #[x, y, z]) (.int .i64 1)).run Try.prog w = .ok y w ∧ (Instr.index 92 (.agg #[x, y, z]) (.int .i64 2)).run Try.prog w = .ok z w := by
  obtain ⟨_, rfl⟩ := hx
  obtain ⟨_, rfl⟩ := hy
  obtain ⟨_, rfl⟩ := hz
  have h : (Try.prog.info? 91).map (fun i => i.size) = some 1 := by kernel_rfl
  obtain ⟨i0, hi0, he⟩ := Option.map_eq_some_iff.1 h
  refine ⟨?_, ?_, ?_⟩ <;> simp [Instr.index, run_underlying Try.underlying92, asIntOf, sizeOf, typeInfo, hi0, he, part]

/-- The two heads' blocks. -/
structure HdSt (w wr : World) (a b c d : Int) : Prop where
  below : Below w.heap.size w wr
  size : w.heap.size + 2 ≤ wr.heap.size
  res : wr.heap[w.heap.size]? = some (.cells #[.int .i64 0, .int .i64 0, .int .i64 0, .int .i64 0] 54)
  hd : wr.heap[w.heap.size + 1]? = some (.cells #[.int .i64 a, .int .i64 b, .int .i64 c, .int .i64 d] 54)
theorem results_row_tmp {P : Program} {fn : Func} {p u : Tmp} {ty : TypeId} (h : fn.results = #[.cell p ty, .tmp u]) (tmps : Array Value) (w : World) (g : Nat) (t : TypeId) (cs : Array Value) (fr : Nat × Nat) (d : TypeDesc)
    (hp : tmps.getD p undef = .pointer (some ⟨g, 0, none⟩)) (hg : w.heap[g]? = some (.cells cs t fr)) (hu : P.underlying ty = some d) (hd : (match d with | .struct _ | .array _ _ => true | _ => false) = true) (hi : (P.info? ty).map (·.size) = some cs.size) :
    (results fn tmps).run P w = .ok (.tuple #[.agg cs, tmps.getD u undef]) w := by
  rw [results_cell_tmp h, hp]
  simp [asAddr, run_loadVar_row w g t ty cs fr d hg hu hd hi, Result.andThen]
section
variable {w wr : World} {a b c d : Int}
theorem HdSt.start (w : World) : HdSt w ((w.alloc (.cells #[.int .i64 0, .int .i64 0, .int .i64 0, .int .i64 0] 54)).alloc (.cells #[.int .i64 0, .int .i64 0, .int .i64 0, .int .i64 0] 54)) 0 0 0 0 := by
  have h1 := MapKept.heap_alloc w (.cells #[.int .i64 0, .int .i64 0, .int .i64 0, .int .i64 0] 54)
  have h2 := MapKept.heap_alloc (w.alloc (.cells #[.int .i64 0, .int .i64 0, .int .i64 0, .int .i64 0] 54)) (.cells #[.int .i64 0, .int .i64 0, .int .i64 0, .int .i64 0] 54)
  have s1 : (w.alloc (.cells #[.int .i64 0, .int .i64 0, .int .i64 0, .int .i64 0] 54)).heap.size = w.heap.size + 1 := World.size_alloc ..
  refine ⟨(grown_below0 (World.grownBy_alloc w _ none) (Nat.le_refl _)).trans (grown_below0 (World.grownBy_alloc _ _ none) (by omega)), by rw [World.size_alloc, s1]; exact Nat.le_refl _, ?_, ?_⟩
  · rw [(World.grownBy_alloc (w.alloc (.cells #[.int .i64 0, .int .i64 0, .int .i64 0, .int .i64 0] 54)) _ none).block w.heap.size (by omega) (by simp)]
    exact h1.1
  · have := h2.1
    rw [s1] at this
    exact this
theorem HdSt.drewN (h : HdSt w wr a b c d) (m : Nat) : HdSt w (wr.drewN m) a b c d := ⟨below_drewN h.below m, h.size, h.res, h.hd⟩
theorem HdSt.later {v : World} (h : HdSt w wr a b c d) (hb : Below wr.heap.size wr v) : HdSt w v a b c d :=
  ⟨h.below.trans (hb.mono (by have := h.size; omega)), Nat.le_trans h.size hb.size, (hb.block _ (by have := h.size; omega)).trans h.res, (hb.block _ (by have := h.size; omega)).trans h.hd⟩
theorem HdSt.cells (h : HdSt w wr a b c d) : wr.cell? ⟨w.heap.size + 1, 0, none⟩ = some (.int .i64 a) ∧ wr.cell? ⟨w.heap.size + 1, 1, none⟩ = some (.int .i64 b) ∧ wr.cell? ⟨w.heap.size + 1, 2, none⟩ = some (.int .i64 c) ∧ wr.cell? ⟨w.heap.size + 1, 3, none⟩ = some (.int .i64 d) := by
  refine ⟨?_, ?_, ?_, ?_⟩ <;> (simp only [World.cell?, h.hd]; rfl)
theorem HdSt.rescells (h : HdSt w wr a b c d) : wr.cell? ⟨w.heap.size, 0, none⟩ = some (.int .i64 0) ∧ wr.cell? ⟨w.heap.size, 1, none⟩ = some (.int .i64 0) ∧ wr.cell? ⟨w.heap.size, 2, none⟩ = some (.int .i64 0) ∧ wr.cell? ⟨w.heap.size, 3, none⟩ = some (.int .i64 0) := by
  refine ⟨?_, ?_, ?_, ?_⟩ <;> (simp only [World.cell?, h.res]; rfl)
/-- The result stored. -/
def putH (z : World) (g : Nat) (x y u v : Int) : World := (((z.setCell ⟨g, 0, none⟩ (.int .i64 x)).setCell ⟨g, 1, none⟩ (.int .i64 y)).setCell ⟨g, 2, none⟩ (.int .i64 u)).setCell ⟨g, 3, none⟩ (.int .i64 v)
theorem HdSt.put (h : HdSt w wr a b c d) (x y u v : Int) : (putH wr w.heap.size x y u v).heap[w.heap.size]? = some (.cells #[.int .i64 x, .int .i64 y, .int .i64 u, .int .i64 v] 54) ∧ Below w.heap.size w (putH wr w.heap.size x y u v) := by
  have f1 := heap_setCell_same _ w.heap.size 0 _ _ (.int .i64 x) h.res
  have f2 := heap_setCell_same _ w.heap.size 1 _ _ (.int .i64 y) f1
  have f3 := heap_setCell_same _ w.heap.size 2 _ _ (.int .i64 u) f2
  have f4 := heap_setCell_same _ w.heap.size 3 _ _ (.int .i64 v) f3
  refine ⟨f4, h.below.trans ?_⟩
  have hs := h.size
  have k : ∀ (z : World) (j : Nat) (q : Value), w.heap.size + 2 ≤ z.heap.size → Below w.heap.size z (z.setCell ⟨w.heap.size, j, none⟩ q) := fun z j q hz => grown_below (grown_set z w.heap.size j q) (by omega) (by omega)
  have e : ∀ (z : World) (j : Nat) (q : Value), (z.setCell ⟨w.heap.size, j, none⟩ q).heap.size = z.heap.size := fun z j q => by simp
  unfold putH
  exact (((k _ _ _ hs).trans (k _ _ _ (by rw [e]; exact hs))).trans (k _ _ _ (by rw [e, e]; exact hs))).trans (k _ _ _ (by rw [e, e, e]; exact hs))
theorem HdSt.putcells (h : HdSt w wr a b c d) (x y u v : Int) : (putH wr w.heap.size x y u v).cell? ⟨w.heap.size + 1, 0, none⟩ = some (.int .i64 a) ∧ (putH wr w.heap.size x y u v).cell? ⟨w.heap.size + 1, 1, none⟩ = some (.int .i64 b) ∧ (putH wr w.heap.size x y u v).cell? ⟨w.heap.size + 1, 2, none⟩ = some (.int .i64 c) ∧ (putH wr w.heap.size x y u v).cell? ⟨w.heap.size + 1, 3, none⟩ = some (.int .i64 d) := by
  have e : (putH wr w.heap.size x y u v).heap[w.heap.size + 1]? = some (.cells #[.int .i64 a, .int .i64 b, .int .i64 c, .int .i64 d] 54) := by
    unfold putH
    rw [heap_setCell_other _ _ _ _ (by simp), heap_setCell_other _ _ _ _ (by simp), heap_setCell_other _ _ _ _ (by simp), heap_setCell_other _ _ _ _ (by simp)]
    exact h.hd
  refine ⟨?_, ?_, ?_, ?_⟩ <;> (simp only [World.cell?, e]; rfl)
theorem HdSt.resfree (h : HdSt w wr a b c d) (j : Nat) : wr.frozen? ⟨w.heap.size, j, none⟩ = false := frozen_blk h.res j
theorem HdSt.free (h : HdSt w wr a b c d) (j : Nat) : wr.frozen? ⟨w.heap.size + 1, j, none⟩ = false := frozen_blk h.hd j
theorem HdSt.set {x : Int} {j : Nat} (h : HdSt w wr a b c d) (hj : j < 4) : HdSt w (wr.setCell ⟨w.heap.size + 1, j, none⟩ (.int .i64 x)) (if j = 0 then x else a) (if j = 1 then x else b) (if j = 2 then x else c) (if j = 3 then x else d) := by
  have hg := grown_set wr (w.heap.size + 1) j (.int .i64 x)
  refine ⟨h.below.trans ⟨hg.os, hg.tape, hg.output, hg.size, fun k hk => hg.block k (by have := h.size; omega) (fun e => by cases e; omega)⟩, by have := h.size; simpa using this, ?_, ?_⟩
  · rw [hg.block w.heap.size (by have := h.size; omega) (fun e => by simp at e)]
    exact h.res
  · rw [heap_setCell_same wr (w.heap.size + 1) j _ _ _ h.hd]
    obtain rfl | rfl | rfl | rfl : j = 0 ∨ j = 1 ∨ j = 2 ∨ j = 3 := by omega
    · rfl
    · rfl
    · rfl
    · rfl
end
set_option maxRecDepth 100000 in
set_option maxHeartbeats 4000000 in
theorem headOf_zero (g cap : Nat) (w : World) (hr : w.rangeAt g 0 (u8s noughts)) (hc : 128 ≤ cap) (hcm : cap ≤ maxLen) :
    Calls Try.prog 43 #[.slice (some ⟨g, 0, none⟩) 128 cap] w fun e w' => e = .returned (.tuple #[.agg #[.int .i64 0, .int .i64 0, .int .i64 0, .int .i64 0], .bool false]) ∧ Below w.heap.size w w' := by
  unfold maxLen at hcm
  have c1 : (128 : Int) ≤ (cap : Int) := by omega
  have HR := Lib.hid hr
  clear hr
  go_enter Try.func43, Try.ntmps43
  go_wp2_with fail
  obtain ⟨y, hy⟩ : ∃ y, y = (w.alloc (.cells #[.int .i64 0, .int .i64 0, .int .i64 0, .int .i64 0] 54)).alloc (.cells #[.int .i64 0, .int .i64 0, .int .i64 0, .int .i64 0] 54) := ⟨_, rfl⟩
  have HST : Hid (HdSt w y 0 0 0 0) := by rw [hy]; exact HdSt.start w
  have HRY : Hid (y.rangeAt g 0 (u8s noughts)) := fun j v hv => by
    rw [hy]
    exact (World.grownBy_alloc _ _ none).cell ((World.grownBy_alloc w _ none).cell (HR.out j v hv) (by simp)) (by simp)
  rw [← hy]
  clear hy
  have HR1 : Hid (y.rangeAt g 1 (u8s (noughts.drop 1))) := fun j v hv => by
    have := HRY.out (1 + j) v (by simpa [u8s, List.getElem?_drop, Nat.add_comm] using hv)
    rwa [Nat.zero_add] at this
  go_loopw [5, 7, 16] (fun r u i wr => i = .int .i64 0 ∧ r = .slice (some ⟨g, 1, none⟩) 127 (cap - 1) ∧ wr = y) (fun _ _ i _ => 3 - (intOf i).toNat)
  case atStart => exact ⟨rfl, rfl, rfl⟩
  case round =>
    obtain ⟨rfl, rfl, hw⟩ := hrel
    subst hw
    have hx := fun v : World => (run_idx3p v (.pointer (some ⟨w.heap.size + 1, 0, none⟩)) (.pointer (some ⟨w.heap.size + 1, 1, none⟩)) (.pointer (some ⟨w.heap.size + 1, 2, none⟩)) ⟨_, rfl⟩ ⟨_, rfl⟩ ⟨_, rfl⟩).1
    go_wp2_with fail
    refine (read_at g 1 127 (cap - 1) (noughts.drop 1) 0 8 wr HR1.out rfl (by decide) (by decide) (by omega) (by unfold maxLen; omega) (by decide) (by decide) (by decide)).mono ?_
    rintro e w1 ⟨rfl, m, rfl⟩
    have HS1 := Lib.hid (HST.out.drewN m)
    have h0 := HS1.out.cells.1
    have f0 := HS1.out.free 0
    clear hx
    go_upto_region 7 with fail
    have HZ := Lib.hid (HS1.out.set (x := 0) (j := 0) (by decide))
    obtain ⟨z, hz⟩ : ∃ z, z = (wr.drewN m).setCell ⟨w.heap.size + 1, 0, none⟩ (.int .i64 0) := ⟨_, rfl⟩
    rw [← hz] at HZ ⊢
    clear hz h0 f0 HS1
    obtain ⟨h0, h1, h2, h3⟩ := HZ.out.cells
    obtain ⟨r0, r1, r2, r3⟩ := HZ.out.rescells
    have f0 := HZ.out.resfree
    go_wp2_with fail
    (try simp only [Exit.inBlock, Exit.then])
    refine bodyPost_ret (results_row_tmp rfl _ _ w.heap.size _ _ _ _ rfl (HZ.out.put 0 0 0 0).1 Try.underlying54 rfl (by kernel_rfl)) rfl ?_
    exact ⟨rfl, (HZ.out.put 0 0 0 0).2⟩
end Go.Proofs.Ytgdedgfohjplmaa.Jnl

/- The journal: headOf of a head's sector. -/
namespace Go.Proofs.Ytgdedgfohjplmaa.Jnl
open Go.RowKit Go.Maps Sec

theorem take_app {α : Type} (a b : List α) {n : Nat} (h : a.length = n) : (a ++ b).take n = a := by rw [← h, List.take_left]
theorem drop_app {α : Type} (a b : List α) {n : Nat} (h : a.length = n) : (a ++ b).drop n = b := by rw [← h, List.drop_left]
theorem headB_form (g o f n : Nat) : headB g o f n = [72] ++ (numB g 8 ++ (numB o 8 ++ (numB f 8 ++ (numB n 4 ++ (numB (Crc.sum (headL g o f n)).toNat 4 ++ List.replicate (124 - (headL g o f n).length) 0))))) := by
  unfold headB sealB
  simp only [headL, List.append_assoc]
theorem head_part0 (g o f n : Nat) : ((headB g o f n).drop 1).take 8 = numB g 8 := by
  rw [headB_form, drop_app (n := 1) [72] _ rfl, take_app _ _ (numB_length g 8)]
theorem head_drop9 (g o f n : Nat) : (headB g o f n).drop 9 = numB o 8 ++ (numB f 8 ++ (numB n 4 ++ (numB (Crc.sum (headL g o f n)).toNat 4 ++ List.replicate (124 - (headL g o f n).length) 0))) := by
  rw [headB_form, show (9 : Nat) = 1 + 8 from rfl, ← List.drop_drop, drop_app (n := 1) [72] _ rfl, drop_app _ _ (numB_length g 8)]
theorem head_part1 (g o f n : Nat) : ((headB g o f n).drop 9).take 8 = numB o 8 := by
  rw [head_drop9, take_app _ _ (numB_length o 8)]
theorem head_drop17 (g o f n : Nat) : (headB g o f n).drop 17 = numB f 8 ++ (numB n 4 ++ (numB (Crc.sum (headL g o f n)).toNat 4 ++ List.replicate (124 - (headL g o f n).length) 0)) := by
  rw [show (17 : Nat) = 9 + 8 from rfl, ← List.drop_drop, head_drop9, drop_app _ _ (numB_length o 8)]
theorem head_part2 (g o f n : Nat) : ((headB g o f n).drop 17).take 8 = numB f 8 := by
  rw [head_drop17, take_app _ _ (numB_length f 8)]
theorem head_part3 (g o f n : Nat) : ((headB g o f n).drop 25).take 4 = numB n 4 := by
  rw [show (25 : Nat) = 17 + 8 from rfl, ← List.drop_drop, head_drop17, drop_app _ _ (numB_length f 8), take_app _ _ (numB_length n 4)]
theorem range_drop {w : World} {g : Nat} {l : List UInt8} (h : w.rangeAt g 0 (u8s l)) (k : Nat) : w.rangeAt g k (u8s (l.drop k)) := fun j v hv => by
  have := h (k + j) v (by simpa [u8s, List.getElem?_drop] using hv)
  rwa [Nat.zero_add] at this

theorem equal_len (g off g2 off2 n1 n2 : Nat) (l m : List UInt8) (h1 : l.length = n1) (h2 : m.length = n2) (cap cap2 : Nat) (w : World) (hl : w.rangeAt g off (u8s l)) (hm : w.rangeAt g2 off2 (u8s m)) :
    Calls Try.prog 52 #[.slice (some ⟨g, off, none⟩) n1 cap, .slice (some ⟨g2, off2, none⟩) n2 cap2] w fun e w' => e = .returned (.bool (decide (l = m))) ∧ w' = w := by
  subst h1 h2
  exact equal_at g off g2 off2 l m cap cap2 w hl hm
set_option maxRecDepth 100000 in
set_option maxHeartbeats 4000000 in
theorem headOf_head (gb cap g o f n : Nat) (hg : 1 ≤ g ∧ g ≤ 4611686018427387904) (ho : 1 ≤ o ∧ o ≤ 4611686018427387904) (hf : 1 ≤ f ∧ f ≤ 4611686018427387904) (hn : n ≤ 1048576) (w : World) (hr : w.rangeAt gb 0 (u8s (headB g o f n))) (hgl : gb < w.heap.size) (hc : 128 ≤ cap) (hcm : cap ≤ maxLen) :
    Calls Try.prog 43 #[.slice (some ⟨gb, 0, none⟩) 128 cap] w fun e w' => e = .returned (.tuple #[.agg #[.int .i64 (g : Int), .int .i64 (o : Int), .int .i64 (f : Int), .int .i64 (n : Int)], .bool true]) ∧ Below w.heap.size w w' := by
  unfold maxLen at hcm
  have c1 : (128 : Int) ≤ (cap : Int) := by omega
  have HG := Lib.hid hg
  have HO := Lib.hid ho
  have HF := Lib.hid hf
  have HN := Lib.hid hn
  have HLW : Hid (∀ v, Below w.heap.size w v → ∀ k, v.rangeAt gb k (u8s ((headB g o f n).drop k))) := fun v hv k => range_drop (fun j x hj => (hv.cell hgl).trans (hr j x hj)) k
  have HX0 : Hid (∀ v : World, _) := fun v : World => (run_idx3p v (.pointer (some ⟨w.heap.size + 1, 0, none⟩)) (.pointer (some ⟨w.heap.size + 1, 1, none⟩)) (.pointer (some ⟨w.heap.size + 1, 2, none⟩)) ⟨_, rfl⟩ ⟨_, rfl⟩ ⟨_, rfl⟩).1
  have HX1 : Hid (∀ v : World, _) := fun v : World => (run_idx3p v (.pointer (some ⟨w.heap.size + 1, 0, none⟩)) (.pointer (some ⟨w.heap.size + 1, 1, none⟩)) (.pointer (some ⟨w.heap.size + 1, 2, none⟩)) ⟨_, rfl⟩ ⟨_, rfl⟩ ⟨_, rfl⟩).2.1
  have HX2 : Hid (∀ v : World, _) := fun v : World => (run_idx3p v (.pointer (some ⟨w.heap.size + 1, 0, none⟩)) (.pointer (some ⟨w.heap.size + 1, 1, none⟩)) (.pointer (some ⟨w.heap.size + 1, 2, none⟩)) ⟨_, rfl⟩ ⟨_, rfl⟩ ⟨_, rfl⟩).2.2
  clear hg ho hf hn hr hgl
  go_enter Try.func43, Try.ntmps43
  go_wp2_with fail
  obtain ⟨y, hy⟩ : ∃ y, y = (w.alloc (.cells #[.int .i64 0, .int .i64 0, .int .i64 0, .int .i64 0] 54)).alloc (.cells #[.int .i64 0, .int .i64 0, .int .i64 0, .int .i64 0] 54) := ⟨_, rfl⟩
  have HST : Hid (HdSt w y 0 0 0 0) := by rw [hy]; exact HdSt.start w
  rw [← hy]
  clear hy
  go_loopw [5, 7, 16] (fun r u i wr => (i = .int .i64 0 ∧ r = .slice (some ⟨gb, 1, none⟩) 127 (cap - 1) ∧ HdSt w wr 0 0 0 0) ∨ (i = .int .i64 1 ∧ r = .slice (some ⟨gb, 9, none⟩) 119 (cap - 1 - 8) ∧ HdSt w wr g 0 0 0) ∨ (i = .int .i64 2 ∧ r = .slice (some ⟨gb, 17, none⟩) 111 (cap - 1 - 8 - 8) ∧ HdSt w wr g o 0 0) ∨ (i = .int .i64 3 ∧ r = .slice (some ⟨gb, 25, none⟩) 103 (cap - 1 - 8 - 8 - 8) ∧ HdSt w wr g o f 0)) (fun _ _ i _ => 3 - (intOf i).toNat)
  case atStart => exact .inl ⟨rfl, rfl, HST.out⟩
  case round =>
    clear HST
    obtain ⟨rfl, rfl, hst⟩ | ⟨rfl, rfl, hst⟩ | ⟨rfl, rfl, hst⟩ | ⟨rfl, rfl, hst⟩ := hrel
    · have HS := Lib.hid hst
      have HRW := Lib.hid (HLW.out _ hst.below)
      clear hst
      have hx := fun v : World => (HX0.out v)
      go_wp2_with fail
      refine (read_at gb 1 127 (cap - 1) ((headB g o f n).drop 1) g 8 wr (HRW.out 1) (by rw [List.length_drop, headB_length]) (by decide) (by decide) (by omega) (by unfold maxLen; omega) (head_part0 g o f n) (by have := HG.out.2; show _ < 18446744073709551616; omega) (by have := HG.out.2; omega)).mono ?_
      rintro e w1 ⟨rfl, m, rfl⟩
      have HS1 := Lib.hid (HS.out.drewN m)
      have h0 := HS1.out.cells.1
      have f0 := HS1.out.free 0
      clear hx
      go_upto_region 7 with fail
      have HZ := Lib.hid (HS1.out.set (x := (g : Int)) (j := 0) (by decide))
      obtain ⟨z, hz⟩ : ∃ z, z = (wr.drewN m).setCell ⟨w.heap.size + 1, 0, none⟩ (.int .i64 (g : Int)) := ⟨_, rfl⟩
      rw [← hz] at HZ ⊢
      clear hz h0 f0 HS1 HS HRW
      have h0 := HZ.out.cells.1
      have d1 : decide ((g : Int) < 1) = false := by have := HG.out.1; simp; omega
      have d2 : decide ((4611686018427387904 : Int) < (g : Int)) = false := by have := HG.out.2; simp; omega
      go_wp2_with fail
      go_roundw
      case rel => exact .inr (.inl ⟨rfl, rfl, HZ.out⟩)
      case measure => decide
    · have HS := Lib.hid hst
      have HRW := Lib.hid (HLW.out _ hst.below)
      clear hst
      have hx := fun v : World => (HX1.out v)
      go_wp2_with fail
      refine (read_at gb 9 119 (cap - 1 - 8) ((headB g o f n).drop 9) o 8 wr (HRW.out 9) (by rw [List.length_drop, headB_length]) (by decide) (by decide) (by omega) (by unfold maxLen; omega) (head_part1 g o f n) (by have := HO.out.2; show _ < 18446744073709551616; omega) (by have := HO.out.2; omega)).mono ?_
      rintro e w1 ⟨rfl, m, rfl⟩
      have HS1 := Lib.hid (HS.out.drewN m)
      have h0 := HS1.out.cells.2.1
      have f0 := HS1.out.free 1
      clear hx
      go_upto_region 7 with fail
      have HZ := Lib.hid (HS1.out.set (x := (o : Int)) (j := 1) (by decide))
      obtain ⟨z, hz⟩ : ∃ z, z = (wr.drewN m).setCell ⟨w.heap.size + 1, 1, none⟩ (.int .i64 (o : Int)) := ⟨_, rfl⟩
      rw [← hz] at HZ ⊢
      clear hz h0 f0 HS1 HS HRW
      have h0 := HZ.out.cells.2.1
      have d1 : decide ((o : Int) < 1) = false := by have := HO.out.1; simp; omega
      have d2 : decide ((4611686018427387904 : Int) < (o : Int)) = false := by have := HO.out.2; simp; omega
      go_wp2_with fail
      go_roundw
      case rel => exact .inr (.inr (.inl ⟨rfl, rfl, HZ.out⟩))
      case measure => decide
    · have HS := Lib.hid hst
      have HRW := Lib.hid (HLW.out _ hst.below)
      clear hst
      have hx := fun v : World => (HX2.out v)
      go_wp2_with fail
      refine (read_at gb 17 111 (cap - 1 - 8 - 8) ((headB g o f n).drop 17) f 8 wr (HRW.out 17) (by rw [List.length_drop, headB_length]) (by decide) (by decide) (by omega) (by unfold maxLen; omega) (head_part2 g o f n) (by have := HF.out.2; show _ < 18446744073709551616; omega) (by have := HF.out.2; omega)).mono ?_
      rintro e w1 ⟨rfl, m, rfl⟩
      have HS1 := Lib.hid (HS.out.drewN m)
      have h0 := HS1.out.cells.2.2.1
      have f0 := HS1.out.free 2
      clear hx
      go_upto_region 7 with fail
      have HZ := Lib.hid (HS1.out.set (x := (f : Int)) (j := 2) (by decide))
      obtain ⟨z, hz⟩ : ∃ z, z = (wr.drewN m).setCell ⟨w.heap.size + 1, 2, none⟩ (.int .i64 (f : Int)) := ⟨_, rfl⟩
      rw [← hz] at HZ ⊢
      clear hz h0 f0 HS1 HS HRW
      have h0 := HZ.out.cells.2.2.1
      have d1 : decide ((f : Int) < 1) = false := by have := HF.out.1; simp; omega
      have d2 : decide ((4611686018427387904 : Int) < (f : Int)) = false := by have := HF.out.2; simp; omega
      go_wp2_with fail
      go_roundw
      case rel => exact .inr (.inr (.inr ⟨rfl, rfl, HZ.out⟩))
      case measure => decide
    · have HS := Lib.hid hst
      have HRW := Lib.hid (HLW.out _ hst.below)
      clear hst
      go_wp2_with fail
      refine (read_at gb 25 103 (cap - 1 - 8 - 8 - 8) ((headB g o f n).drop 25) n 4 wr (HRW.out 25) (by rw [List.length_drop, headB_length]) (by decide) (by decide) (by omega) (by unfold maxLen; omega) (head_part3 g o f n) (by have := HN.out; show _ < 4294967296; omega) (by have := HN.out; omega)).mono ?_
      rintro e w1 ⟨rfl, m, rfl⟩
      have HS1 := Lib.hid (HS.out.drewN m)
      have h0 := HS1.out.cells.2.2.2
      have f0 := HS1.out.free 3
      go_upto_region 12 with fail
      have HZ := Lib.hid (HS1.out.set (x := (n : Int)) (j := 3) (by decide))
      obtain ⟨z, hz⟩ : ∃ z, z = (wr.drewN m).setCell ⟨w.heap.size + 1, 3, none⟩ (.int .i64 (n : Int)) := ⟨_, rfl⟩
      rw [← hz] at HZ ⊢
      clear hz h0 f0 HS1 HS HRW
      have HC0 := Lib.hid HZ.out.cells
      have d3 : decide ((n : Int) ≤ 1048576) = true := by have := HN.out; simp; omega
      refine wp_region_noPanic ?_
      refine wp_region_held_drew (S := fun w' => w'.cell? ⟨w.heap.size + 1, 0, none⟩ = some (Value.int .i64 (g : Int)) ∧ w'.cell? ⟨w.heap.size + 1, 1, none⟩ = some (Value.int .i64 (o : Int)) ∧ w'.cell? ⟨w.heap.size + 1, 2, none⟩ = some (Value.int .i64 (f : Int)) ∧ w'.cell? ⟨w.heap.size + 1, 3, none⟩ = some (Value.int .i64 (n : Int))) (by kernel_rfl) ?hSa (fun hHeld => ?_)
      case hSa => exact HC0.out
      refine wpAnyH_take (i := 0) (oi := ⟨_, _, _, _, _, _⟩) (v := ?va0) rfl (by kernel_rfl) (by kernel_rfl) (by kernel_rfl) (fun _ _ _ h => h) (Or.inl ⟨by rfl, ?hya0⟩) hHeld ?_
      case hya0 => (intro wS hSw; (try dsimp only at hSw); go_simp; (first | done | with_reducible rfl))
      try simp only [Act.put, List.setIfInBounds_toArray, List.set_cons_zero, List.set_cons_succ]
      refine wpAnyH_take (i := 1) (oi := ⟨_, _, _, _, _, _⟩) (v := ?va1) rfl (by kernel_rfl) (by kernel_rfl) (by kernel_rfl) (fun _ _ _ h => h) (Or.inl ⟨by rfl, ?hya1⟩) hHeld ?_
      case hya1 => (intro wS hSw; (try dsimp only at hSw); go_simp; (first | done | with_reducible rfl))
      try simp only [Act.put, List.setIfInBounds_toArray, List.set_cons_zero, List.set_cons_succ]
      refine wpAnyH_take (i := 2) (oi := ⟨_, _, _, _, _, _⟩) (v := ?va2) rfl (by kernel_rfl) (by kernel_rfl) (by kernel_rfl) (fun _ _ _ h => h) (Or.inl ⟨by rfl, ?hya2⟩) hHeld ?_
      case hya2 => (intro wS hSw; (try dsimp only at hSw); go_simp; (first | done | with_reducible rfl))
      try simp only [Act.put, List.setIfInBounds_toArray, List.set_cons_zero, List.set_cons_succ]
      refine wpAnyH_take (i := 3) (oi := ⟨_, _, _, _, _, _⟩) (v := ?va3) rfl (by kernel_rfl) (by kernel_rfl) (by kernel_rfl) (fun _ _ _ h => h) (Or.inl ⟨by rfl, ?hya3⟩) hHeld ?_
      case hya3 => (intro wS hSw; (try dsimp only at hSw); go_simp; (first | done | with_reducible rfl))
      try simp only [Act.put, List.setIfInBounds_toArray, List.set_cons_zero, List.set_cons_succ]
      refine wpAnyH_take (i := 4) (oi := ⟨_, _, _, _, _, _⟩) (v := ?va4) rfl (by kernel_rfl) (by kernel_rfl) (by kernel_rfl) (fun _ _ _ h => h) (Or.inl ⟨by rfl, ?hya4⟩) hHeld ?_
      case hya4 => (intro wS hSw; (try dsimp only at hSw); go_simp; (first | done | with_reducible rfl))
      try simp only [Act.put, List.setIfInBounds_toArray, List.set_cons_zero, List.set_cons_succ]
      refine wpAnyH_take (i := 5) (oi := ⟨_, _, _, _, _, _⟩) (v := ?va5) rfl (by kernel_rfl) (by kernel_rfl) (by kernel_rfl) (fun _ _ _ h => h) (Or.inl ⟨by rfl, ?hya5⟩) hHeld ?_
      case hya5 => (intro wS hSw; (try dsimp only at hSw); go_simp; (first | done | with_reducible rfl))
      try simp only [Act.put, List.setIfInBounds_toArray, List.set_cons_zero, List.set_cons_succ]
      refine wpAnyH_take (i := 7) (oi := ⟨_, _, _, _, _, _⟩) (v := ?va7) rfl (by kernel_rfl) (by kernel_rfl) (by kernel_rfl) (fun _ _ _ h => h) (Or.inl ⟨by rfl, ?hya7⟩) hHeld ?_
      case hya7 => (intro wS hSw; (try dsimp only at hSw); go_simp; (first | done | with_reducible rfl))
      try simp only [Act.put, List.setIfInBounds_toArray, List.set_cons_zero, List.set_cons_succ]
      refine wpAnyH_ready (rs := [6]) (by kernel_rfl) (by simp) ?_
      refine AllReadyH.cons (o := ⟨_, _, _, _, _, _⟩) rfl (fun K hK => ?_) AllReadyH.nil
      go_simp
      refine (head_bytes_at g o f n (by have := HG.out.2; omega) (by have := HO.out.2; omega) (by have := HF.out.2; omega) (by have := HN.out; omega) z.drew).mono ?_
      rintro e w2 ⟨v2, rfl, hr2, hb2⟩
      obtain ⟨g2, cap2, rfl, _, _, _, _, hrg2⟩ := hr2.some (by have := headB_length g o f n; intro e; rw [e] at this; cases this)
      rw [headB_length]
      have HRG2 := Lib.hid hrg2
      have HZ2 := Lib.hid ((HZ.out.drewN 1).later hb2)
      have HRW := Lib.hid (HLW.out _ HZ2.out.below 0)
      have hc2 := HZ2.out.cells
      have HC2 := Lib.hid hc2
      have HC3 := Lib.hid (HZ2.out.putcells g o f n)
      clear hr2 hb2 hrg2 hc2
      go_wp2_with fail
      refine hK.out _ _ ?ka6 (fun hNew => ?_)
      case ka6 => (try dsimp only); exact HC2.out
      clear hK K hHeld
      have hHeld := hNew
      clear hNew
      try simp only [Act.put, List.setIfInBounds_toArray, List.set_cons_zero, List.set_cons_succ]
      refine wpAnyH_ready (rs := [8]) (by kernel_rfl) (by simp) ?_
      refine AllReadyH.cons (o := ⟨_, _, _, _, _, _⟩) rfl (fun K hK => ?_) AllReadyH.nil
      go_simp
      refine (equal_len g2 0 gb 0 128 128 (headB g o f n) (headB g o f n) (headB_length g o f n) (headB_length g o f n) cap2 cap w2 HRG2.out HRW.out).mono ?_
      rintro e w3 ⟨rfl, hw3⟩
      have hw3 := hw3.symm
      subst hw3
      rw [decide_eq_true rfl]
      go_wp2_with fail
      refine hK.out _ _ ?ka8 (fun hNew => ?_)
      case ka8 => (try dsimp only); exact HC2.out
      clear hK K hHeld
      have hHeld := hNew
      clear hNew
      try simp only [Act.put, List.setIfInBounds_toArray, List.set_cons_zero, List.set_cons_succ]
      refine wpAnyH_take (i := 9) (oi := ⟨_, _, _, _, _, _⟩) (v := ?va9) rfl (by kernel_rfl) (by kernel_rfl) (by kernel_rfl) (fun _ _ _ h => h) (Or.inl ⟨by rfl, ?hya9⟩) hHeld ?_
      case hya9 => (intro wS hSw; (try dsimp only at hSw); go_simp; (first | done | with_reducible rfl))
      try simp only [Act.put, List.setIfInBounds_toArray, List.set_cons_zero, List.set_cons_succ]
      refine wpAnyH_ready (rs := [10]) (by kernel_rfl) (by simp) ?_
      refine AllReadyH.cons (o := ⟨_, _, _, _, _, _⟩) rfl (fun K hK => ?_) AllReadyH.nil
      obtain ⟨r0, r1, r2, r3⟩ := HZ2.out.rescells
      have q0 := HZ2.out.resfree
      go_simp
      clear r0 r1 r2 r3 q0
      refine hK.out _ _ ?ka10 (fun hNew => ?_)
      case ka10 => (try dsimp only); exact HC3.out
      clear hK K hHeld
      have hHeld := hNew
      clear hNew
      try simp only [Act.put, List.setIfInBounds_toArray, List.set_cons_zero, List.set_cons_succ]
      refine wpAnyH_take (i := 11) (oi := ⟨_, _, _, _, _, _⟩) (v := ?va11) rfl (by kernel_rfl) (by kernel_rfl) (by kernel_rfl) (fun _ _ _ h => h) (Or.inl ⟨by rfl, ?hya11⟩) hHeld ?_
      case hya11 => (intro wS hSw; (try dsimp only at hSw); go_simp; (first | done | with_reducible rfl))
      try simp only [Act.put, List.setIfInBounds_toArray, List.set_cons_zero, List.set_cons_succ]
      refine wpAnyH_done (by kernel_rfl) ?_ _
      refine NoPanic.normal ?_
      clear hHeld
      go_wp2_with fail
      (try simp only [Exit.inBlock, Exit.then])
      refine bodyPost_ret (results_row_tmp rfl _ _ w.heap.size _ _ _ _ rfl (HZ2.out.put g o f n).1 Try.underlying54 rfl (by kernel_rfl)) rfl ?_
      exact ⟨rfl, (HZ2.out.put g o f n).2⟩
end Go.Proofs.Ytgdedgfohjplmaa.Jnl

/- The journal: partOf of what is no part; words for partOf. -/
namespace Go.Proofs.Ytgdedgfohjplmaa.Jnl
open Go.RowKit Go.Maps Sec

def part0 : Array Value := #[.int .u8 0, .int .i64 0, .int .i64 0, .int .i64 0, .int .i64 0, .slice none 0 0]
/-- The two parts' blocks. -/
structure PtSt (w wr : World) (cs : Array Value) : Prop where
  below : Below w.heap.size w wr
  size : w.heap.size + 2 ≤ wr.heap.size
  res : wr.heap[w.heap.size]? = some (.cells part0 84)
  pt : wr.heap[w.heap.size + 1]? = some (.cells cs 84)
section
variable {w wr v : World} {cs : Array Value}
theorem PtSt.start (w : World) (cs : Array Value) : PtSt w ((w.alloc (.cells part0 84)).alloc (.cells cs 84)) cs := by
  have h1 := MapKept.heap_alloc w (.cells part0 84)
  have h2 := MapKept.heap_alloc (w.alloc (.cells part0 84)) (.cells cs 84)
  have s1 : (w.alloc (.cells part0 84)).heap.size = w.heap.size + 1 := World.size_alloc ..
  refine ⟨(grown_below0 (World.grownBy_alloc w _ none) (Nat.le_refl _)).trans (grown_below0 (World.grownBy_alloc _ _ none) (by omega)), by rw [World.size_alloc, s1]; exact Nat.le_refl _, ?_, ?_⟩
  · rw [(World.grownBy_alloc (w.alloc (.cells part0 84)) _ none).block w.heap.size (by omega) (by simp)]
    exact h1.1
  · have := h2.1
    rw [s1] at this
    exact this
theorem PtSt.later (h : PtSt w wr cs) (hb : Below wr.heap.size wr v) : PtSt w v cs :=
  ⟨h.below.trans (hb.mono (by have := h.size; omega)), Nat.le_trans h.size hb.size, (hb.block _ (by have := h.size; omega)).trans h.res, (hb.block _ (by have := h.size; omega)).trans h.pt⟩
theorem PtSt.drewN (h : PtSt w wr cs) (m : Nat) : PtSt w (wr.drewN m) cs := ⟨below_drewN h.below m, h.size, h.res, h.pt⟩
theorem PtSt.cell (h : PtSt w wr cs) (j : Nat) : wr.cell? ⟨w.heap.size + 1, j, none⟩ = cs[j]? := cell_blk h.pt j
theorem PtSt.rescell (h : PtSt w wr cs) (j : Nat) : wr.cell? ⟨w.heap.size, j, none⟩ = part0[j]? := cell_blk h.res j
theorem six_of {x0 x1 x2 x3 x4 x5 : Value} (h : wr.heap[w.heap.size + 1]? = some (.cells #[x0, x1, x2, x3, x4, x5] 84)) : wr.cell? ⟨w.heap.size + 1, 0, none⟩ = some x0 ∧ wr.cell? ⟨w.heap.size + 1, 1, none⟩ = some x1 ∧ wr.cell? ⟨w.heap.size + 1, 2, none⟩ = some x2 ∧ wr.cell? ⟨w.heap.size + 1, 3, none⟩ = some x3 ∧ wr.cell? ⟨w.heap.size + 1, 4, none⟩ = some x4 ∧ wr.cell? ⟨w.heap.size + 1, 5, none⟩ = some x5 := ⟨cell_blk h 0, cell_blk h 1, cell_blk h 2, cell_blk h 3, cell_blk h 4, cell_blk h 5⟩
theorem PtSt.six {x0 x1 x2 x3 x4 x5 : Value} (h : PtSt w wr #[x0, x1, x2, x3, x4, x5]) : wr.cell? ⟨w.heap.size + 1, 0, none⟩ = some x0 ∧ wr.cell? ⟨w.heap.size + 1, 1, none⟩ = some x1 ∧ wr.cell? ⟨w.heap.size + 1, 2, none⟩ = some x2 ∧ wr.cell? ⟨w.heap.size + 1, 3, none⟩ = some x3 ∧ wr.cell? ⟨w.heap.size + 1, 4, none⟩ = some x4 ∧ wr.cell? ⟨w.heap.size + 1, 5, none⟩ = some x5 := six_of h.pt
theorem PtSt.res6 (h : PtSt w wr cs) : wr.cell? ⟨w.heap.size, 0, none⟩ = some (.int .u8 0) ∧ wr.cell? ⟨w.heap.size, 1, none⟩ = some (.int .i64 0) ∧ wr.cell? ⟨w.heap.size, 2, none⟩ = some (.int .i64 0) ∧ wr.cell? ⟨w.heap.size, 3, none⟩ = some (.int .i64 0) ∧ wr.cell? ⟨w.heap.size, 4, none⟩ = some (.int .i64 0) ∧ wr.cell? ⟨w.heap.size, 5, none⟩ = some (.slice none 0 0) := ⟨cell_blk h.res 0, cell_blk h.res 1, cell_blk h.res 2, cell_blk h.res 3, cell_blk h.res 4, cell_blk h.res 5⟩
theorem PtSt.free (h : PtSt w wr cs) (j : Nat) : wr.frozen? ⟨w.heap.size + 1, j, none⟩ = false := frozen_blk h.pt j
theorem PtSt.resfree (h : PtSt w wr cs) (j : Nat) : wr.frozen? ⟨w.heap.size, j, none⟩ = false := frozen_blk h.res j
theorem PtSt.set (h : PtSt w wr cs) (j : Nat) (x : Value) : PtSt w (wr.setCell ⟨w.heap.size + 1, j, none⟩ x) (cs.setIfInBounds j x) := by
  have hg := grown_set wr (w.heap.size + 1) j x
  refine ⟨h.below.trans ⟨hg.os, hg.tape, hg.output, hg.size, fun k hk => hg.block k (by have := h.size; omega) (fun e => by cases e; omega)⟩, by have := h.size; simpa using this, ?_, ?_⟩
  · rw [hg.block w.heap.size (by have := h.size; omega) (fun e => by simp at e)]
    exact h.res
  · exact heap_setCell_same wr (w.heap.size + 1) j _ _ _ h.pt
/-- The result stored. -/
def putP (z : World) (g : Nat) (x0 x1 x2 x3 x4 x5 : Value) : World := (((((z.setCell ⟨g, 0, none⟩ x0).setCell ⟨g, 1, none⟩ x1).setCell ⟨g, 2, none⟩ x2).setCell ⟨g, 3, none⟩ x3).setCell ⟨g, 4, none⟩ x4).setCell ⟨g, 5, none⟩ x5
theorem PtSt.put (h : PtSt w wr cs) (x0 x1 x2 x3 x4 x5 : Value) : (putP wr w.heap.size x0 x1 x2 x3 x4 x5).heap[w.heap.size]? = some (.cells #[x0, x1, x2, x3, x4, x5] 84) ∧ Below w.heap.size w (putP wr w.heap.size x0 x1 x2 x3 x4 x5) ∧ (putP wr w.heap.size x0 x1 x2 x3 x4 x5).heap[w.heap.size + 1]? = some (.cells cs 84) := by
  have f1 := heap_setCell_same _ w.heap.size 0 _ _ x0 h.res
  have f2 := heap_setCell_same _ w.heap.size 1 _ _ x1 f1
  have f3 := heap_setCell_same _ w.heap.size 2 _ _ x2 f2
  have f4 := heap_setCell_same _ w.heap.size 3 _ _ x3 f3
  have f5 := heap_setCell_same _ w.heap.size 4 _ _ x4 f4
  have f6 := heap_setCell_same _ w.heap.size 5 _ _ x5 f5
  have hs := h.size
  have k : ∀ (z : World) (j : Nat) (q : Value), w.heap.size + 2 ≤ z.heap.size → Below w.heap.size z (z.setCell ⟨w.heap.size, j, none⟩ q) := fun z j q hz => grown_below (grown_set z w.heap.size j q) (by omega) (by omega)
  have e : ∀ (z : World) (j : Nat) (q : Value), (z.setCell ⟨w.heap.size, j, none⟩ q).heap.size = z.heap.size := fun z j q => by simp
  refine ⟨f6, h.below.trans ?_, ?_⟩
  · unfold putP
    exact (((((k _ _ _ hs).trans (k _ _ _ (by rw [e]; exact hs))).trans (k _ _ _ (by rw [e, e]; exact hs))).trans (k _ _ _ (by rw [e, e, e]; exact hs))).trans (k _ _ _ (by rw [e, e, e, e]; exact hs))).trans (k _ _ _ (by rw [e, e, e, e, e]; exact hs))
  · unfold putP
    rw [heap_setCell_other _ _ _ _ (by simp), heap_setCell_other _ _ _ _ (by simp), heap_setCell_other _ _ _ _ (by simp), heap_setCell_other _ _ _ _ (by simp), heap_setCell_other _ _ _ _ (by simp), heap_setCell_other _ _ _ _ (by simp)]
    exact h.pt
end

set_option maxRecDepth 100000 in
set_option maxHeartbeats 4000000 in
theorem partOf_none (gb cap : Nat) (c : Nat) (w : World) (hr : w.cell? ⟨gb, 0, none⟩ = some (.int .u8 (c : Int))) (h1 : c ≠ 67) (h2 : c ≠ 82) (hc : 128 ≤ cap) (hcm : cap ≤ maxLen) :
    Calls Try.prog 58 #[.slice (some ⟨gb, 0, none⟩) 128 cap] w fun e w' => e = .returned (.tuple #[.agg #[.int .u8 (c : Int), .int .i64 0, .int .i64 0, .int .i64 0, .int .i64 0, .slice none 0 0], .bool false]) ∧ Below w.heap.size w w' := by
  unfold maxLen at hcm
  have c1 : (128 : Int) ≤ (cap : Int) := by omega
  have e1 : ((c : Int) == 67) = false := by simp; omega
  have e2 : ((c : Int) == 82) = false := by simp; omega
  have e3 : ((c : Int) != 67) = true := by simp; omega
  have e4 : ((c : Int) != 82) = true := by simp; omega
  have e5 : ¬ (c : Int) = 67 := by omega
  have e6 : ¬ (c : Int) = 82 := by omega
  have HRY : Hid (∀ o : Obj, (w.alloc o).cell? ⟨gb, 0, none⟩ = some (.int .u8 (c : Int))) := fun o => (World.grownBy_alloc w o none).cell hr (by simp)
  go_enter Try.func58, Try.ntmps58
  go_upto_region 1 with fail
  have hr1 := HRY.out (.cells #[.int .u8 0, .int .i64 0, .int .i64 0, .int .i64 0, .int .i64 0, .slice none 0 0] 84)
  go_upto_region 2 with fail
  have HZ := Lib.hid (PtSt.start w #[.int .u8 (c : Int), .int .i64 0, .int .i64 0, .int .i64 0, .int .i64 0, .slice none 0 0])
  obtain ⟨z, hz⟩ : ∃ z, z = (w.alloc (.cells #[.int .u8 0, .int .i64 0, .int .i64 0, .int .i64 0, .int .i64 0, .slice none 0 0] 84)).alloc (.cells #[.int .u8 (c : Int), .int .i64 0, .int .i64 0, .int .i64 0, .int .i64 0, .slice none 0 0] 84) := ⟨_, rfl⟩
  unfold part0 at HZ
  rw [← hz] at HZ ⊢
  clear hz hr1
  have h0 : z.cell? ⟨w.heap.size + 1, 0, none⟩ = some (.int .u8 (c : Int)) := HZ.out.cell 0
  have h1 : z.cell? ⟨w.heap.size + 1, 1, none⟩ = some (.int .i64 0) := HZ.out.cell 1
  have h2 : z.cell? ⟨w.heap.size + 1, 2, none⟩ = some (.int .i64 0) := HZ.out.cell 2
  have h3 : z.cell? ⟨w.heap.size + 1, 3, none⟩ = some (.int .i64 0) := HZ.out.cell 3
  have h4 : z.cell? ⟨w.heap.size + 1, 4, none⟩ = some (.int .i64 0) := HZ.out.cell 4
  have h5 : z.cell? ⟨w.heap.size + 1, 5, none⟩ = some (.slice none 0 0) := HZ.out.cell 5
  have r0 : z.cell? ⟨w.heap.size, 0, none⟩ = some (.int .u8 0) := HZ.out.rescell 0
  have r1 : z.cell? ⟨w.heap.size, 1, none⟩ = some (.int .i64 0) := HZ.out.rescell 1
  have r2 : z.cell? ⟨w.heap.size, 2, none⟩ = some (.int .i64 0) := HZ.out.rescell 2
  have r3 : z.cell? ⟨w.heap.size, 3, none⟩ = some (.int .i64 0) := HZ.out.rescell 3
  have r4 : z.cell? ⟨w.heap.size, 4, none⟩ = some (.int .i64 0) := HZ.out.rescell 4
  have r5 : z.cell? ⟨w.heap.size, 5, none⟩ = some (.slice none 0 0) := HZ.out.rescell 5
  have q0 := HZ.out.resfree
  go_wp2_with fail
  (try simp only [Exit.inBlock, Exit.then])
  refine bodyPost_ret (results_row_tmp rfl _ _ w.heap.size _ _ _ _ rfl (HZ.out.put _ _ _ _ _ _).1 Try.underlying84 rfl (by kernel_rfl)) rfl ?_
  exact ⟨rfl, (HZ.out.put _ _ _ _ _ _).2.1⟩
end Go.Proofs.Ytgdedgfohjplmaa.Jnl

/- The journal: partOf of a part's sector. -/
namespace Go.Proofs.Ytgdedgfohjplmaa.Jnl
open Go.RowKit Go.Maps Sec

theorem partB_form (c : UInt8) (s k i n : Nat) (l : List UInt8) : partB c s k i n l = [c] ++ (numB s 8 ++ (numB k 8 ++ (numB i 2 ++ (numB n 2 ++ ([UInt8.ofNat l.length] ++ (l ++ (List.replicate (102 - l.length) 0 ++ (numB (Crc.sum (partL c s k i n l)).toNat 4 ++ List.replicate (124 - (partL c s k i n l).length) 0)))))))) := by
  unfold partB sealB
  simp only [partL, List.append_assoc]
section
variable (c : UInt8) (s k i n : Nat) (l : List UInt8)
theorem part_0 : (partB c s k i n l)[0]? = some c := by rw [partB_form]; rfl
theorem part_d1 : ((partB c s k i n l).drop 1).take 8 = numB s 8 := by
  rw [partB_form, drop_app (n := 1) [c] _ rfl, take_app _ _ (numB_length s 8)]
theorem part_drop9 : ∃ r, (partB c s k i n l).drop 9 = numB k 8 ++ (numB i 2 ++ (numB n 2 ++ ([UInt8.ofNat l.length] ++ (l ++ r)))) := by
  rw [partB_form, show (9 : Nat) = 1 + 8 from rfl, ← List.drop_drop, drop_app (n := 1) [c] _ rfl, drop_app _ _ (numB_length s 8)]
  exact ⟨_, rfl⟩
theorem part_d9 : ((partB c s k i n l).drop 9).take 8 = numB k 8 := by
  obtain ⟨r, e⟩ := part_drop9 c s k i n l
  rw [e, take_app _ _ (numB_length k 8)]
theorem part_drop17 : ∃ r, (partB c s k i n l).drop 17 = numB i 2 ++ (numB n 2 ++ ([UInt8.ofNat l.length] ++ (l ++ r))) := by
  obtain ⟨r, e⟩ := part_drop9 c s k i n l
  rw [show (17 : Nat) = 9 + 8 from rfl, ← List.drop_drop, e, drop_app _ _ (numB_length k 8)]
  exact ⟨r, rfl⟩
theorem part_at {j : Nat} {x : UInt8} (h : ((partB c s k i n l).drop 17)[j]? = some x) : (partB c s k i n l)[17 + j]? = some x := by
  rwa [List.getElem?_drop] at h
theorem part_17 : (partB c s k i n l)[17]? = some (UInt8.ofNat (i / 256)) ∧ (partB c s k i n l)[18]? = some (UInt8.ofNat i) ∧ (partB c s k i n l)[19]? = some (UInt8.ofNat (n / 256)) ∧ (partB c s k i n l)[20]? = some (UInt8.ofNat n) ∧ (partB c s k i n l)[21]? = some (UInt8.ofNat l.length) := by
  obtain ⟨r, e⟩ := part_drop17 c s k i n l
  refine ⟨part_at c s k i n l (j := 0) ?_, part_at c s k i n l (j := 1) ?_, part_at c s k i n l (j := 2) ?_, part_at c s k i n l (j := 3) ?_, part_at c s k i n l (j := 4) ?_⟩ <;> rw [e] <;> simp [numB]
theorem part_body : ((partB c s k i n l).drop 22).take l.length = l := by
  obtain ⟨r, e⟩ := part_drop17 c s k i n l
  rw [show (22 : Nat) = 17 + 5 from rfl, ← List.drop_drop, e]
  simp [numB]
end
set_option maxRecDepth 100000 in
theorem two_bytes (i : Nat) (hi : i < 65536) : bits .or .i64 (IntKind.i64.wrap (IntKind.i64.wrap ((i : Int) / 256) * 256)) (IntKind.i64.wrap ((i : Int) % 256)) = (i : Int) := by
  have h : i / 256 * 256 + i % 256 = i / 256 * 256 ||| i % 256 := by
    have := Nat.shiftLeft_add_eq_or_of_lt (b := i % 256) (i := 8) (Nat.mod_lt _ (by decide)) (i / 256)
    rw [Nat.shiftLeft_eq] at this
    exact this
  have w1 : IntKind.i64.wrap (IntKind.i64.wrap ((i : Int) / 256) * 256) = ((i / 256 * 256 : Nat) : Int) := by
    rw [IntKind.wrap_i64, IntKind.wrap_i64]
    omega
  have w2 : IntKind.i64.wrap ((i : Int) % 256) = ((i % 256 : Nat) : Int) := by
    rw [IntKind.wrap_i64]
    omega
  rw [w1, w2]
  show IntKind.i64.wrap ((BitVec.ofInt 64 ((i / 256 * 256 : Nat) : Int) ||| BitVec.ofInt 64 ((i % 256 : Nat) : Int)).toNat : Int) = _
  have l1 : i / 256 * 256 < 2 ^ 64 := Nat.lt_trans (m := 65537) (by omega) (by decide)
  have l2 : i % 256 < 2 ^ 64 := Nat.lt_trans (m := 256) (by omega) (by decide)
  rw [IntKind.wrap_i64, BitVec.toNat_or, BitVec.ofInt_natCast, BitVec.ofInt_natCast, BitVec.toNat_ofNat, BitVec.toNat_ofNat, Nat.mod_eq_of_lt l1, Nat.mod_eq_of_lt l2, ← h]
  omega

set_option maxRecDepth 100000 in
set_option maxHeartbeats 4000000 in
theorem partOf_C (gb cap : Nat) (s k i n : Nat) (l : List UInt8) (hs : s < 9223372036854775808) (hk : k < 9223372036854775808) (hin : i < n) (hn : n < 65536) (hl : l.length ≤ 102) (hfull : l.length = 102 ∨ i + 1 = n) (w : World) (hr : w.rangeAt gb 0 (u8s (partB 67 s k i n l))) (hgl : gb < w.heap.size) (hc : 128 ≤ cap) (hcm : cap ≤ maxLen) :
    Calls Try.prog 58 #[.slice (some ⟨gb, 0, none⟩) 128 cap] w fun e w' => e = .returned (.tuple #[.agg #[.int .u8 67, .int .i64 (s : Int), .int .i64 (k : Int), .int .i64 (i : Int), .int .i64 (n : Int), .slice (some ⟨gb, 22, none⟩) l.length (cap - 22)], .bool true]) ∧ Below w.heap.size w w' := by
  unfold maxLen at hcm
  have c1 : (128 : Int) ≤ (cap : Int) := by omega
  have HLW : Hid (∀ v, Below w.heap.size w v → v.rangeAt gb 0 (u8s (partB 67 s k i n l))) := fun v hv j x hj => (hv.cell hgl).trans (hr j x hj)
  have HLK : Hid (∀ v, Below w.heap.size w v → ∀ j x, (partB 67 s k i n l)[j]? = some x → v.cell? ⟨gb, j, none⟩ = some (.int .u8 (x.toNat : Int))) := fun v hv j x hj => by
    have := (hv.cell hgl).trans (hr j (.int .u8 (x.toNat : Int)) (by simp [u8s, hj]))
    rwa [Nat.zero_add] at this
  have HSK := Lib.hid (And.intro hs hk)
  have HIN := Lib.hid (And.intro hin hn)
  have HL := Lib.hid hl
  have HFULL := Lib.hid hfull
  have hr1 := HLK.out _ (grown_below0 (World.grownBy_alloc w (.cells #[.int .u8 0, .int .i64 0, .int .i64 0, .int .i64 0, .int .i64 0, .slice none 0 0] 84) none) (Nat.le_refl _)) 0 67 (part_0 67 s k i n l)
  have HGL := Lib.hid hgl
  clear hs hk hin hn hl hfull hr hgl
  go_enter Try.func58, Try.ntmps58
  go_upto_region 2 with fail
  have HZ := Lib.hid (PtSt.start w #[.int .u8 67, .int .i64 0, .int .i64 0, .int .i64 0, .int .i64 0, .slice none 0 0])
  obtain ⟨z, hz⟩ : ∃ z, z = (w.alloc (.cells #[.int .u8 0, .int .i64 0, .int .i64 0, .int .i64 0, .int .i64 0, .slice none 0 0] 84)).alloc (.cells #[.int .u8 67, .int .i64 0, .int .i64 0, .int .i64 0, .int .i64 0, .slice none 0 0] 84) := ⟨_, rfl⟩
  unfold part0 at HZ
  rw [← hz] at HZ ⊢
  clear hz hr1
  -- the tag, the length
  have h0 : z.cell? ⟨w.heap.size + 1, 0, none⟩ = some (.int .u8 67) := HZ.out.cell 0
  have h21 : z.cell? ⟨gb, 21, none⟩ = some (.int .u8 (l.length : Int)) := by
    have := HLK.out z HZ.out.below 21 _ (part_17 67 s k i n l).2.2.2.2
    rwa [show (UInt8.ofNat l.length).toNat = l.length by rw [UInt8.toNat_ofNat']; have := HL.out; omega] at this
  have d21 : decide ((102 : Int) < (l.length : Int)) = false := by have := HL.out; simp; omega
  go_upto_region 4 with fail
  clear h0 h21 d21
  go_wp2_with fail
  refine (read_at gb 1 127 (cap - 1) ((partB 67 s k i n l).drop 1) s 8 z (range_drop (HLW.out z HZ.out.below) 1) (by rw [List.length_drop, partB_length _ _ _ _ _ _ HL.out]) (by decide) (by decide) (by omega) (by unfold maxLen; omega) (part_d1 67 s k i n l) (by have := HSK.out.1; show _ < 18446744073709551616; omega) HSK.out.1).mono ?_
  rintro e w1 ⟨rfl, m, rfl⟩
  have g3 : (z.drewN m).cell? ⟨w.heap.size + 1, 1, none⟩ = some (.int .i64 0) := (HZ.out.drewN m).cell 1
  have g4 := (HZ.out.drewN m).free 1
  go_upto_region 5 with fail
  have HZ1 := Lib.hid ((HZ.out.drewN m).set 1 (.int .i64 (s : Int)))
  obtain ⟨z1, hz1⟩ : ∃ z1, z1 = (z.drewN m).setCell ⟨w.heap.size + 1, 1, none⟩ (.int .i64 (s : Int)) := ⟨_, rfl⟩
  rw [← hz1] at HZ1 ⊢
  clear hz1 g3 g4 HZ
  go_wp2_with fail
  refine (read_at gb 9 119 (cap - 9) ((partB 67 s k i n l).drop 9) k 8 z1 (range_drop (HLW.out z1 HZ1.out.below) 9) (by rw [List.length_drop, partB_length _ _ _ _ _ _ HL.out]) (by decide) (by decide) (by omega) (by unfold maxLen; omega) (part_d9 67 s k i n l) (by have := HSK.out.2; show _ < 18446744073709551616; omega) HSK.out.2).mono ?_
  rintro e w1 ⟨rfl, m2, rfl⟩
  have g3 : (z1.drewN m2).cell? ⟨w.heap.size + 1, 2, none⟩ = some (.int .i64 0) := (HZ1.out.drewN m2).cell 2
  have g4 := (HZ1.out.drewN m2).free 2
  go_upto_region 6 with fail
  have HZ := Lib.hid ((HZ1.out.drewN m2).set 2 (.int .i64 (k : Int)))
  obtain ⟨z, hz⟩ : ∃ z, z = (z1.drewN m2).setCell ⟨w.heap.size + 1, 2, none⟩ (.int .i64 (k : Int)) := ⟨_, rfl⟩
  rw [← hz] at HZ ⊢
  clear hz g3 g4 HZ1
  have H4B : Hid (∀ v, Below w.heap.size w v → v.cell? ⟨gb, 17, none⟩ = some (.int .u8 ((i / 256 : Nat) : Int)) ∧ v.cell? ⟨gb, 18, none⟩ = some (.int .u8 ((i % 256 : Nat) : Int)) ∧ v.cell? ⟨gb, 19, none⟩ = some (.int .u8 ((n / 256 : Nat) : Int)) ∧ v.cell? ⟨gb, 20, none⟩ = some (.int .u8 ((n % 256 : Nat) : Int))) := fun v hv => by
    have p := part_17 67 s k i n l
    have h1 := HLK.out v hv 17 _ p.1
    have h2 := HLK.out v hv 18 _ p.2.1
    have h3 := HLK.out v hv 19 _ p.2.2.1
    have h4 := HLK.out v hv 20 _ p.2.2.2.1
    have e1 : (UInt8.ofNat (i / 256)).toNat = i / 256 := by rw [UInt8.toNat_ofNat']; have := HIN.out; omega
    have e2 : (UInt8.ofNat i).toNat = i % 256 := UInt8.toNat_ofNat'
    have e3 : (UInt8.ofNat (n / 256)).toNat = n / 256 := by rw [UInt8.toNat_ofNat']; have := HIN.out; omega
    have e4 : (UInt8.ofNat n).toNat = n % 256 := UInt8.toNat_ofNat'
    rw [e1] at h1
    rw [e2] at h2
    rw [e3] at h3
    rw [e4] at h4
    exact ⟨h1, h2, h3, h4⟩
  have H21 : Hid (∀ v, Below w.heap.size w v → v.cell? ⟨gb, 21, none⟩ = some (.int .u8 (l.length : Int))) := fun v hv => by
    have := HLK.out v hv 21 _ (part_17 67 s k i n l).2.2.2.2
    rwa [show (UInt8.ofNat l.length).toNat = l.length by rw [UInt8.toNat_ofNat']; have := HL.out; omega] at this
  have HTI := Lib.hid (two_bytes i (by have := HIN.out; omega))
  have HTN := Lib.hid (two_bytes n HIN.out.2)
  have HYD : Hid (Below w.heap.size w z.drew) := HZ.out.below.trans (below_drew _ _)
  refine wp_region_noPanic ?_
  refine wp_region_held_drew (S := fun w' => w'.cell? ⟨gb, 17, none⟩ = some (Value.int .u8 ((i / 256 : Nat) : Int)) ∧ w'.cell? ⟨gb, 18, none⟩ = some (Value.int .u8 ((i % 256 : Nat) : Int)) ∧ w'.cell? ⟨gb, 19, none⟩ = some (Value.int .u8 ((n / 256 : Nat) : Int)) ∧ w'.cell? ⟨gb, 20, none⟩ = some (Value.int .u8 ((n % 256 : Nat) : Int))) (by kernel_rfl) ?hSa (fun hHeld => ?_)
  case hSa => exact H4B.out _ HYD.out
  refine wpAnyH_take (i := 0) (oi := ⟨_, _, _, _, _, _⟩) (v := ?va0) rfl (by kernel_rfl) (by kernel_rfl) (by kernel_rfl) (fun _ _ _ h => h) (Or.inl ⟨by rfl, ?hya0⟩) hHeld ?_
  case hya0 => (intro wS hSw; (try dsimp only at hSw); go_simp; (first | done | with_reducible rfl))
  try simp only [Act.put, List.setIfInBounds_toArray, List.set_cons_zero, List.set_cons_succ]
  refine wpAnyH_take (i := 1) (oi := ⟨_, _, _, _, _, _⟩) (v := ?va1) rfl (by kernel_rfl) (by kernel_rfl) (by kernel_rfl) (fun _ _ _ h => h) (Or.inl ⟨by rfl, ?hya1⟩) hHeld ?_
  case hya1 => (intro wS hSw; (try dsimp only at hSw); go_simp; (first | done | with_reducible rfl))
  try simp only [Act.put, List.setIfInBounds_toArray, List.set_cons_zero, List.set_cons_succ]
  refine wpAnyH_take (i := 2) (oi := ⟨_, _, _, _, _, _⟩) (v := ?va2) rfl (by kernel_rfl) (by kernel_rfl) (by kernel_rfl) (fun _ _ _ h => h) (Or.inl ⟨by rfl, ?hya2⟩) hHeld ?_
  case hya2 => (intro wS hSw; (try dsimp only at hSw); go_simp; (first | done | with_reducible rfl))
  try simp only [Act.put, List.setIfInBounds_toArray, List.set_cons_zero, List.set_cons_succ]
  refine wpAnyH_take (i := 3) (oi := ⟨_, _, _, _, _, _⟩) (v := ?va3) rfl (by kernel_rfl) (by kernel_rfl) (by kernel_rfl) (fun _ _ _ h => h) (Or.inl ⟨by rfl, ?hya3⟩) hHeld ?_
  case hya3 => (intro wS hSw; (try dsimp only at hSw); go_simp; (first | done | with_reducible rfl))
  try simp only [Act.put, List.setIfInBounds_toArray, List.set_cons_zero, List.set_cons_succ]
  refine wpAnyH_take (i := 4) (oi := ⟨_, _, _, _, _, _⟩) (v := ?va4) rfl (by kernel_rfl) (by kernel_rfl) (by kernel_rfl) (fun _ _ _ h => h) (Or.inl ⟨by rfl, ?hya4⟩) hHeld ?_
  case hya4 => (intro wS hSw; (try dsimp only at hSw); go_simp; (first | done | with_reducible rfl))
  try simp only [Act.put, List.setIfInBounds_toArray, List.set_cons_zero, List.set_cons_succ]
  refine wpAnyH_take (i := 5) (oi := ⟨_, _, _, _, _, _⟩) (v := ?va5) rfl (by kernel_rfl) (by kernel_rfl) (by kernel_rfl) (fun _ _ _ h => h) (Or.inl ⟨by rfl, ?hya5⟩) hHeld ?_
  case hya5 => (intro wS hSw; (try dsimp only at hSw); go_simp; (first | done | with_reducible rfl))
  try simp only [Act.put, List.setIfInBounds_toArray, List.set_cons_zero, List.set_cons_succ]
  refine wpAnyH_take (i := 6) (oi := ⟨_, _, _, _, _, _⟩) (v := ?va6) rfl (by kernel_rfl) (by kernel_rfl) (by kernel_rfl) (fun _ _ _ h => h) (Or.inl ⟨by rfl, ?hya6⟩) hHeld ?_
  case hya6 => (intro wS hSw; (try dsimp only at hSw); go_simp; (first | done | with_reducible rfl))
  try simp only [Act.put, List.setIfInBounds_toArray, List.set_cons_zero, List.set_cons_succ]
  refine wpAnyH_take (i := 7) (oi := ⟨_, _, _, _, _, _⟩) (v := ?va7) rfl (by kernel_rfl) (by kernel_rfl) (by kernel_rfl) (fun _ _ _ h => h) (Or.inl ⟨by rfl, ?hya7⟩) hHeld ?_
  case hya7 => (intro wS hSw; (try dsimp only at hSw); go_simp; (first | done | with_reducible rfl))
  try simp only [Act.put, List.setIfInBounds_toArray, List.set_cons_zero, List.set_cons_succ]
  refine wpAnyH_take (i := 8) (oi := ⟨_, _, _, _, _, _⟩) (v := ?va8) rfl (by kernel_rfl) (by kernel_rfl) (by kernel_rfl) (fun _ _ _ h => h) (Or.inl ⟨by rfl, ?hya8⟩) hHeld ?_
  case hya8 => (intro wS hSw; (try dsimp only at hSw); go_simp; (first | done | with_reducible rfl))
  try simp only [Act.put, List.setIfInBounds_toArray, List.set_cons_zero, List.set_cons_succ]
  refine wpAnyH_take (i := 9) (oi := ⟨_, _, _, _, _, _⟩) (v := Value.int .i64 (i : Int)) rfl (by kernel_rfl) (by kernel_rfl) (by kernel_rfl) (fun _ _ _ h => h) (Or.inl ⟨by rfl, ?hya9⟩) hHeld ?_
  case hya9 => (intro wS hSw; (try dsimp only at hSw); go_simp; rw [HTI.out])
  try simp only [Act.put, List.setIfInBounds_toArray, List.set_cons_zero, List.set_cons_succ]
  refine wpAnyH_take (i := 10) (oi := ⟨_, _, _, _, _, _⟩) (v := ?va10) rfl (by kernel_rfl) (by kernel_rfl) (by kernel_rfl) (fun _ _ _ h => h) (Or.inl ⟨by rfl, ?hya10⟩) hHeld ?_
  case hya10 => (intro wS hSw; (try dsimp only at hSw); go_simp; (first | done | with_reducible rfl))
  try simp only [Act.put, List.setIfInBounds_toArray, List.set_cons_zero, List.set_cons_succ]
  refine wpAnyH_take (i := 11) (oi := ⟨_, _, _, _, _, _⟩) (v := ?va11) rfl (by kernel_rfl) (by kernel_rfl) (by kernel_rfl) (fun _ _ _ h => h) (Or.inl ⟨by rfl, ?hya11⟩) hHeld ?_
  case hya11 => (intro wS hSw; (try dsimp only at hSw); go_simp; (first | done | with_reducible rfl))
  try simp only [Act.put, List.setIfInBounds_toArray, List.set_cons_zero, List.set_cons_succ]
  refine wpAnyH_take (i := 12) (oi := ⟨_, _, _, _, _, _⟩) (v := ?va12) rfl (by kernel_rfl) (by kernel_rfl) (by kernel_rfl) (fun _ _ _ h => h) (Or.inl ⟨by rfl, ?hya12⟩) hHeld ?_
  case hya12 => (intro wS hSw; (try dsimp only at hSw); go_simp; (first | done | with_reducible rfl))
  try simp only [Act.put, List.setIfInBounds_toArray, List.set_cons_zero, List.set_cons_succ]
  refine wpAnyH_take (i := 13) (oi := ⟨_, _, _, _, _, _⟩) (v := ?va13) rfl (by kernel_rfl) (by kernel_rfl) (by kernel_rfl) (fun _ _ _ h => h) (Or.inl ⟨by rfl, ?hya13⟩) hHeld ?_
  case hya13 => (intro wS hSw; (try dsimp only at hSw); go_simp; (first | done | with_reducible rfl))
  try simp only [Act.put, List.setIfInBounds_toArray, List.set_cons_zero, List.set_cons_succ]
  refine wpAnyH_take (i := 14) (oi := ⟨_, _, _, _, _, _⟩) (v := ?va14) rfl (by kernel_rfl) (by kernel_rfl) (by kernel_rfl) (fun _ _ _ h => h) (Or.inl ⟨by rfl, ?hya14⟩) hHeld ?_
  case hya14 => (intro wS hSw; (try dsimp only at hSw); go_simp; (first | done | with_reducible rfl))
  try simp only [Act.put, List.setIfInBounds_toArray, List.set_cons_zero, List.set_cons_succ]
  refine wpAnyH_take (i := 15) (oi := ⟨_, _, _, _, _, _⟩) (v := ?va15) rfl (by kernel_rfl) (by kernel_rfl) (by kernel_rfl) (fun _ _ _ h => h) (Or.inl ⟨by rfl, ?hya15⟩) hHeld ?_
  case hya15 => (intro wS hSw; (try dsimp only at hSw); go_simp; (first | done | with_reducible rfl))
  try simp only [Act.put, List.setIfInBounds_toArray, List.set_cons_zero, List.set_cons_succ]
  refine wpAnyH_take (i := 16) (oi := ⟨_, _, _, _, _, _⟩) (v := ?va16) rfl (by kernel_rfl) (by kernel_rfl) (by kernel_rfl) (fun _ _ _ h => h) (Or.inl ⟨by rfl, ?hya16⟩) hHeld ?_
  case hya16 => (intro wS hSw; (try dsimp only at hSw); go_simp; (first | done | with_reducible rfl))
  try simp only [Act.put, List.setIfInBounds_toArray, List.set_cons_zero, List.set_cons_succ]
  refine wpAnyH_take (i := 17) (oi := ⟨_, _, _, _, _, _⟩) (v := ?va17) rfl (by kernel_rfl) (by kernel_rfl) (by kernel_rfl) (fun _ _ _ h => h) (Or.inl ⟨by rfl, ?hya17⟩) hHeld ?_
  case hya17 => (intro wS hSw; (try dsimp only at hSw); go_simp; (first | done | with_reducible rfl))
  try simp only [Act.put, List.setIfInBounds_toArray, List.set_cons_zero, List.set_cons_succ]
  refine wpAnyH_take (i := 18) (oi := ⟨_, _, _, _, _, _⟩) (v := ?va18) rfl (by kernel_rfl) (by kernel_rfl) (by kernel_rfl) (fun _ _ _ h => h) (Or.inl ⟨by rfl, ?hya18⟩) hHeld ?_
  case hya18 => (intro wS hSw; (try dsimp only at hSw); go_simp; (first | done | with_reducible rfl))
  try simp only [Act.put, List.setIfInBounds_toArray, List.set_cons_zero, List.set_cons_succ]
  refine wpAnyH_take (i := 19) (oi := ⟨_, _, _, _, _, _⟩) (v := Value.int .i64 (n : Int)) rfl (by kernel_rfl) (by kernel_rfl) (by kernel_rfl) (fun _ _ _ h => h) (Or.inl ⟨by rfl, ?hya19⟩) hHeld ?_
  case hya19 => (intro wS hSw; (try dsimp only at hSw); go_simp; rw [HTN.out])
  try simp only [Act.put, List.setIfInBounds_toArray, List.set_cons_zero, List.set_cons_succ]
  refine wpAnyH_take (i := 20) (oi := ⟨_, _, _, _, _, _⟩) (v := ?va20) rfl (by kernel_rfl) (by kernel_rfl) (by kernel_rfl) (fun _ _ _ h => h) (Or.inl ⟨by rfl, ?hya20⟩) hHeld ?_
  case hya20 => (intro wS hSw; (try dsimp only at hSw); go_simp; (first | done | with_reducible rfl))
  try simp only [Act.put, List.setIfInBounds_toArray, List.set_cons_zero, List.set_cons_succ]
  refine wpAnyH_ready (rs := [21]) (by kernel_rfl) (by simp) ?_
  refine AllReadyH.cons (o := ⟨_, _, _, _, _, _⟩) rfl (fun K hK => ?_) AllReadyH.nil
  have g3 : z.cell? ⟨w.heap.size + 1, 3, none⟩ = some (.int .i64 0) := HZ.out.cell 3
  have g4 : z.frozen? ⟨w.heap.size + 1, 3, none⟩ = false := HZ.out.free 3
  go_simp
  clear g3 g4
  have HZ1 := Lib.hid ((HZ.out.set 3 (.int .i64 (i : Int))).drewN 1)
  refine hK.out _ _ ?ka21 (fun hNew => ?_)
  case ka21 => (try dsimp only); exact H4B.out _ HZ1.out.below
  clear hK K hHeld
  have hHeld := hNew
  clear hNew
  try simp only [Act.put, List.setIfInBounds_toArray, List.set_cons_zero, List.set_cons_succ]
  refine wpAnyH_take (i := 22) (oi := ⟨_, _, _, _, _, _⟩) (v := ?va22) rfl (by kernel_rfl) (by kernel_rfl) (by kernel_rfl) (fun _ _ _ h => h) (Or.inl ⟨by rfl, ?hya22⟩) hHeld ?_
  case hya22 => (intro wS hSw; (try dsimp only at hSw); go_simp; (first | done | with_reducible rfl))
  try simp only [Act.put, List.setIfInBounds_toArray, List.set_cons_zero, List.set_cons_succ]
  refine wpAnyH_ready (rs := [23]) (by kernel_rfl) (by simp) ?_
  refine AllReadyH.cons (o := ⟨_, _, _, _, _, _⟩) rfl (fun K hK => ?_) AllReadyH.nil
  have g3 : z.cell? ⟨w.heap.size + 1, 4, none⟩ = some (.int .i64 0) := HZ.out.cell 4
  have g4 : z.frozen? ⟨w.heap.size + 1, 4, none⟩ = false := HZ.out.free 4
  go_simp
  clear g3 g4
  have HZ2 := Lib.hid (((HZ.out.set 3 (.int .i64 (i : Int))).set 4 (.int .i64 (n : Int))).drewN 1)
  refine hK.out _ _ ?ka23 (fun hNew => ?_)
  case ka23 => (try dsimp only); exact H4B.out _ HZ2.out.below
  clear hK K hHeld
  have hHeld := hNew
  clear hNew
  try simp only [Act.put, List.setIfInBounds_toArray, List.set_cons_zero, List.set_cons_succ]
  refine wpAnyH_done (by kernel_rfl) ?_ _
  refine NoPanic.normal ?_
  clear hHeld
  obtain ⟨zf, hzf⟩ : ∃ zf, zf = ((z.setCell ⟨w.heap.size + 1, 3, none⟩ (.int .i64 (i : Int))).setCell ⟨w.heap.size + 1, 4, none⟩ (.int .i64 (n : Int))).drew := ⟨_, rfl⟩
  have HZF : Hid (PtSt w zf #[.int .u8 67, .int .i64 (s : Int), .int .i64 (k : Int), .int .i64 (i : Int), .int .i64 (n : Int), .slice none 0 0]) := by rw [hzf]; exact HZ2.out
  rw [← hzf]
  clear hzf HZ HZ1 HZ2 HYD
  have h21 : zf.cell? ⟨gb, 21, none⟩ = some (.int .u8 (l.length : Int)) := H21.out _ HZF.out.below
  have g3 : zf.cell? ⟨w.heap.size + 1, 5, none⟩ = some (.slice none 0 0) := HZF.out.cell 5
  have g4 : zf.frozen? ⟨w.heap.size + 1, 5, none⟩ = false := HZF.out.free 5
  have l1 : (l.length : Int) ≤ 102 := by have := HL.out; omega
  go_upto_region 8 with fail
  have e22 : 22 + l.length - 22 = l.length := by omega
  try rw [e22]
  have HZG : Hid (PtSt w (zf.setCell ⟨w.heap.size + 1, 5, none⟩ (.slice (some ⟨gb, 22, none⟩) l.length (cap - 22))) #[.int .u8 67, .int .i64 (s : Int), .int .i64 (k : Int), .int .i64 (i : Int), .int .i64 (n : Int), .slice (some ⟨gb, 22, none⟩) l.length (cap - 22)]) := HZF.out.set 5 _
  obtain ⟨zg, hzg⟩ : ∃ zg, zg = zf.setCell ⟨w.heap.size + 1, 5, none⟩ (.slice (some ⟨gb, 22, none⟩) l.length (cap - 22)) := ⟨_, rfl⟩
  rw [← hzg] at HZG ⊢
  clear hzg g3 g4 h21 HZF l1 e22
  have h3 : zg.cell? ⟨w.heap.size + 1, 3, none⟩ = some (.int .i64 (i : Int)) := HZG.out.cell 3
  have h4 : zg.cell? ⟨w.heap.size + 1, 4, none⟩ = some (.int .i64 (n : Int)) := HZG.out.cell 4
  have h5 : zg.cell? ⟨w.heap.size + 1, 5, none⟩ = some (.slice (some ⟨gb, 22, none⟩) l.length (cap - 22)) := HZG.out.cell 5
  go_cut [5] from 68 (fun v5 wx => v5 = .bool true ∧ wx = zg)
  case first =>
    by_cases hf : l.length = 102
    · have d1 : ((l.length : Int) == 102) = true := by simp; omega
      go_wp2_with fail
      go_meet
      case rel => exact ⟨rfl, rfl⟩
    · have d1 : ((l.length : Int) == 102) = false := by simp; omega
      have hfn : i + 1 = n := by rcases HFULL.out with h | h
                                 · exact absurd h hf
                                 · exact h
      have d2 : ((i : Int) == wrap64 ((n : Int) - 1)) = true := by
        have e : wrap64 ((n : Int) - 1) = (i : Int) := by have := HIN.out; unfold wrap64; omega
        rw [e]; simp
      go_wp2_with fail
      go_meet
      case rel => exact ⟨rfl, rfl⟩
  case rest =>
    obtain ⟨rfl, hwx⟩ := hcut
    have hwx := hwx.symm
    subst hwx
    clear h3 h4 h5
    have HC0 := Lib.hid HZG.out.six
    have din : decide ((i : Int) < (n : Int)) = true := by have := HIN.out; simp; omega
    have din2 : decide (i < n) = true := by have := HIN.out; simp; omega
    go_wp2_with fail
    refine wp_region_noPanic ?_
    refine wp_region_held_drew (S := fun w' => w'.cell? ⟨w.heap.size + 1, 0, none⟩ = some (Value.int .u8 67) ∧ w'.cell? ⟨w.heap.size + 1, 1, none⟩ = some (Value.int .i64 (s : Int)) ∧ w'.cell? ⟨w.heap.size + 1, 2, none⟩ = some (Value.int .i64 (k : Int)) ∧ w'.cell? ⟨w.heap.size + 1, 3, none⟩ = some (Value.int .i64 (i : Int)) ∧ w'.cell? ⟨w.heap.size + 1, 4, none⟩ = some (Value.int .i64 (n : Int)) ∧ w'.cell? ⟨w.heap.size + 1, 5, none⟩ = some (Value.slice (some ⟨gb, 22, none⟩) l.length (cap - 22))) (by kernel_rfl) ?hSe (fun hHeld => ?_)
    case hSe => exact HC0.out
    refine wpAnyH_take (i := 0) (oi := ⟨_, _, _, _, _, _⟩) (v := ?ve0) rfl (by kernel_rfl) (by kernel_rfl) (by kernel_rfl) (fun _ _ _ h => h) (Or.inl ⟨by rfl, ?hye0⟩) hHeld ?_
    case hye0 => (intro wS hSw; (try dsimp only at hSw); go_simp; (first | done | with_reducible rfl))
    try simp only [Act.put, List.setIfInBounds_toArray, List.set_cons_zero, List.set_cons_succ]
    refine wpAnyH_take (i := 1) (oi := ⟨_, _, _, _, _, _⟩) (v := ?ve1) rfl (by kernel_rfl) (by kernel_rfl) (by kernel_rfl) (fun _ _ _ h => h) (Or.inl ⟨by rfl, ?hye1⟩) hHeld ?_
    case hye1 => (intro wS hSw; (try dsimp only at hSw); go_simp; (first | done | with_reducible rfl))
    try simp only [Act.put, List.setIfInBounds_toArray, List.set_cons_zero, List.set_cons_succ]
    refine wpAnyH_take (i := 2) (oi := ⟨_, _, _, _, _, _⟩) (v := ?ve2) rfl (by kernel_rfl) (by kernel_rfl) (by kernel_rfl) (fun _ _ _ h => h) (Or.inl ⟨by rfl, ?hye2⟩) hHeld ?_
    case hye2 => (intro wS hSw; (try dsimp only at hSw); go_simp; (first | done | with_reducible rfl))
    try simp only [Act.put, List.setIfInBounds_toArray, List.set_cons_zero, List.set_cons_succ]
    refine wpAnyH_take (i := 3) (oi := ⟨_, _, _, _, _, _⟩) (v := ?ve3) rfl (by kernel_rfl) (by kernel_rfl) (by kernel_rfl) (fun _ _ _ h => h) (Or.inl ⟨by rfl, ?hye3⟩) hHeld ?_
    case hye3 => (intro wS hSw; (try dsimp only at hSw); go_simp; (first | done | with_reducible rfl))
    try simp only [Act.put, List.setIfInBounds_toArray, List.set_cons_zero, List.set_cons_succ]
    refine wpAnyH_take (i := 4) (oi := ⟨_, _, _, _, _, _⟩) (v := ?ve4) rfl (by kernel_rfl) (by kernel_rfl) (by kernel_rfl) (fun _ _ _ h => h) (Or.inl ⟨by rfl, ?hye4⟩) hHeld ?_
    case hye4 => (intro wS hSw; (try dsimp only at hSw); go_simp; (first | done | with_reducible rfl))
    try simp only [Act.put, List.setIfInBounds_toArray, List.set_cons_zero, List.set_cons_succ]
    refine wpAnyH_take (i := 5) (oi := ⟨_, _, _, _, _, _⟩) (v := ?ve5) rfl (by kernel_rfl) (by kernel_rfl) (by kernel_rfl) (fun _ _ _ h => h) (Or.inl ⟨by rfl, ?hye5⟩) hHeld ?_
    case hye5 => (intro wS hSw; (try dsimp only at hSw); go_simp; (first | done | with_reducible rfl))
    try simp only [Act.put, List.setIfInBounds_toArray, List.set_cons_zero, List.set_cons_succ]
    refine wpAnyH_take (i := 6) (oi := ⟨_, _, _, _, _, _⟩) (v := ?ve6) rfl (by kernel_rfl) (by kernel_rfl) (by kernel_rfl) (fun _ _ _ h => h) (Or.inl ⟨by rfl, ?hye6⟩) hHeld ?_
    case hye6 => (intro wS hSw; (try dsimp only at hSw); go_simp; (first | done | with_reducible rfl))
    try simp only [Act.put, List.setIfInBounds_toArray, List.set_cons_zero, List.set_cons_succ]
    refine wpAnyH_take (i := 7) (oi := ⟨_, _, _, _, _, _⟩) (v := ?ve7) rfl (by kernel_rfl) (by kernel_rfl) (by kernel_rfl) (fun _ _ _ h => h) (Or.inl ⟨by rfl, ?hye7⟩) hHeld ?_
    case hye7 => (intro wS hSw; (try dsimp only at hSw); go_simp; (first | done | with_reducible rfl))
    try simp only [Act.put, List.setIfInBounds_toArray, List.set_cons_zero, List.set_cons_succ]
    refine wpAnyH_take (i := 8) (oi := ⟨_, _, _, _, _, _⟩) (v := ?ve8) rfl (by kernel_rfl) (by kernel_rfl) (by kernel_rfl) (fun _ _ _ h => h) (Or.inl ⟨by rfl, ?hye8⟩) hHeld ?_
    case hye8 => (intro wS hSw; (try dsimp only at hSw); go_simp; (first | done | with_reducible rfl))
    try simp only [Act.put, List.setIfInBounds_toArray, List.set_cons_zero, List.set_cons_succ]
    refine wpAnyH_take (i := 9) (oi := ⟨_, _, _, _, _, _⟩) (v := ?ve9) rfl (by kernel_rfl) (by kernel_rfl) (by kernel_rfl) (fun _ _ _ h => h) (Or.inl ⟨by rfl, ?hye9⟩) hHeld ?_
    case hye9 => (intro wS hSw; (try dsimp only at hSw); go_simp; (first | done | with_reducible rfl))
    try simp only [Act.put, List.setIfInBounds_toArray, List.set_cons_zero, List.set_cons_succ]
    refine wpAnyH_take (i := 10) (oi := ⟨_, _, _, _, _, _⟩) (v := ?ve10) rfl (by kernel_rfl) (by kernel_rfl) (by kernel_rfl) (fun _ _ _ h => h) (Or.inl ⟨by rfl, ?hye10⟩) hHeld ?_
    case hye10 => (intro wS hSw; (try dsimp only at hSw); go_simp; (first | done | with_reducible rfl))
    try simp only [Act.put, List.setIfInBounds_toArray, List.set_cons_zero, List.set_cons_succ]
    refine wpAnyH_take (i := 12) (oi := ⟨_, _, _, _, _, _⟩) (v := ?ve12) rfl (by kernel_rfl) (by kernel_rfl) (by kernel_rfl) (fun _ _ _ h => h) (Or.inl ⟨by rfl, ?hye12⟩) hHeld ?_
    case hye12 => (intro wS hSw; (try dsimp only at hSw); go_simp; (first | done | with_reducible rfl))
    try simp only [Act.put, List.setIfInBounds_toArray, List.set_cons_zero, List.set_cons_succ]
    refine wpAnyH_ready (rs := [11]) (by kernel_rfl) (by simp) ?_
    refine AllReadyH.cons (o := ⟨_, _, _, _, _, _⟩) rfl (fun K hK => ?_) AllReadyH.nil
    go_simp
    refine (part_bytes_at 67 s k i n l (some ⟨gb, 22, none⟩) (cap - 22) HSK.out.1 HSK.out.2 (by have := HIN.out; omega) (by have := HIN.out; omega) HL.out zg.drew (.inr ⟨gb, 22, rfl, by have h1 := HGL.out; have h2 := HZG.out.size; show gb < zg.heap.size; omega, by have h := range_head (range_drop (HLW.out zg HZG.out.below) 22) l.length; rw [part_body] at h; exact h⟩)).mono ?_
    rintro e w2 ⟨v2, rfl, hr2, hb2⟩
    obtain ⟨g2, cap2, rfl, _, _, _, _, hrg2⟩ := hr2.some (by have := partB_length 67 s k i n l HL.out; intro e; rw [e] at this; cases this)
    rw [partB_length _ _ _ _ _ _ HL.out]
    have HRG2 := Lib.hid hrg2
    have HP2 := Lib.hid ((HZG.out.drewN 1).later hb2)
    have HRW := Lib.hid (HLW.out _ HP2.out.below)
    have HC2 := Lib.hid HP2.out.six
    clear hr2 hb2 hrg2
    go_wp2_with fail
    refine hK.out _ _ ?ke11 (fun hNew => ?_)
    case ke11 => (try dsimp only); exact HC2.out
    clear hK K hHeld
    have hHeld := hNew
    clear hNew
    try simp only [Act.put, List.setIfInBounds_toArray, List.set_cons_zero, List.set_cons_succ]
    refine wpAnyH_ready (rs := [13]) (by kernel_rfl) (by simp) ?_
    refine AllReadyH.cons (o := ⟨_, _, _, _, _, _⟩) rfl (fun K hK => ?_) AllReadyH.nil
    go_simp
    refine (equal_len g2 0 gb 0 128 128 (partB 67 s k i n l) (partB 67 s k i n l) (partB_length _ _ _ _ _ _ HL.out) (partB_length _ _ _ _ _ _ HL.out) cap2 cap w2 HRG2.out HRW.out).mono ?_
    rintro e w3 ⟨rfl, hw3⟩
    have hw3 := hw3.symm
    subst hw3
    rw [decide_eq_true rfl]
    go_wp2_with fail
    refine hK.out _ _ ?ke13 (fun hNew => ?_)
    case ke13 => (try dsimp only); exact HC2.out
    clear hK K hHeld
    have hHeld := hNew
    clear hNew
    try simp only [Act.put, List.setIfInBounds_toArray, List.set_cons_zero, List.set_cons_succ]
    refine wpAnyH_take (i := 14) (oi := ⟨_, _, _, _, _, _⟩) (v := ?ve14) rfl (by kernel_rfl) (by kernel_rfl) (by kernel_rfl) (fun _ _ _ h => h) (Or.inl ⟨by rfl, ?hye14⟩) hHeld ?_
    case hye14 => (intro wS hSw; (try dsimp only at hSw); go_simp; (first | done | with_reducible rfl))
    try simp only [Act.put, List.setIfInBounds_toArray, List.set_cons_zero, List.set_cons_succ]
    refine wpAnyH_ready (rs := [15]) (by kernel_rfl) (by simp) ?_
    refine AllReadyH.cons (o := ⟨_, _, _, _, _, _⟩) rfl (fun K hK => ?_) AllReadyH.nil
    obtain ⟨r0, r1, r2, r3, r4, r5⟩ := HP2.out.res6
    have q0 := HP2.out.resfree
    go_simp
    clear r0 r1 r2 r3 r4 r5 q0
    have HPP := Lib.hid (HP2.out.put (.int .u8 67) (.int .i64 (s : Int)) (.int .i64 (k : Int)) (.int .i64 (i : Int)) (.int .i64 (n : Int)) (.slice (some ⟨gb, 22, none⟩) l.length (cap - 22)))
    refine hK.out _ _ ?ke15 (fun hNew => ?_)
    case ke15 => (try dsimp only); exact six_of HPP.out.2.2
    clear hK K hHeld
    have hHeld := hNew
    clear hNew
    try simp only [Act.put, List.setIfInBounds_toArray, List.set_cons_zero, List.set_cons_succ]
    refine wpAnyH_take (i := 16) (oi := ⟨_, _, _, _, _, _⟩) (v := ?ve16) rfl (by kernel_rfl) (by kernel_rfl) (by kernel_rfl) (fun _ _ _ h => h) (Or.inl ⟨by rfl, ?hye16⟩) hHeld ?_
    case hye16 => (intro wS hSw; (try dsimp only at hSw); go_simp; (first | done | with_reducible rfl))
    try simp only [Act.put, List.setIfInBounds_toArray, List.set_cons_zero, List.set_cons_succ]
    refine wpAnyH_done (by kernel_rfl) ?_ _
    refine NoPanic.normal ?_
    clear hHeld
    go_wp2_with fail
    (try simp only [Exit.inBlock, Exit.then])
    refine bodyPost_ret (results_row_tmp rfl _ _ w.heap.size _ _ _ _ rfl HPP.out.1 Try.underlying84 rfl (by kernel_rfl)) rfl ?_
    exact ⟨rfl, HPP.out.2.1⟩
set_option maxRecDepth 100000 in
set_option maxHeartbeats 4000000 in
theorem partOf_R (gb cap : Nat) (s k i n : Nat) (l : List UInt8) (hs : s < 9223372036854775808) (hk : k < 9223372036854775808) (hin : i < n) (hn : n < 65536) (hl : l.length ≤ 102) (hfull : l.length = 102 ∨ i + 1 = n) (w : World) (hr : w.rangeAt gb 0 (u8s (partB 82 s k i n l))) (hgl : gb < w.heap.size) (hc : 128 ≤ cap) (hcm : cap ≤ maxLen) :
    Calls Try.prog 58 #[.slice (some ⟨gb, 0, none⟩) 128 cap] w fun e w' => e = .returned (.tuple #[.agg #[.int .u8 82, .int .i64 (s : Int), .int .i64 (k : Int), .int .i64 (i : Int), .int .i64 (n : Int), .slice (some ⟨gb, 22, none⟩) l.length (cap - 22)], .bool true]) ∧ Below w.heap.size w w' := by
  unfold maxLen at hcm
  have c1 : (128 : Int) ≤ (cap : Int) := by omega
  have HLW : Hid (∀ v, Below w.heap.size w v → v.rangeAt gb 0 (u8s (partB 82 s k i n l))) := fun v hv j x hj => (hv.cell hgl).trans (hr j x hj)
  have HLK : Hid (∀ v, Below w.heap.size w v → ∀ j x, (partB 82 s k i n l)[j]? = some x → v.cell? ⟨gb, j, none⟩ = some (.int .u8 (x.toNat : Int))) := fun v hv j x hj => by
    have := (hv.cell hgl).trans (hr j (.int .u8 (x.toNat : Int)) (by simp [u8s, hj]))
    rwa [Nat.zero_add] at this
  have HSK := Lib.hid (And.intro hs hk)
  have HIN := Lib.hid (And.intro hin hn)
  have HL := Lib.hid hl
  have HFULL := Lib.hid hfull
  have hr1 := HLK.out _ (grown_below0 (World.grownBy_alloc w (.cells #[.int .u8 0, .int .i64 0, .int .i64 0, .int .i64 0, .int .i64 0, .slice none 0 0] 84) none) (Nat.le_refl _)) 0 82 (part_0 82 s k i n l)
  have HGL := Lib.hid hgl
  clear hs hk hin hn hl hfull hr hgl
  go_enter Try.func58, Try.ntmps58
  go_upto_region 2 with fail
  have HZ := Lib.hid (PtSt.start w #[.int .u8 82, .int .i64 0, .int .i64 0, .int .i64 0, .int .i64 0, .slice none 0 0])
  obtain ⟨z, hz⟩ : ∃ z, z = (w.alloc (.cells #[.int .u8 0, .int .i64 0, .int .i64 0, .int .i64 0, .int .i64 0, .slice none 0 0] 84)).alloc (.cells #[.int .u8 82, .int .i64 0, .int .i64 0, .int .i64 0, .int .i64 0, .slice none 0 0] 84) := ⟨_, rfl⟩
  unfold part0 at HZ
  rw [← hz] at HZ ⊢
  clear hz hr1
  -- the tag, the length
  have h0 : z.cell? ⟨w.heap.size + 1, 0, none⟩ = some (.int .u8 82) := HZ.out.cell 0
  have h21 : z.cell? ⟨gb, 21, none⟩ = some (.int .u8 (l.length : Int)) := by
    have := HLK.out z HZ.out.below 21 _ (part_17 82 s k i n l).2.2.2.2
    rwa [show (UInt8.ofNat l.length).toNat = l.length by rw [UInt8.toNat_ofNat']; have := HL.out; omega] at this
  have d21 : decide ((102 : Int) < (l.length : Int)) = false := by have := HL.out; simp; omega
  go_upto_region 4 with fail
  clear h0 h21 d21
  go_wp2_with fail
  refine (read_at gb 1 127 (cap - 1) ((partB 82 s k i n l).drop 1) s 8 z (range_drop (HLW.out z HZ.out.below) 1) (by rw [List.length_drop, partB_length _ _ _ _ _ _ HL.out]) (by decide) (by decide) (by omega) (by unfold maxLen; omega) (part_d1 82 s k i n l) (by have := HSK.out.1; show _ < 18446744073709551616; omega) HSK.out.1).mono ?_
  rintro e w1 ⟨rfl, m, rfl⟩
  have g3 : (z.drewN m).cell? ⟨w.heap.size + 1, 1, none⟩ = some (.int .i64 0) := (HZ.out.drewN m).cell 1
  have g4 := (HZ.out.drewN m).free 1
  go_upto_region 5 with fail
  have HZ1 := Lib.hid ((HZ.out.drewN m).set 1 (.int .i64 (s : Int)))
  obtain ⟨z1, hz1⟩ : ∃ z1, z1 = (z.drewN m).setCell ⟨w.heap.size + 1, 1, none⟩ (.int .i64 (s : Int)) := ⟨_, rfl⟩
  rw [← hz1] at HZ1 ⊢
  clear hz1 g3 g4 HZ
  go_wp2_with fail
  refine (read_at gb 9 119 (cap - 9) ((partB 82 s k i n l).drop 9) k 8 z1 (range_drop (HLW.out z1 HZ1.out.below) 9) (by rw [List.length_drop, partB_length _ _ _ _ _ _ HL.out]) (by decide) (by decide) (by omega) (by unfold maxLen; omega) (part_d9 82 s k i n l) (by have := HSK.out.2; show _ < 18446744073709551616; omega) HSK.out.2).mono ?_
  rintro e w1 ⟨rfl, m2, rfl⟩
  have g3 : (z1.drewN m2).cell? ⟨w.heap.size + 1, 2, none⟩ = some (.int .i64 0) := (HZ1.out.drewN m2).cell 2
  have g4 := (HZ1.out.drewN m2).free 2
  go_upto_region 6 with fail
  have HZ := Lib.hid ((HZ1.out.drewN m2).set 2 (.int .i64 (k : Int)))
  obtain ⟨z, hz⟩ : ∃ z, z = (z1.drewN m2).setCell ⟨w.heap.size + 1, 2, none⟩ (.int .i64 (k : Int)) := ⟨_, rfl⟩
  rw [← hz] at HZ ⊢
  clear hz g3 g4 HZ1
  have H4B : Hid (∀ v, Below w.heap.size w v → v.cell? ⟨gb, 17, none⟩ = some (.int .u8 ((i / 256 : Nat) : Int)) ∧ v.cell? ⟨gb, 18, none⟩ = some (.int .u8 ((i % 256 : Nat) : Int)) ∧ v.cell? ⟨gb, 19, none⟩ = some (.int .u8 ((n / 256 : Nat) : Int)) ∧ v.cell? ⟨gb, 20, none⟩ = some (.int .u8 ((n % 256 : Nat) : Int))) := fun v hv => by
    have p := part_17 82 s k i n l
    have h1 := HLK.out v hv 17 _ p.1
    have h2 := HLK.out v hv 18 _ p.2.1
    have h3 := HLK.out v hv 19 _ p.2.2.1
    have h4 := HLK.out v hv 20 _ p.2.2.2.1
    have e1 : (UInt8.ofNat (i / 256)).toNat = i / 256 := by rw [UInt8.toNat_ofNat']; have := HIN.out; omega
    have e2 : (UInt8.ofNat i).toNat = i % 256 := UInt8.toNat_ofNat'
    have e3 : (UInt8.ofNat (n / 256)).toNat = n / 256 := by rw [UInt8.toNat_ofNat']; have := HIN.out; omega
    have e4 : (UInt8.ofNat n).toNat = n % 256 := UInt8.toNat_ofNat'
    rw [e1] at h1
    rw [e2] at h2
    rw [e3] at h3
    rw [e4] at h4
    exact ⟨h1, h2, h3, h4⟩
  have H21 : Hid (∀ v, Below w.heap.size w v → v.cell? ⟨gb, 21, none⟩ = some (.int .u8 (l.length : Int))) := fun v hv => by
    have := HLK.out v hv 21 _ (part_17 82 s k i n l).2.2.2.2
    rwa [show (UInt8.ofNat l.length).toNat = l.length by rw [UInt8.toNat_ofNat']; have := HL.out; omega] at this
  have HTI := Lib.hid (two_bytes i (by have := HIN.out; omega))
  have HTN := Lib.hid (two_bytes n HIN.out.2)
  have HYD : Hid (Below w.heap.size w z.drew) := HZ.out.below.trans (below_drew _ _)
  refine wp_region_noPanic ?_
  refine wp_region_held_drew (S := fun w' => w'.cell? ⟨gb, 17, none⟩ = some (Value.int .u8 ((i / 256 : Nat) : Int)) ∧ w'.cell? ⟨gb, 18, none⟩ = some (Value.int .u8 ((i % 256 : Nat) : Int)) ∧ w'.cell? ⟨gb, 19, none⟩ = some (Value.int .u8 ((n / 256 : Nat) : Int)) ∧ w'.cell? ⟨gb, 20, none⟩ = some (Value.int .u8 ((n % 256 : Nat) : Int))) (by kernel_rfl) ?hSa (fun hHeld => ?_)
  case hSa => exact H4B.out _ HYD.out
  refine wpAnyH_take (i := 0) (oi := ⟨_, _, _, _, _, _⟩) (v := ?va0) rfl (by kernel_rfl) (by kernel_rfl) (by kernel_rfl) (fun _ _ _ h => h) (Or.inl ⟨by rfl, ?hya0⟩) hHeld ?_
  case hya0 => (intro wS hSw; (try dsimp only at hSw); go_simp; (first | done | with_reducible rfl))
  try simp only [Act.put, List.setIfInBounds_toArray, List.set_cons_zero, List.set_cons_succ]
  refine wpAnyH_take (i := 1) (oi := ⟨_, _, _, _, _, _⟩) (v := ?va1) rfl (by kernel_rfl) (by kernel_rfl) (by kernel_rfl) (fun _ _ _ h => h) (Or.inl ⟨by rfl, ?hya1⟩) hHeld ?_
  case hya1 => (intro wS hSw; (try dsimp only at hSw); go_simp; (first | done | with_reducible rfl))
  try simp only [Act.put, List.setIfInBounds_toArray, List.set_cons_zero, List.set_cons_succ]
  refine wpAnyH_take (i := 2) (oi := ⟨_, _, _, _, _, _⟩) (v := ?va2) rfl (by kernel_rfl) (by kernel_rfl) (by kernel_rfl) (fun _ _ _ h => h) (Or.inl ⟨by rfl, ?hya2⟩) hHeld ?_
  case hya2 => (intro wS hSw; (try dsimp only at hSw); go_simp; (first | done | with_reducible rfl))
  try simp only [Act.put, List.setIfInBounds_toArray, List.set_cons_zero, List.set_cons_succ]
  refine wpAnyH_take (i := 3) (oi := ⟨_, _, _, _, _, _⟩) (v := ?va3) rfl (by kernel_rfl) (by kernel_rfl) (by kernel_rfl) (fun _ _ _ h => h) (Or.inl ⟨by rfl, ?hya3⟩) hHeld ?_
  case hya3 => (intro wS hSw; (try dsimp only at hSw); go_simp; (first | done | with_reducible rfl))
  try simp only [Act.put, List.setIfInBounds_toArray, List.set_cons_zero, List.set_cons_succ]
  refine wpAnyH_take (i := 4) (oi := ⟨_, _, _, _, _, _⟩) (v := ?va4) rfl (by kernel_rfl) (by kernel_rfl) (by kernel_rfl) (fun _ _ _ h => h) (Or.inl ⟨by rfl, ?hya4⟩) hHeld ?_
  case hya4 => (intro wS hSw; (try dsimp only at hSw); go_simp; (first | done | with_reducible rfl))
  try simp only [Act.put, List.setIfInBounds_toArray, List.set_cons_zero, List.set_cons_succ]
  refine wpAnyH_take (i := 5) (oi := ⟨_, _, _, _, _, _⟩) (v := ?va5) rfl (by kernel_rfl) (by kernel_rfl) (by kernel_rfl) (fun _ _ _ h => h) (Or.inl ⟨by rfl, ?hya5⟩) hHeld ?_
  case hya5 => (intro wS hSw; (try dsimp only at hSw); go_simp; (first | done | with_reducible rfl))
  try simp only [Act.put, List.setIfInBounds_toArray, List.set_cons_zero, List.set_cons_succ]
  refine wpAnyH_take (i := 6) (oi := ⟨_, _, _, _, _, _⟩) (v := ?va6) rfl (by kernel_rfl) (by kernel_rfl) (by kernel_rfl) (fun _ _ _ h => h) (Or.inl ⟨by rfl, ?hya6⟩) hHeld ?_
  case hya6 => (intro wS hSw; (try dsimp only at hSw); go_simp; (first | done | with_reducible rfl))
  try simp only [Act.put, List.setIfInBounds_toArray, List.set_cons_zero, List.set_cons_succ]
  refine wpAnyH_take (i := 7) (oi := ⟨_, _, _, _, _, _⟩) (v := ?va7) rfl (by kernel_rfl) (by kernel_rfl) (by kernel_rfl) (fun _ _ _ h => h) (Or.inl ⟨by rfl, ?hya7⟩) hHeld ?_
  case hya7 => (intro wS hSw; (try dsimp only at hSw); go_simp; (first | done | with_reducible rfl))
  try simp only [Act.put, List.setIfInBounds_toArray, List.set_cons_zero, List.set_cons_succ]
  refine wpAnyH_take (i := 8) (oi := ⟨_, _, _, _, _, _⟩) (v := ?va8) rfl (by kernel_rfl) (by kernel_rfl) (by kernel_rfl) (fun _ _ _ h => h) (Or.inl ⟨by rfl, ?hya8⟩) hHeld ?_
  case hya8 => (intro wS hSw; (try dsimp only at hSw); go_simp; (first | done | with_reducible rfl))
  try simp only [Act.put, List.setIfInBounds_toArray, List.set_cons_zero, List.set_cons_succ]
  refine wpAnyH_take (i := 9) (oi := ⟨_, _, _, _, _, _⟩) (v := Value.int .i64 (i : Int)) rfl (by kernel_rfl) (by kernel_rfl) (by kernel_rfl) (fun _ _ _ h => h) (Or.inl ⟨by rfl, ?hya9⟩) hHeld ?_
  case hya9 => (intro wS hSw; (try dsimp only at hSw); go_simp; rw [HTI.out])
  try simp only [Act.put, List.setIfInBounds_toArray, List.set_cons_zero, List.set_cons_succ]
  refine wpAnyH_take (i := 10) (oi := ⟨_, _, _, _, _, _⟩) (v := ?va10) rfl (by kernel_rfl) (by kernel_rfl) (by kernel_rfl) (fun _ _ _ h => h) (Or.inl ⟨by rfl, ?hya10⟩) hHeld ?_
  case hya10 => (intro wS hSw; (try dsimp only at hSw); go_simp; (first | done | with_reducible rfl))
  try simp only [Act.put, List.setIfInBounds_toArray, List.set_cons_zero, List.set_cons_succ]
  refine wpAnyH_take (i := 11) (oi := ⟨_, _, _, _, _, _⟩) (v := ?va11) rfl (by kernel_rfl) (by kernel_rfl) (by kernel_rfl) (fun _ _ _ h => h) (Or.inl ⟨by rfl, ?hya11⟩) hHeld ?_
  case hya11 => (intro wS hSw; (try dsimp only at hSw); go_simp; (first | done | with_reducible rfl))
  try simp only [Act.put, List.setIfInBounds_toArray, List.set_cons_zero, List.set_cons_succ]
  refine wpAnyH_take (i := 12) (oi := ⟨_, _, _, _, _, _⟩) (v := ?va12) rfl (by kernel_rfl) (by kernel_rfl) (by kernel_rfl) (fun _ _ _ h => h) (Or.inl ⟨by rfl, ?hya12⟩) hHeld ?_
  case hya12 => (intro wS hSw; (try dsimp only at hSw); go_simp; (first | done | with_reducible rfl))
  try simp only [Act.put, List.setIfInBounds_toArray, List.set_cons_zero, List.set_cons_succ]
  refine wpAnyH_take (i := 13) (oi := ⟨_, _, _, _, _, _⟩) (v := ?va13) rfl (by kernel_rfl) (by kernel_rfl) (by kernel_rfl) (fun _ _ _ h => h) (Or.inl ⟨by rfl, ?hya13⟩) hHeld ?_
  case hya13 => (intro wS hSw; (try dsimp only at hSw); go_simp; (first | done | with_reducible rfl))
  try simp only [Act.put, List.setIfInBounds_toArray, List.set_cons_zero, List.set_cons_succ]
  refine wpAnyH_take (i := 14) (oi := ⟨_, _, _, _, _, _⟩) (v := ?va14) rfl (by kernel_rfl) (by kernel_rfl) (by kernel_rfl) (fun _ _ _ h => h) (Or.inl ⟨by rfl, ?hya14⟩) hHeld ?_
  case hya14 => (intro wS hSw; (try dsimp only at hSw); go_simp; (first | done | with_reducible rfl))
  try simp only [Act.put, List.setIfInBounds_toArray, List.set_cons_zero, List.set_cons_succ]
  refine wpAnyH_take (i := 15) (oi := ⟨_, _, _, _, _, _⟩) (v := ?va15) rfl (by kernel_rfl) (by kernel_rfl) (by kernel_rfl) (fun _ _ _ h => h) (Or.inl ⟨by rfl, ?hya15⟩) hHeld ?_
  case hya15 => (intro wS hSw; (try dsimp only at hSw); go_simp; (first | done | with_reducible rfl))
  try simp only [Act.put, List.setIfInBounds_toArray, List.set_cons_zero, List.set_cons_succ]
  refine wpAnyH_take (i := 16) (oi := ⟨_, _, _, _, _, _⟩) (v := ?va16) rfl (by kernel_rfl) (by kernel_rfl) (by kernel_rfl) (fun _ _ _ h => h) (Or.inl ⟨by rfl, ?hya16⟩) hHeld ?_
  case hya16 => (intro wS hSw; (try dsimp only at hSw); go_simp; (first | done | with_reducible rfl))
  try simp only [Act.put, List.setIfInBounds_toArray, List.set_cons_zero, List.set_cons_succ]
  refine wpAnyH_take (i := 17) (oi := ⟨_, _, _, _, _, _⟩) (v := ?va17) rfl (by kernel_rfl) (by kernel_rfl) (by kernel_rfl) (fun _ _ _ h => h) (Or.inl ⟨by rfl, ?hya17⟩) hHeld ?_
  case hya17 => (intro wS hSw; (try dsimp only at hSw); go_simp; (first | done | with_reducible rfl))
  try simp only [Act.put, List.setIfInBounds_toArray, List.set_cons_zero, List.set_cons_succ]
  refine wpAnyH_take (i := 18) (oi := ⟨_, _, _, _, _, _⟩) (v := ?va18) rfl (by kernel_rfl) (by kernel_rfl) (by kernel_rfl) (fun _ _ _ h => h) (Or.inl ⟨by rfl, ?hya18⟩) hHeld ?_
  case hya18 => (intro wS hSw; (try dsimp only at hSw); go_simp; (first | done | with_reducible rfl))
  try simp only [Act.put, List.setIfInBounds_toArray, List.set_cons_zero, List.set_cons_succ]
  refine wpAnyH_take (i := 19) (oi := ⟨_, _, _, _, _, _⟩) (v := Value.int .i64 (n : Int)) rfl (by kernel_rfl) (by kernel_rfl) (by kernel_rfl) (fun _ _ _ h => h) (Or.inl ⟨by rfl, ?hya19⟩) hHeld ?_
  case hya19 => (intro wS hSw; (try dsimp only at hSw); go_simp; rw [HTN.out])
  try simp only [Act.put, List.setIfInBounds_toArray, List.set_cons_zero, List.set_cons_succ]
  refine wpAnyH_take (i := 20) (oi := ⟨_, _, _, _, _, _⟩) (v := ?va20) rfl (by kernel_rfl) (by kernel_rfl) (by kernel_rfl) (fun _ _ _ h => h) (Or.inl ⟨by rfl, ?hya20⟩) hHeld ?_
  case hya20 => (intro wS hSw; (try dsimp only at hSw); go_simp; (first | done | with_reducible rfl))
  try simp only [Act.put, List.setIfInBounds_toArray, List.set_cons_zero, List.set_cons_succ]
  refine wpAnyH_ready (rs := [21]) (by kernel_rfl) (by simp) ?_
  refine AllReadyH.cons (o := ⟨_, _, _, _, _, _⟩) rfl (fun K hK => ?_) AllReadyH.nil
  have g3 : z.cell? ⟨w.heap.size + 1, 3, none⟩ = some (.int .i64 0) := HZ.out.cell 3
  have g4 : z.frozen? ⟨w.heap.size + 1, 3, none⟩ = false := HZ.out.free 3
  go_simp
  clear g3 g4
  have HZ1 := Lib.hid ((HZ.out.set 3 (.int .i64 (i : Int))).drewN 1)
  refine hK.out _ _ ?ka21 (fun hNew => ?_)
  case ka21 => (try dsimp only); exact H4B.out _ HZ1.out.below
  clear hK K hHeld
  have hHeld := hNew
  clear hNew
  try simp only [Act.put, List.setIfInBounds_toArray, List.set_cons_zero, List.set_cons_succ]
  refine wpAnyH_take (i := 22) (oi := ⟨_, _, _, _, _, _⟩) (v := ?va22) rfl (by kernel_rfl) (by kernel_rfl) (by kernel_rfl) (fun _ _ _ h => h) (Or.inl ⟨by rfl, ?hya22⟩) hHeld ?_
  case hya22 => (intro wS hSw; (try dsimp only at hSw); go_simp; (first | done | with_reducible rfl))
  try simp only [Act.put, List.setIfInBounds_toArray, List.set_cons_zero, List.set_cons_succ]
  refine wpAnyH_ready (rs := [23]) (by kernel_rfl) (by simp) ?_
  refine AllReadyH.cons (o := ⟨_, _, _, _, _, _⟩) rfl (fun K hK => ?_) AllReadyH.nil
  have g3 : z.cell? ⟨w.heap.size + 1, 4, none⟩ = some (.int .i64 0) := HZ.out.cell 4
  have g4 : z.frozen? ⟨w.heap.size + 1, 4, none⟩ = false := HZ.out.free 4
  go_simp
  clear g3 g4
  have HZ2 := Lib.hid (((HZ.out.set 3 (.int .i64 (i : Int))).set 4 (.int .i64 (n : Int))).drewN 1)
  refine hK.out _ _ ?ka23 (fun hNew => ?_)
  case ka23 => (try dsimp only); exact H4B.out _ HZ2.out.below
  clear hK K hHeld
  have hHeld := hNew
  clear hNew
  try simp only [Act.put, List.setIfInBounds_toArray, List.set_cons_zero, List.set_cons_succ]
  refine wpAnyH_done (by kernel_rfl) ?_ _
  refine NoPanic.normal ?_
  clear hHeld
  obtain ⟨zf, hzf⟩ : ∃ zf, zf = ((z.setCell ⟨w.heap.size + 1, 3, none⟩ (.int .i64 (i : Int))).setCell ⟨w.heap.size + 1, 4, none⟩ (.int .i64 (n : Int))).drew := ⟨_, rfl⟩
  have HZF : Hid (PtSt w zf #[.int .u8 82, .int .i64 (s : Int), .int .i64 (k : Int), .int .i64 (i : Int), .int .i64 (n : Int), .slice none 0 0]) := by rw [hzf]; exact HZ2.out
  rw [← hzf]
  clear hzf HZ HZ1 HZ2 HYD
  have h21 : zf.cell? ⟨gb, 21, none⟩ = some (.int .u8 (l.length : Int)) := H21.out _ HZF.out.below
  have g3 : zf.cell? ⟨w.heap.size + 1, 5, none⟩ = some (.slice none 0 0) := HZF.out.cell 5
  have g4 : zf.frozen? ⟨w.heap.size + 1, 5, none⟩ = false := HZF.out.free 5
  have l1 : (l.length : Int) ≤ 102 := by have := HL.out; omega
  go_upto_region 8 with fail
  have e22 : 22 + l.length - 22 = l.length := by omega
  try rw [e22]
  have HZG : Hid (PtSt w (zf.setCell ⟨w.heap.size + 1, 5, none⟩ (.slice (some ⟨gb, 22, none⟩) l.length (cap - 22))) #[.int .u8 82, .int .i64 (s : Int), .int .i64 (k : Int), .int .i64 (i : Int), .int .i64 (n : Int), .slice (some ⟨gb, 22, none⟩) l.length (cap - 22)]) := HZF.out.set 5 _
  obtain ⟨zg, hzg⟩ : ∃ zg, zg = zf.setCell ⟨w.heap.size + 1, 5, none⟩ (.slice (some ⟨gb, 22, none⟩) l.length (cap - 22)) := ⟨_, rfl⟩
  rw [← hzg] at HZG ⊢
  clear hzg g3 g4 h21 HZF l1 e22
  have h3 : zg.cell? ⟨w.heap.size + 1, 3, none⟩ = some (.int .i64 (i : Int)) := HZG.out.cell 3
  have h4 : zg.cell? ⟨w.heap.size + 1, 4, none⟩ = some (.int .i64 (n : Int)) := HZG.out.cell 4
  have h5 : zg.cell? ⟨w.heap.size + 1, 5, none⟩ = some (.slice (some ⟨gb, 22, none⟩) l.length (cap - 22)) := HZG.out.cell 5
  go_cut [5] from 68 (fun v5 wx => v5 = .bool true ∧ wx = zg)
  case first =>
    by_cases hf : l.length = 102
    · have d1 : ((l.length : Int) == 102) = true := by simp; omega
      go_wp2_with fail
      go_meet
      case rel => exact ⟨rfl, rfl⟩
    · have d1 : ((l.length : Int) == 102) = false := by simp; omega
      have hfn : i + 1 = n := by rcases HFULL.out with h | h
                                 · exact absurd h hf
                                 · exact h
      have d2 : ((i : Int) == wrap64 ((n : Int) - 1)) = true := by
        have e : wrap64 ((n : Int) - 1) = (i : Int) := by have := HIN.out; unfold wrap64; omega
        rw [e]; simp
      go_wp2_with fail
      go_meet
      case rel => exact ⟨rfl, rfl⟩
  case rest =>
    obtain ⟨rfl, hwx⟩ := hcut
    have hwx := hwx.symm
    subst hwx
    clear h3 h4 h5
    have HC0 := Lib.hid HZG.out.six
    have din : decide ((i : Int) < (n : Int)) = true := by have := HIN.out; simp; omega
    have din2 : decide (i < n) = true := by have := HIN.out; simp; omega
    go_wp2_with fail
    refine wp_region_noPanic ?_
    refine wp_region_held_drew (S := fun w' => w'.cell? ⟨w.heap.size + 1, 0, none⟩ = some (Value.int .u8 82) ∧ w'.cell? ⟨w.heap.size + 1, 1, none⟩ = some (Value.int .i64 (s : Int)) ∧ w'.cell? ⟨w.heap.size + 1, 2, none⟩ = some (Value.int .i64 (k : Int)) ∧ w'.cell? ⟨w.heap.size + 1, 3, none⟩ = some (Value.int .i64 (i : Int)) ∧ w'.cell? ⟨w.heap.size + 1, 4, none⟩ = some (Value.int .i64 (n : Int)) ∧ w'.cell? ⟨w.heap.size + 1, 5, none⟩ = some (Value.slice (some ⟨gb, 22, none⟩) l.length (cap - 22))) (by kernel_rfl) ?hSe (fun hHeld => ?_)
    case hSe => exact HC0.out
    refine wpAnyH_take (i := 0) (oi := ⟨_, _, _, _, _, _⟩) (v := ?ve0) rfl (by kernel_rfl) (by kernel_rfl) (by kernel_rfl) (fun _ _ _ h => h) (Or.inl ⟨by rfl, ?hye0⟩) hHeld ?_
    case hye0 => (intro wS hSw; (try dsimp only at hSw); go_simp; (first | done | with_reducible rfl))
    try simp only [Act.put, List.setIfInBounds_toArray, List.set_cons_zero, List.set_cons_succ]
    refine wpAnyH_take (i := 1) (oi := ⟨_, _, _, _, _, _⟩) (v := ?ve1) rfl (by kernel_rfl) (by kernel_rfl) (by kernel_rfl) (fun _ _ _ h => h) (Or.inl ⟨by rfl, ?hye1⟩) hHeld ?_
    case hye1 => (intro wS hSw; (try dsimp only at hSw); go_simp; (first | done | with_reducible rfl))
    try simp only [Act.put, List.setIfInBounds_toArray, List.set_cons_zero, List.set_cons_succ]
    refine wpAnyH_take (i := 2) (oi := ⟨_, _, _, _, _, _⟩) (v := ?ve2) rfl (by kernel_rfl) (by kernel_rfl) (by kernel_rfl) (fun _ _ _ h => h) (Or.inl ⟨by rfl, ?hye2⟩) hHeld ?_
    case hye2 => (intro wS hSw; (try dsimp only at hSw); go_simp; (first | done | with_reducible rfl))
    try simp only [Act.put, List.setIfInBounds_toArray, List.set_cons_zero, List.set_cons_succ]
    refine wpAnyH_take (i := 3) (oi := ⟨_, _, _, _, _, _⟩) (v := ?ve3) rfl (by kernel_rfl) (by kernel_rfl) (by kernel_rfl) (fun _ _ _ h => h) (Or.inl ⟨by rfl, ?hye3⟩) hHeld ?_
    case hye3 => (intro wS hSw; (try dsimp only at hSw); go_simp; (first | done | with_reducible rfl))
    try simp only [Act.put, List.setIfInBounds_toArray, List.set_cons_zero, List.set_cons_succ]
    refine wpAnyH_take (i := 4) (oi := ⟨_, _, _, _, _, _⟩) (v := ?ve4) rfl (by kernel_rfl) (by kernel_rfl) (by kernel_rfl) (fun _ _ _ h => h) (Or.inl ⟨by rfl, ?hye4⟩) hHeld ?_
    case hye4 => (intro wS hSw; (try dsimp only at hSw); go_simp; (first | done | with_reducible rfl))
    try simp only [Act.put, List.setIfInBounds_toArray, List.set_cons_zero, List.set_cons_succ]
    refine wpAnyH_take (i := 5) (oi := ⟨_, _, _, _, _, _⟩) (v := ?ve5) rfl (by kernel_rfl) (by kernel_rfl) (by kernel_rfl) (fun _ _ _ h => h) (Or.inl ⟨by rfl, ?hye5⟩) hHeld ?_
    case hye5 => (intro wS hSw; (try dsimp only at hSw); go_simp; (first | done | with_reducible rfl))
    try simp only [Act.put, List.setIfInBounds_toArray, List.set_cons_zero, List.set_cons_succ]
    refine wpAnyH_take (i := 6) (oi := ⟨_, _, _, _, _, _⟩) (v := ?ve6) rfl (by kernel_rfl) (by kernel_rfl) (by kernel_rfl) (fun _ _ _ h => h) (Or.inl ⟨by rfl, ?hye6⟩) hHeld ?_
    case hye6 => (intro wS hSw; (try dsimp only at hSw); go_simp; (first | done | with_reducible rfl))
    try simp only [Act.put, List.setIfInBounds_toArray, List.set_cons_zero, List.set_cons_succ]
    refine wpAnyH_take (i := 7) (oi := ⟨_, _, _, _, _, _⟩) (v := ?ve7) rfl (by kernel_rfl) (by kernel_rfl) (by kernel_rfl) (fun _ _ _ h => h) (Or.inl ⟨by rfl, ?hye7⟩) hHeld ?_
    case hye7 => (intro wS hSw; (try dsimp only at hSw); go_simp; (first | done | with_reducible rfl))
    try simp only [Act.put, List.setIfInBounds_toArray, List.set_cons_zero, List.set_cons_succ]
    refine wpAnyH_take (i := 8) (oi := ⟨_, _, _, _, _, _⟩) (v := ?ve8) rfl (by kernel_rfl) (by kernel_rfl) (by kernel_rfl) (fun _ _ _ h => h) (Or.inl ⟨by rfl, ?hye8⟩) hHeld ?_
    case hye8 => (intro wS hSw; (try dsimp only at hSw); go_simp; (first | done | with_reducible rfl))
    try simp only [Act.put, List.setIfInBounds_toArray, List.set_cons_zero, List.set_cons_succ]
    refine wpAnyH_take (i := 9) (oi := ⟨_, _, _, _, _, _⟩) (v := ?ve9) rfl (by kernel_rfl) (by kernel_rfl) (by kernel_rfl) (fun _ _ _ h => h) (Or.inl ⟨by rfl, ?hye9⟩) hHeld ?_
    case hye9 => (intro wS hSw; (try dsimp only at hSw); go_simp; (first | done | with_reducible rfl))
    try simp only [Act.put, List.setIfInBounds_toArray, List.set_cons_zero, List.set_cons_succ]
    refine wpAnyH_take (i := 10) (oi := ⟨_, _, _, _, _, _⟩) (v := ?ve10) rfl (by kernel_rfl) (by kernel_rfl) (by kernel_rfl) (fun _ _ _ h => h) (Or.inl ⟨by rfl, ?hye10⟩) hHeld ?_
    case hye10 => (intro wS hSw; (try dsimp only at hSw); go_simp; (first | done | with_reducible rfl))
    try simp only [Act.put, List.setIfInBounds_toArray, List.set_cons_zero, List.set_cons_succ]
    refine wpAnyH_take (i := 12) (oi := ⟨_, _, _, _, _, _⟩) (v := ?ve12) rfl (by kernel_rfl) (by kernel_rfl) (by kernel_rfl) (fun _ _ _ h => h) (Or.inl ⟨by rfl, ?hye12⟩) hHeld ?_
    case hye12 => (intro wS hSw; (try dsimp only at hSw); go_simp; (first | done | with_reducible rfl))
    try simp only [Act.put, List.setIfInBounds_toArray, List.set_cons_zero, List.set_cons_succ]
    refine wpAnyH_ready (rs := [11]) (by kernel_rfl) (by simp) ?_
    refine AllReadyH.cons (o := ⟨_, _, _, _, _, _⟩) rfl (fun K hK => ?_) AllReadyH.nil
    go_simp
    refine (part_bytes_at 82 s k i n l (some ⟨gb, 22, none⟩) (cap - 22) HSK.out.1 HSK.out.2 (by have := HIN.out; omega) (by have := HIN.out; omega) HL.out zg.drew (.inr ⟨gb, 22, rfl, by have h1 := HGL.out; have h2 := HZG.out.size; show gb < zg.heap.size; omega, by have h := range_head (range_drop (HLW.out zg HZG.out.below) 22) l.length; rw [part_body] at h; exact h⟩)).mono ?_
    rintro e w2 ⟨v2, rfl, hr2, hb2⟩
    obtain ⟨g2, cap2, rfl, _, _, _, _, hrg2⟩ := hr2.some (by have := partB_length 82 s k i n l HL.out; intro e; rw [e] at this; cases this)
    rw [partB_length _ _ _ _ _ _ HL.out]
    have HRG2 := Lib.hid hrg2
    have HP2 := Lib.hid ((HZG.out.drewN 1).later hb2)
    have HRW := Lib.hid (HLW.out _ HP2.out.below)
    have HC2 := Lib.hid HP2.out.six
    clear hr2 hb2 hrg2
    go_wp2_with fail
    refine hK.out _ _ ?ke11 (fun hNew => ?_)
    case ke11 => (try dsimp only); exact HC2.out
    clear hK K hHeld
    have hHeld := hNew
    clear hNew
    try simp only [Act.put, List.setIfInBounds_toArray, List.set_cons_zero, List.set_cons_succ]
    refine wpAnyH_ready (rs := [13]) (by kernel_rfl) (by simp) ?_
    refine AllReadyH.cons (o := ⟨_, _, _, _, _, _⟩) rfl (fun K hK => ?_) AllReadyH.nil
    go_simp
    refine (equal_len g2 0 gb 0 128 128 (partB 82 s k i n l) (partB 82 s k i n l) (partB_length _ _ _ _ _ _ HL.out) (partB_length _ _ _ _ _ _ HL.out) cap2 cap w2 HRG2.out HRW.out).mono ?_
    rintro e w3 ⟨rfl, hw3⟩
    have hw3 := hw3.symm
    subst hw3
    rw [decide_eq_true rfl]
    go_wp2_with fail
    refine hK.out _ _ ?ke13 (fun hNew => ?_)
    case ke13 => (try dsimp only); exact HC2.out
    clear hK K hHeld
    have hHeld := hNew
    clear hNew
    try simp only [Act.put, List.setIfInBounds_toArray, List.set_cons_zero, List.set_cons_succ]
    refine wpAnyH_take (i := 14) (oi := ⟨_, _, _, _, _, _⟩) (v := ?ve14) rfl (by kernel_rfl) (by kernel_rfl) (by kernel_rfl) (fun _ _ _ h => h) (Or.inl ⟨by rfl, ?hye14⟩) hHeld ?_
    case hye14 => (intro wS hSw; (try dsimp only at hSw); go_simp; (first | done | with_reducible rfl))
    try simp only [Act.put, List.setIfInBounds_toArray, List.set_cons_zero, List.set_cons_succ]
    refine wpAnyH_ready (rs := [15]) (by kernel_rfl) (by simp) ?_
    refine AllReadyH.cons (o := ⟨_, _, _, _, _, _⟩) rfl (fun K hK => ?_) AllReadyH.nil
    obtain ⟨r0, r1, r2, r3, r4, r5⟩ := HP2.out.res6
    have q0 := HP2.out.resfree
    go_simp
    clear r0 r1 r2 r3 r4 r5 q0
    have HPP := Lib.hid (HP2.out.put (.int .u8 82) (.int .i64 (s : Int)) (.int .i64 (k : Int)) (.int .i64 (i : Int)) (.int .i64 (n : Int)) (.slice (some ⟨gb, 22, none⟩) l.length (cap - 22)))
    refine hK.out _ _ ?ke15 (fun hNew => ?_)
    case ke15 => (try dsimp only); exact six_of HPP.out.2.2
    clear hK K hHeld
    have hHeld := hNew
    clear hNew
    try simp only [Act.put, List.setIfInBounds_toArray, List.set_cons_zero, List.set_cons_succ]
    refine wpAnyH_take (i := 16) (oi := ⟨_, _, _, _, _, _⟩) (v := ?ve16) rfl (by kernel_rfl) (by kernel_rfl) (by kernel_rfl) (fun _ _ _ h => h) (Or.inl ⟨by rfl, ?hye16⟩) hHeld ?_
    case hye16 => (intro wS hSw; (try dsimp only at hSw); go_simp; (first | done | with_reducible rfl))
    try simp only [Act.put, List.setIfInBounds_toArray, List.set_cons_zero, List.set_cons_succ]
    refine wpAnyH_done (by kernel_rfl) ?_ _
    refine NoPanic.normal ?_
    clear hHeld
    go_wp2_with fail
    (try simp only [Exit.inBlock, Exit.then])
    refine bodyPost_ret (results_row_tmp rfl _ _ w.heap.size _ _ _ _ rfl HPP.out.1 Try.underlying84 rfl (by kernel_rfl)) rfl ?_
    exact ⟨rfl, HPP.out.2.1⟩
end Go.Proofs.Ytgdedgfohjplmaa.Jnl
