/- The journal: rows of bytes that grow, numbers in bytes: number, read. -/
import Derived.Laws.MakeOwn
import Derived.Laws.AppendOwn
import Derived.Laws.OwnMore
import Derived.Test.YtgdedgfohjplmaaJA
import Derived.Test.YtgdedgfohjplmaaJC
import Derived.RangeFuncNested
import Derived.RangeFuncBound
import Derived.Shelf.RegionOpen
namespace Go.Proofs.Ytgdedgfohjplmaa.Jnl
open Go.RowKit Go.Maps Sec

/-- A number in so many bytes, the highest one first. -/
def numB (n : Nat) : Nat → List UInt8
  | 0 => []
  | s + 1 => UInt8.ofNat (n / 256 ^ s) :: numB n s
theorem numB_length (n s : Nat) : (numB n s).length = s := by
  induction s with
  | zero => rfl
  | succ s ih => simp [numB, ih]
theorem numB_take (n : Nat) : ∀ (s k : Nat), k < s → (numB n s).take (k + 1) = (numB n s).take k ++ [UInt8.ofNat (n / 256 ^ (s - 1 - k))]
  | 0, k, h => by omega
  | s + 1, 0, _ => by simp [numB]
  | s + 1, k + 1, h => by
    have := numB_take n s k (by omega)
    simp only [numB, List.take_succ_cons, List.cons_append, this]
    rw [show s + 1 - 1 - (k + 1) = s - 1 - k by omega]

/-- A row of bytes that may grow. -/
def BRow (w : World) (B : Nat) (v : Value) (l : List UInt8) : Prop := w.ownsRow B 5 1 v l.length (u8s l)
theorem u8s_app (a b : List UInt8) : u8s (a ++ b) = u8s a ++ u8s b := by simp [u8s]
theorem u8s_one (l : List UInt8) : ∀ z ∈ u8s l, z.oneCell' = true := by
  intro z hz
  simp only [u8s, List.mem_map] at hz
  obtain ⟨c, _, rfl⟩ := hz
  rfl
theorem info_byte : (Try.prog.info? 5).map (fun i => (i.zero, i.size, i.bytes)) = some (some (.int .u8 0), 1, 1) := by kernel_rfl
variable {w w' : World} {B : Nat} {v : Value} {l : List UInt8}
theorem BRow.own (h : BRow w B v l) : ∀ g, v.ownBlock = some g → B ≤ g := by
  intro g hg
  obtain ⟨_, ⟨rfl, _⟩ | ⟨g', cap, cur, rfl, hB, _⟩⟩ := h
  · simp [Value.ownBlock] at hg
  · simp [Value.ownBlock] at hg
    omega
theorem BRow.below (h : BRow w B v l) (hg : w.grownBy w' v.ownBlock) (hB : B ≤ w.heap.size) : Below B w w' :=
  ⟨hg.os, hg.tape, hg.output, hg.size, fun k hk => hg.block k (by omega) (fun e => by have := h.own k e.symm; omega)⟩
set_option maxRecDepth 100000 in
theorem wpList_append_bytes {ops : Array Oper} {rest : List Oper} {o : Oper} {a : Act} {w : World} {Q : Exit → Act → World → Prop} (hgd : o.guard = none) (s x : Operand) (ho : o.op = .call { callee := .builtin .append, args := #[s, x], argTypes := #[23, 23] })
    (B : Nat) (v : Value) (l m : List UInt8) (A : Option Addr) (n cap : Nat) (hn : m.length = n) (hs : a.eval s = v) (hown : BRow w B v l) (hx : a.eval x = .slice A n cap)
    (hc : (m = [] ∧ cap = 0) ∨ ∃ g off, A = some ⟨g, off, none⟩ ∧ w.rangeAt g off (u8s m)) (hb : l.length + n < 100000000000) (hB : B ≤ w.heap.size)
    (h : ∀ v' w', BRow w' B v' (l ++ m) → Below B w w' → wpList Try.prog ops Q rest (a.put o.dst v') w') : wpList Try.prog ops Q (o :: rest) a w := by
  obtain ⟨i0, hi0, he⟩ := Option.map_eq_some_iff.1 info_byte
  simp only [Prod.mk.injEq] at he
  subst hn
  have hx0 : (A = none ∧ m = [] ∧ cap = 0) ∨ ∃ x, A = some x ∧ ∀ j u, (u8s m)[j]? = some u → w.cell? (x.add j) = some u := by
    rcases hc with ⟨h1, h2⟩ | ⟨g, off, h1, hr⟩
    · cases A with
      | none => exact .inl ⟨rfl, h1, h2⟩
      | some x => exact .inr ⟨x, rfl, fun j u hj => by rw [h1] at hj; simp [u8s] at hj⟩
    · exact .inr ⟨_, h1, fun j u hj => by have := hr j u hj; rw [Addr.add_lit]; exact this⟩
  rcases hx0 with ⟨rfl, rfl, rfl⟩ | ⟨x0, rfl, hr⟩
  · have hrun := run_append_owned_none (P := Try.prog) w B 23 o.type 5 i0 1 Try.underlying23 hi0 v l.length _ hown
    refine wpList_plain hgd fun K hK => ?_
    unfold Oper.wp
    simp [execOp, ho, resolve, invoke, builtin, hs, hx]
    simp only [hrun, Result.andThen]
    refine hK _ _ (h v w (by rw [List.append_nil]; exact hown) (Below.refl _ _))
  · obtain ⟨v', w', hrun, hown', hgr, _⟩ := run_append_own (P := Try.prog) w B 23 o.type 5 i0 _ 1 1 Try.underlying23 hi0 he.1 he.2.1 he.2.2 rfl (by decide) v l.length _ hown x0 m.length cap (u8s m) (by rw [u8s_length, Nat.mul_one]) hr (u8s_one m) (by unfold maxLen; omega) (by omega) hB
    refine wpList_plain hgd fun K hK => ?_
    unfold Oper.wp
    simp [execOp, ho, resolve, invoke, builtin, hs, hx, hrun, Result.andThen]
    refine hK _ _ (h v' w' ?_ (hown.below hgr hB))
    unfold BRow
    rw [List.length_append, u8s_app]
    exact hown'

theorem BRow.grown (h : BRow w B v l) (hg : w.grownBy w' none) : BRow w' B v l := Sec.row_off h (Off.of_grown hg (S := fun _ => False) (by simp)) (by simp)
theorem Below.to_grown (h : Below w.heap.size w w') : w.grownBy w' none := ⟨h.os, h.tape, h.output, h.size, fun k hk _ => h.block k hk⟩
theorem grown_below0 (h : w.grownBy w' none) (hB : B ≤ w.heap.size) : Below B w w' := ⟨h.os, h.tape, h.output, h.size, fun k hk => h.block k (by omega) (by simp)⟩

set_option maxRecDepth 100000 in
set_option maxHeartbeats 2000000 in
theorem number_at (B : Nat) (v : Value) (l : List UInt8) (n s : Nat) (hs : s ≤ 8) (_ : n < 9223372036854775808) (w : World) (h : BRow w B v l) (hl : l.length < 1000000000) (hB : B ≤ w.heap.size) :
    Calls Try.prog 61 #[v, .int .i64 (n : Int), .int .i64 (s : Int)] w fun e w' => ∃ v', e = .returned v' ∧ BRow w' B v' (l ++ numB n s) ∧ Below B w w' := by
  go_enter Try.func61, Try.ntmps61
  go_wp2
  go_loopw [0, 7] (fun u i wr => ∃ k : Nat, k ≤ s ∧ i = .int .i64 (8 * ((s : Int) - 1 - (k : Int))) ∧ BRow wr B u (l ++ (numB n s).take k) ∧ Below B w wr) (fun _ i _ => ((intOf i + 8) / 8).toNat)
  case atStart =>
    refine ⟨0, Nat.zero_le _, ?_, by simpa using h, Below.refl _ _⟩
    congr 1
    omega
  case round =>
    obtain ⟨k, hk, rfl, hrow, hg⟩ := hrel
    have HROW := Lib.hid hrow
    have HG := Lib.hid hg
    have HL := Lib.hid hl
    have HB := Lib.hid hB
    clear hrow hg hl hB h
    by_cases hlt : k < s
    · have hd : decide ((0 : Int) ≤ 8 * ((s : Int) - 1 - (k : Int))) = true := by simp; omega
      have i0 : (0 : Int) ≤ 8 * ((s : Int) - 1 - (k : Int)) := by omega
      have i1 : 8 * ((s : Int) - 1 - (k : Int)) ≤ 56 := by omega
      have HC : Hid ((UInt8.ofNat (n / 256 ^ (s - 1 - k))).toNat = (n : Int) / 2 ^ (8 * (s - 1 - k)) % 256) := by
        show _ = _
        rw [UInt8.toNat_ofNat', show (256 : Nat) = 2 ^ 8 from rfl, ← Nat.pow_mul, Int.natCast_emod, Int.natCast_ediv, Int.natCast_pow]
        rfl
      have HBW : Hid (∀ o : Obj, B ≤ (wr.alloc o).heap.size) := fun o => Nat.le_trans (Nat.le_trans HB.out HG.out.size) (World.grownBy_alloc wr o none).size
      have HFEW : Hid ((l ++ (numB n s).take k).length + 1 < 100000000000) := by show _ < _; rw [List.length_append, List.length_take, numB_length]; have := HL.out; omega
      go_wp2_with (first
        | (at_builtin; refine wpList_append_bytes rfl (.tmp 15) (.tmp 20) rfl B _ _ [UInt8.ofNat (n / 256 ^ (s - 1 - k))] (some ⟨wr.heap.size, 0, none⟩) 1 1 rfl rfl (HROW.out.grown (World.grownBy_alloc wr _ none)) rfl (.inr ⟨_, 0, rfl, range_blk (MapKept.heap_alloc wr _).1 (by simp only [u8s, List.map, HC.out])⟩) HFEW.out (HBW.out _) ?_; intro v3 w3 hr3 hb3; go_frame)
        | fail)
      go_roundw
      case rel =>
        refine ⟨k + 1, hlt, ?_, ?_, (HG.out.trans (grown_below0 (World.grownBy_alloc wr _ none) (Nat.le_trans HB.out HG.out.size))).trans hb3⟩
        · congr 1
          omega
        · rw [numB_take n s k hlt, ← List.append_assoc]
          exact hr3
      case measure => simp only [intOf]; omega
    · obtain rfl : k = s := by omega
      have hd : decide ((0 : Int) ≤ 8 * ((k : Int) - 1 - (k : Int))) = false := by simp; omega
      go_wp2_with fail
      go_ret
      refine ⟨_, rfl, ?_, HG.out⟩
      have := HROW.out
      rwa [List.take_of_length_le (by rw [numB_length]; omega)] at this
end Go.Proofs.Ytgdedgfohjplmaa.Jnl

/- The journal: noughts behind a row of bytes; sealed; a head's bytes. -/
namespace Go.Proofs.Ytgdedgfohjplmaa.Jnl
open Go.RowKit Go.Maps Sec

theorem u8s_zeros (n : Nat) : (Builtin.zeroCells (Value.int .u8 0).cells n).toList = u8s (List.replicate n 0) := by
  apply List.ext_getElem?
  intro i
  simp only [Builtin.zeroCells, Value.cells, u8s, List.map_replicate, Array.toList_map, Array.toList_range, List.getElem?_map, List.getElem?_replicate]
  by_cases h : i < n
  · simp [h, Nat.mod_one]
  · simp [h]
theorem zeros_size (n : Nat) : (Builtin.zeroCells (Value.int .u8 0).cells n).size = n := by
  rw [size_zeroCells]
  simp [Value.cells]
set_option maxRecDepth 100000 in
theorem run_append_zeros (w : World) (ty : TypeId) (B : Nat) (v : Value) (l : List UInt8) (n : Nat) (hown : BRow w B v l) (h0 : l ≠ []) (hb : l.length + n < 100000000000) (hB : B ≤ w.heap.size) :
    ∃ v' w', (Builtin.append_ #[23, 3] ty #[v, .int .i64 (n : Int)]).run Try.prog w = .ok v' w' ∧ BRow w' B v' (l ++ List.replicate n 0) ∧ w.grownBy w' v.ownBlock := by
  obtain ⟨i0, hi0, he⟩ := Option.map_eq_some_iff.1 info_byte
  simp only [Prod.mk.injEq] at he
  obtain ⟨hz, hsz, hby⟩ := he
  have ht := Try.underlying23
  have hti := Try.underlying3
  obtain ⟨_, ⟨_, e⟩ | ⟨g, cap, cur, rfl, hbg, hg, hnc, hcm, hcs, htake⟩⟩ := id hown
  · exact absurd (List.eq_nil_of_length_eq_zero e) h0
  have hw : IntKind.i64.wrap (n : Int) = n := by rw [IntKind.wrap_i64]; omega
  have h1 : ¬ ((n : Int) < 0) := by omega
  have h2 : ¬ (281474976710656 < (n : Int)) := by omega
  have hlen : (u8s (l ++ List.replicate n 0)).length = (l ++ List.replicate n 0).length * 1 := by rw [u8s_length, Nat.mul_one]
  rw [Nat.mul_one] at hcs htake
  by_cases hroom : l.length + n ≤ cap
  · have hst := run_storeCells_at Try.prog g l.length 5 (u8s (List.replicate n 0)) 0 cur w hg (by rw [u8s_length, List.length_replicate, hcs]; omega) (u8s_one _)
    simp only [Nat.add_zero] at hst
    by_cases hn : n = 0
    · subst hn
      refine ⟨.slice (some ⟨g, 0, none⟩) (l.length + 0) cap, w, ?_, by simpa using hown, ⟨rfl, rfl, rfl, Nat.le_refl _, fun _ _ _ => rfl⟩⟩
      have hw0 : IntKind.i64.wrap 0 = 0 := by rw [IntKind.wrap_i64]; omega
      have hr0 : l.length ≤ cap := by omega
      simp [Builtin.append_, run_underlying ht, run_underlying hti, sizeOf, typeInfo, hi0, hw0, hr0, asInt, asIntOf, storeCells]
    · refine ⟨.slice (some ⟨g, 0, none⟩) (l.length + n) cap, w.setRow g (cur.toList.take l.length ++ u8s (List.replicate n 0) ++ cur.toList.drop (l.length + (u8s (List.replicate n 0)).length)).toArray, ?_, ?_, ?_⟩
      · simp [Builtin.append_, run_underlying ht, run_underlying hti, sizeOf, typeInfo, hi0, hby, hsz, hw, h1, h2, hn, hroom, asInt, asIntOf, zeroValue, hz, u8s_zeros, Addr.add_lit, hst]
      · refine ⟨hlen, .inr ⟨g, cap, _, by rw [List.length_append, List.length_replicate], hbg, setRow_heap w g cur _ 5 _ hg, by rw [List.length_append, List.length_replicate]; exact hroom, hcm, ?_, ?_⟩⟩
        · simp only [List.size_toArray, List.length_append, List.length_take, List.length_drop, Array.length_toList, u8s_length, List.length_replicate]
          omega
        · rw [Nat.mul_one, htake, u8s_app]
          show List.take _ ((u8s l ++ u8s (List.replicate n 0)) ++ _) = _
          rw [List.take_append_of_le_length (by rw [List.length_append, List.length_append, u8s_length, u8s_length]; exact Nat.le_refl _), List.take_of_length_le (by rw [List.length_append, List.length_append, u8s_length, u8s_length]; exact Nat.le_refl _)]
      · exact ⟨rfl, rfl, rfl, by simp, fun k _ hk => setRow_other w g k _ (fun e => hk (by simp [Value.ownBlock, e]))⟩
  · have hn : n ≠ 0 := by omega
    have holds : ∀ j u, (u8s l)[j]? = some u → w.drew.cell? ((⟨g, 0, none⟩ : Addr).add j) = some u := fun j u hj => by
      have := World.ownsRow.cells hown (g := g) rfl j u hj
      simpa using this
    have hfo := run_firstCells_some (P := Try.prog) w.drew 1 l.length ⟨g, 0, none⟩ l.length cap (u8s l) (by rw [u8s_length, Nat.mul_one]) holds
    have h63 : ¬ (9223372036854775807 < ((l.length : Int) + (n : Int))) := by omega
    have h48 : ¬ (281474976710656 < Builtin.nextslicecap (l.length + n) cap) := by
      have := growslice_fits (bytes := 1) (need := l.length + n) (old := cap) (by omega) (by omega)
      omega
    refine ⟨.slice (some ⟨w.heap.size, 0, none⟩) (l.length + n) (grownCap w (l.length + n) cap 5), w.drew.alloc (.cells ((u8s l).toArray ++ (u8s (List.replicate n 0)).toArray ++ Builtin.zeroCells (Value.int .u8 0).cells (grownCap w (l.length + n) cap 5 - (l.length + n))) 5), ?_, ?_, ?_⟩
    · simp [Builtin.append_, run_underlying ht, run_underlying hti, sizeOf, typeInfo, hi0, hby, hsz, hw, h1, h2, hn, hroom, h63, h48, asInt, asIntOf, zeroValue, hz, Question.forced, hfo, newRow, grownCap]
      congr 2
      apply Array.ext'
      simp [u8s_zeros]
    · have hge := grownCap_ge w (l.length + n) cap 5
      refine ⟨hlen, .inr ⟨w.heap.size, grownCap w (l.length + n) cap 5, _, by rw [List.length_append, List.length_replicate], hB, heap_alloc_new w.drew _, by rw [List.length_append, List.length_replicate]; exact hge, grownCap_le_maxLen w _ _ _ (by unfold maxLen; omega), ?_, ?_⟩⟩
      · simp only [Array.size_append, List.size_toArray, zeros_size, u8s_length, List.length_replicate]
        omega
      · rw [Nat.mul_one, u8s_app]
        simp only [Array.toList_append]
        rw [List.take_append_of_le_length (by simp [u8s_length]), List.take_of_length_le (by simp [u8s_length])]
    · exact ⟨rfl, rfl, rfl, by simp, fun k hk _ => (World.grownBy_alloc w.drew _ none).block k hk (by simp)⟩
variable {w w' : World} {B : Nat} {v : Value} {l : List UInt8}
set_option maxRecDepth 100000 in
theorem wpList_append_zeros {ops : Array Oper} {rest : List Oper} {o : Oper} {a : Act} {w : World} {Q : Exit → Act → World → Prop} (hgd : o.guard = none) (s x : Operand) (ho : o.op = .call { callee := .builtin .append, args := #[s, x], argTypes := #[23, 3] })
    (B : Nat) (v : Value) (l : List UInt8) (n : Nat) (hs : a.eval s = v) (hown : BRow w B v l) (h0 : l ≠ []) (hx : a.eval x = .int .i64 (n : Int)) (hb : l.length + n < 100000000000) (hB : B ≤ w.heap.size)
    (h : ∀ v' w', BRow w' B v' (l ++ List.replicate n 0) → Below B w w' → wpList Try.prog ops Q rest (a.put o.dst v') w') : wpList Try.prog ops Q (o :: rest) a w := by
  obtain ⟨v', w', hrun, hown', hgr⟩ := run_append_zeros w o.type B v l n hown h0 hb hB
  refine wpList_plain hgd fun K hK => ?_
  unfold Oper.wp
  simp [execOp, ho, resolve, invoke, builtin, hs, hx, hrun, Result.andThen]
  exact hK _ _ (h v' w' hown' (hown.below hgr hB))
theorem BRow.some (h : BRow w B v l) (h0 : l ≠ []) : ∃ g cap, v = .slice (some ⟨g, 0, none⟩) l.length cap ∧ l.length ≤ cap ∧ cap ≤ maxLen ∧ B ≤ g ∧ g < w.heap.size ∧ w.rangeAt g 0 (u8s l) := by
  have h' := h
  obtain ⟨_, ⟨_, e⟩ | ⟨g, cap, cur, rfl, hbg, hg, hnc, hcm, hcs, htake⟩⟩ := h
  · exact absurd (List.eq_nil_of_length_eq_zero e) h0
  · refine ⟨g, cap, rfl, hnc, hcm, hbg, (Array.getElem?_eq_some_iff.1 hg).1, fun j u hj => ?_⟩
    have := World.ownsRow.cells h' (g := g) rfl j u hj
    rw [Addr.add_lit] at this
    exact this
theorem row8_of {w : World} {g off : Nat} {l : List UInt8} (h : w.rangeAt g off (u8s l)) : Crc.Row8 w (g + 1) (some ⟨g, off, none⟩) l :=
  .inr ⟨g, off, rfl, Nat.lt_succ_self _, fun i hi => h i _ (by simp only [u8s, List.getElem?_map, List.getElem?_eq_getElem hi, Option.map_some]; unfold Crc.at8; rw [Crc.getD_at _ _ hi])⟩
/-- Bytes with their check behind, and noughts up to a sector. -/
def sealB (l : List UInt8) : List UInt8 := l ++ numB (Crc.sum l).toNat 4 ++ List.replicate (124 - l.length) 0
theorem sealB_length (l : List UInt8) (h : l.length ≤ 124) : (sealB l).length = 128 := by
  simp only [sealB, List.length_append, numB_length, List.length_replicate]
  omega
set_option maxRecDepth 100000 in
set_option maxHeartbeats 2000000 in
theorem sealed_at (B : Nat) (v : Value) (l : List UInt8) (w : World) (h : BRow w B v l) (h0 : l ≠ []) (hl : l.length ≤ 124) (hB : B ≤ w.heap.size) :
    Calls Try.prog 62 #[v] w fun e w' => ∃ v', e = .returned v' ∧ BRow w' B v' (sealB l) ∧ Below B w w' := by
  obtain ⟨g, cap, rfl, hlc, hcm, hg, hgl, hr⟩ := h.some h0
  have hlo := Crc.u_lo (Crc.sum l)
  have hhi := Crc.u_hi (Crc.sum l)
  have HR := Lib.hid (row8_of hr)
  have HROW := Lib.hid h
  have H0 := Lib.hid h0
  have HB := Lib.hid hB
  have HL := Lib.hid hl
  clear hr h h0 hB hl
  go_enter Try.func62, Try.ntmps62
  go_wp2_with fail
  refine (Crc.sum_any _ l cap (g + 1) w (by have := HL.out; omega) HR.out).mono ?_
  rintro e w' ⟨rfl, rfl⟩
  go_wp2_with fail
  refine (number_at B _ l (Crc.sum l).toNat 4 (by decide) (by have := (Crc.sum l).isLt; omega) w HROW.out (by have := HL.out; omega) HB.out).mono ?_
  rintro e w1 ⟨v1, rfl, hr1, hb1⟩
  have HB1 := Lib.hid hb1
  obtain ⟨g1, cap1, rfl, hlc1, hcm1, hg1, hgl1, _⟩ := hr1.some (by simp [H0.out])
  have e1 : (l ++ numB (Crc.sum l).toNat 4).length = l.length + 4 := by rw [List.length_append, numB_length]
  have HN : Hid (∀ n : Nat, n = 124 - l.length → (l ++ numB (Crc.sum l).toNat 4).length + n < 100000000000) := fun n hn => by have := HL.out; omega
  rw [e1] at hlc1 hr1 ⊢
  have HR1 := Lib.hid hr1
  have HI : Hid (wrap64 ((128 : Int) - ((l.length : Int) + 4)) = ((124 - l.length : Nat) : Int)) := by show _ = _; have := HL.out; unfold wrap64; omega
  have HNE : Hid (l ++ numB (Crc.sum l).toNat 4 ≠ []) := by show _ ≠ _; simp [H0.out]
  clear hb1 hr1 e1
  go_wp2_with (first
    | (at_builtin; (refine wpList_append_zeros rfl (.tmp 8) (.tmp 11) rfl B _ _ (124 - l.length) rfl HR1.out HNE.out (congrArg (Value.int .i64) HI.out) (HN.out _ rfl) (Nat.le_trans HB.out HB1.out.size) ?_; intro v3 w3 hr3 hb3; go_frame))
    | fail)
  go_ret
  exact ⟨_, rfl, hr3, HB1.out.trans hb3⟩
end Go.Proofs.Ytgdedgfohjplmaa.Jnl

/- The journal: a head's bytes. -/
namespace Go.Proofs.Ytgdedgfohjplmaa.Jnl
open Go.RowKit Go.Maps Sec

/-- A head's sector. -/
def headL (g o f n : Nat) : List UInt8 := [72] ++ numB g 8 ++ numB o 8 ++ numB f 8 ++ numB n 4
def headB (g o f n : Nat) : List UInt8 := sealB (headL g o f n)
theorem headL_length (g o f n : Nat) : (headL g o f n).length = 29 := by simp [headL, numB_length]
theorem headB_length (g o f n : Nat) : (headB g o f n).length = 128 := sealB_length _ (by rw [headL_length]; decide)
/-- What stands there behind k of the three numbers. -/
def headUp (g o f : Nat) : Nat → List UInt8
  | 0 => [72]
  | 1 => [72] ++ numB g 8
  | 2 => [72] ++ numB g 8 ++ numB o 8
  | _ => [72] ++ numB g 8 ++ numB o 8 ++ numB f 8
theorem headUp_length (g o f k : Nat) : (headUp g o f k).length ≤ 25 := by
  unfold headUp
  split <;> simp [numB_length]
theorem info_i64 : (Try.prog.info? 2).map (fun i => (i.zero, i.size, i.bytes)) = some (some (.int .i64 0), 1, 8) := by kernel_rfl
set_option maxRecDepth 100000 in
theorem run_idx3 (w : World) (x y z : Int) : (Instr.index 99 (.agg #[.int .i64 x, .int .i64 y, .int .i64 z]) (.int .i64 0)).run Try.prog w = .ok (.int .i64 x) w ∧ (Instr.index 99 (.agg #[.int .i64 x, .int .i64 y, .int .i64 z]) (.int .i64 1)).run Try.prog w = .ok (.int .i64 y) w ∧ (Instr.index 99 (.agg #[.int .i64 x, .int .i64 y, .int .i64 z]) (.int .i64 2)).run Try.prog w = .ok (.int .i64 z) w := by
  obtain ⟨i0, hi0, he⟩ := Option.map_eq_some_iff.1 info_i64
  simp only [Prod.mk.injEq] at he
  refine ⟨?_, ?_, ?_⟩ <;> simp [Instr.index, run_underlying Try.underlying99, asIntOf, sizeOf, typeInfo, hi0, he.2.1, part]
set_option maxRecDepth 100000 in
set_option maxHeartbeats 4000000 in
theorem head_bytes_at (g o f n : Nat) (hg : g < 9223372036854775808) (ho : o < 9223372036854775808) (hf : f < 9223372036854775808) (hn : n < 9223372036854775808) (w : World) :
    Calls Try.prog 48 #[.agg #[.int .i64 (g : Int), .int .i64 (o : Int), .int .i64 (f : Int), .int .i64 (n : Int)]] w fun e w' => ∃ v', e = .returned v' ∧ BRow w' w.heap.size v' (headB g o f n) ∧ Below w.heap.size w w' := by
  have HG := Lib.hid hg
  have HO := Lib.hid ho
  have HF := Lib.hid hf
  have HN := Lib.hid hn
  clear hg ho hf hn
  go_enter Try.func48, Try.ntmps48
  go_wp2_with fail
  obtain ⟨y, hy⟩ : ∃ y, y = (w.alloc (.cells #[.int .i64 (g : Int), .int .i64 (o : Int), .int .i64 (f : Int), .int .i64 (n : Int)] 54)).alloc (.cells #[.int .u8 72] 5) := ⟨_, rfl⟩
  have hgy : w.grownBy y none := by rw [hy]; exact (World.grownBy_alloc w _ none).andThen (World.grownBy_alloc _ _ none) (by simp)
  have s1 : (w.alloc (.cells #[.int .i64 (g : Int), .int .i64 (o : Int), .int .i64 (f : Int), .int .i64 (n : Int)] 54)).heap.size = w.heap.size + 1 := World.size_alloc ..
  have hc3 : y.cell? ⟨w.heap.size, 3, none⟩ = some (.int .i64 (n : Int)) := by
    have h1 := (MapKept.heap_alloc w (.cells #[.int .i64 (g : Int), .int .i64 (o : Int), .int .i64 (f : Int), .int .i64 (n : Int)] 54)).1
    have h2 := (World.grownBy_alloc (w.alloc (.cells #[.int .i64 (g : Int), .int .i64 (o : Int), .int .i64 (f : Int), .int .i64 (n : Int)] 54)) (.cells #[.int .u8 72] 5) none).block w.heap.size (by omega) (by simp)
    rw [h1, ← hy] at h2
    simp only [World.cell?, h2]
    rfl
  have hr0 : BRow y (w.heap.size + 1) (.slice (some ⟨w.heap.size + 1, 0, none⟩) 1 1) [72] := by
    have := World.ownsRow_lit (base := w.heap.size + 1) (e := 5) (size := 1) (w.alloc (.cells #[.int .i64 (g : Int), .int .i64 (o : Int), .int .i64 (f : Int), .int .i64 (n : Int)] 54)) #[.int .u8 72] 1 (by omega) (by decide) rfl
    rw [s1, ← hy] at this
    exact this
  have hsy : y.heap.size = w.heap.size + 2 := by rw [hy, World.size_alloc, s1]
  rw [← hy]
  have HC3 := Lib.hid hc3
  have HR0 := Lib.hid hr0
  have HGY := Lib.hid hgy
  have HSY := Lib.hid hsy
  clear hc3 hr0 hgy s1 hsy hy
  go_loopw [3, 5, 14] (fun u _ i wr => Below (w.heap.size + 1) y wr ∧ ((i = .int .i64 0 ∧ BRow wr (w.heap.size + 1) u (headUp g o f 0)) ∨ (i = .int .i64 1 ∧ BRow wr (w.heap.size + 1) u (headUp g o f 1)) ∨ (i = .int .i64 2 ∧ BRow wr (w.heap.size + 1) u (headUp g o f 2)) ∨ (i = .int .i64 3 ∧ BRow wr (w.heap.size + 1) u (headUp g o f 3)))) (fun _ _ i _ => 3 - (intOf i).toNat)
  case atStart => exact ⟨Below.refl _ _, .inl ⟨rfl, HR0.out⟩⟩
  case round =>
    obtain ⟨hb, hrel⟩ := hrel
    have HB := Lib.hid hb
    have HBS : Hid (w.heap.size + 1 ≤ wr.heap.size) := by have h1 := hb.size; have h2 := HSY.out; show _ ≤ _; omega
    clear hb
    obtain ⟨rfl, hrow⟩ | ⟨rfl, hrow⟩ | ⟨rfl, hrow⟩ | ⟨rfl, hrow⟩ := hrel
    · have HROW := Lib.hid hrow
      have hx := fun w : World => (run_idx3 w g o f).1
      clear hrow
      go_wp2_with fail
      refine (number_at (w.heap.size + 1) _ (headUp g o f 0) g 8 (by decide) HG.out wr HROW.out (by have := headUp_length g o f 0; omega) HBS.out).mono ?_
      rintro e w2 ⟨v2, rfl, hr2, hb2⟩
      go_wp2_with fail
      go_roundw
      case rel => exact ⟨HB.out.trans hb2, .inr (.inl ⟨rfl, hr2⟩)⟩
      case measure => decide
    · have HROW := Lib.hid hrow
      have hx := fun w : World => (run_idx3 w g o f).2.1
      clear hrow
      go_wp2_with fail
      refine (number_at (w.heap.size + 1) _ (headUp g o f 1) o 8 (by decide) HO.out wr HROW.out (by have := headUp_length g o f 1; omega) HBS.out).mono ?_
      rintro e w2 ⟨v2, rfl, hr2, hb2⟩
      go_wp2_with fail
      go_roundw
      case rel => exact ⟨HB.out.trans hb2, .inr (.inr (.inl ⟨rfl, hr2⟩))⟩
      case measure => decide
    · have HROW := Lib.hid hrow
      have hx := fun w : World => (run_idx3 w g o f).2.2
      clear hrow
      go_wp2_with fail
      refine (number_at (w.heap.size + 1) _ (headUp g o f 2) f 8 (by decide) HF.out wr HROW.out (by have := headUp_length g o f 2; omega) HBS.out).mono ?_
      rintro e w2 ⟨v2, rfl, hr2, hb2⟩
      go_wp2_with fail
      go_roundw
      case rel => exact ⟨HB.out.trans hb2, .inr (.inr (.inr ⟨rfl, hr2⟩))⟩
      case measure => decide
    · have HROW := Lib.hid hrow
      have hc3 : wr.cell? ⟨w.heap.size, 3, none⟩ = some (.int .i64 (n : Int)) := (HB.out.cell (by show w.heap.size < _; omega)).trans HC3.out
      clear hrow
      go_wp2_with fail
      refine (number_at (w.heap.size + 1) _ (headUp g o f 3) n 4 (by decide) HN.out wr HROW.out (by have := headUp_length g o f 3; omega) HBS.out).mono ?_
      rintro e w2 ⟨v2, rfl, hr2, hb2⟩
      have HB2 := Lib.hid hb2
      have HR2 := Lib.hid hr2
      clear hb2 hr2
      go_wp2_with fail
      refine (sealed_at (w.heap.size + 1) _ (headL g o f n) w2 HR2.out (by simp [headL]) (by rw [headL_length]; decide) (Nat.le_trans HBS.out HB2.out.size)).mono ?_
      rintro e w3 ⟨v3, rfl, hr3, hb3⟩
      go_wp2_with fail
      go_ret
      have hbl : Below (w.heap.size + 1) y w3 := (HB.out.trans HB2.out).trans hb3
      refine ⟨_, rfl, ?_, (grown_below0 HGY.out (Nat.le_refl _)).trans (hbl.mono (by omega))⟩
      have : BRow w3 (w.heap.size + 1) v3 (headB g o f n) := hr3
      obtain ⟨h1, h2 | ⟨gg, cap, cur, e, hB, h3⟩⟩ := this
      · exact ⟨h1, .inl h2⟩
      · exact ⟨h1, .inr ⟨gg, cap, cur, e, by omega, h3⟩⟩
end Go.Proofs.Ytgdedgfohjplmaa.Jnl

/- The journal: read. -/
namespace Go.Proofs.Ytgdedgfohjplmaa.Jnl
open Go.RowKit Go.Maps Sec

theorem numB_get (x : Nat) : ∀ (s k : Nat), k < s → (numB x s)[k]? = some (UInt8.ofNat (x / 256 ^ (s - 1 - k)))
  | 0, k, h => by omega
  | s + 1, 0, _ => by simp [numB]
  | s + 1, k + 1, h => by
    have := numB_get x s k (by omega)
    simp only [numB, List.getElem?_cons_succ, this]
    rw [show s + 1 - 1 - (k + 1) = s - 1 - k by omega]

set_option maxRecDepth 100000 in
theorem or_byte (a c : Nat) (hc : c < 256) (ha : a * 256 + c < 9223372036854775808) : bits .or .u64 (IntKind.u64.wrap ((a : Int) * 256)) (c : Int) = ((a * 256 + c : Nat) : Int) := by
  have h : a * 256 + c = a * 256 ||| c := by
    have := Nat.shiftLeft_add_eq_or_of_lt (b := c) (i := 8) hc a
    rw [Nat.shiftLeft_eq] at this
    exact this
  have hw : IntKind.u64.wrap ((a : Int) * 256) = ((a * 256 : Nat) : Int) := by
    rw [IntKind.wrap_u64]
    omega
  rw [hw, h]
  show IntKind.u64.wrap ((BitVec.ofInt 64 ((a * 256 : Nat) : Int) ||| BitVec.ofInt 64 (c : Int)).toNat : Int) = _
  have l1 : a * 256 < 2 ^ 64 := Nat.lt_trans (m := 9223372036854775808) (by omega) (by decide)
  have l2 : c < 2 ^ 64 := Nat.lt_trans (m := 256) hc (by decide)
  rw [IntKind.wrap_u64, BitVec.toNat_or, BitVec.ofInt_natCast, BitVec.ofInt_natCast, BitVec.toNat_ofNat, BitVec.toNat_ofNat, Nat.mod_eq_of_lt l1, Nat.mod_eq_of_lt l2, ← h]
  omega
set_option maxRecDepth 100000 in
set_option maxHeartbeats 4000000 in
theorem read_at (g off n cap : Nat) (l : List UInt8) (x s : Nat) (w : World) (hr : w.rangeAt g off (u8s l)) (hn : l.length = n) (hs : s ≤ 8) (hsn : s < n) (hnc : n ≤ cap) (hcm : cap ≤ maxLen) (hx : l.take s = numB x s) (hx63 : x < 256 ^ s) (hx64 : x < 9223372036854775808) :
    Calls Try.prog 57 #[.slice (some ⟨g, off, none⟩) n cap, .int .i64 (s : Int)] w fun e w' => e = .returned (.tuple #[.int .i64 (x : Int), .slice (some ⟨g, off + s, none⟩) (n - s) (cap - s)]) ∧ ∃ m, w' = w.drewN m := by
  have HR := Lib.hid hr
  have HX := Lib.hid hx
  have HN := Lib.hid hn
  have H63 := Lib.hid hx63
  have H64 := Lib.hid hx64
  clear hr hx hn hx63 hx64
  unfold maxLen at hcm
  go_enter Try.func57, Try.ntmps57
  go_wp2_with fail
  go_loop [6, 13] (fun u i => ∃ k : Nat, k ≤ s ∧ i = .int .i64 (k : Int) ∧ u = .int .u64 ((x / 256 ^ (s - k) : Nat) : Int)) (fun _ i => s - (intOf i).toNat)
  case atStart =>
    refine ⟨0, Nat.zero_le _, rfl, ?_⟩
    rw [Nat.sub_zero, Nat.div_eq_of_lt H63.out]
    rfl
  case round =>
    obtain ⟨k, hk, rfl, rfl⟩ := hrel
    by_cases hlt : k < s
    · have hd : decide ((k : Int) < (s : Int)) = true := by simp; omega
      obtain ⟨c, hc⟩ : ∃ c, c = UInt8.ofNat (x / 256 ^ (s - 1 - k)) := ⟨_, rfl⟩
      have hck : w.cell? ⟨g, off + k, none⟩ = some (.int .u8 (c.toNat : Int)) := by
        have h1 : l[k]? = some c := by
          have h2 := numB_get x s k hlt
          rw [← HX.out, List.getElem?_take] at h2
          rw [if_pos hlt] at h2
          rw [h2, hc]
        have := HR.out k (.int .u8 (c.toNat : Int)) (by simp [u8s, h1])
        exact this
      have HC : Hid (bits BinOp.or IntKind.u64 (IntKind.u64.wrap ((x : Int) / 256 ^ (s - k) * 256)) ((x : Int) / 256 ^ (s - 1 - k) % 256) = ((x / 256 ^ (s - (k + 1)) : Nat) : Int)) := by
        show _ = _
        have h1 : x / 256 ^ (s - (k + 1)) = x / 256 ^ (s - k) * 256 + x / 256 ^ (s - 1 - k) % 256 := by
          rw [show s - (k + 1) = s - 1 - k by omega, show s - k = (s - 1 - k) + 1 by omega, Nat.pow_succ, ← Nat.div_div_eq_div_mul]
          omega
        have h2 : x / 256 ^ (s - (k + 1)) < 9223372036854775808 := Nat.lt_of_le_of_lt (Nat.div_le_self _ _) H64.out
        have h3 := or_byte (x / 256 ^ (s - k)) (x / 256 ^ (s - 1 - k) % 256) (Nat.mod_lt _ (by decide)) (by omega)
        rw [h1, ← h3]
        rfl
      go_wp2_with fail
      go_roundw
      case rel => exact ⟨k + 1, hlt, by rw [Int.natCast_add]; rfl, congrArg (Value.int .u64) HC.out⟩
      case measure => simp only [intOf]; omega
    · obtain rfl : k = s := by omega
      have hd : decide ((k : Int) < (k : Int)) = false := by simp
      have e0 : x / 256 ^ (k - k) = x := by rw [Nat.sub_self, Nat.pow_zero, Nat.div_one]
      rw [e0]
      have x0 : (0 : Int) ≤ (x : Int) := by omega
      have x1 : (x : Int) ≤ 9223372036854775807 := by have := H64.out; omega
      have k1 : (k : Int) ≤ (n : Int) := by omega
      have k2 : (n : Int) ≤ (cap : Int) := by omega
      go_wp2_with fail
      go_quiet (fail)
      go_wp2_with fail
      go_ret2
      exact ⟨rfl, nq, rfl⟩
end Go.Proofs.Ytgdedgfohjplmaa.Jnl

/- The journal: a part's bytes. -/
namespace Go.Proofs.Ytgdedgfohjplmaa.Jnl
open Go.RowKit Go.Maps Sec

/-- A part's sector. -/
def partL (c : UInt8) (s k i n : Nat) (l : List UInt8) : List UInt8 := [c] ++ numB s 8 ++ numB k 8 ++ numB i 2 ++ numB n 2 ++ [UInt8.ofNat l.length] ++ l ++ List.replicate (102 - l.length) 0
def partB (c : UInt8) (s k i n : Nat) (l : List UInt8) : List UInt8 := sealB (partL c s k i n l)
theorem partL_length (c : UInt8) (s k i n : Nat) (l : List UInt8) (h : l.length ≤ 102) : (partL c s k i n l).length = 124 := by
  simp [partL, numB_length]
  omega
theorem partB_length (c : UInt8) (s k i n : Nat) (l : List UInt8) (h : l.length ≤ 102) : (partB c s k i n l).length = 128 := sealB_length _ (by rw [partL_length _ _ _ _ _ _ h]; decide)
theorem below_drew (B : Nat) (w : World) : Below B w w.drew := ⟨rfl, rfl, rfl, Nat.le_refl _, fun _ _ => rfl⟩
theorem BRow.drew {w : World} {B : Nat} {v : Value} {l : List UInt8} (h : BRow w B v l) : BRow w.drew B v l := h
section
variable {ops : Array Oper} {o : Oper} {a : Act} {w : World} {K : Act → World → Prop} {Q : Exit → Act → World → Prop} {E : Prop}
set_option maxRecDepth 100000 in
theorem step_append_bytes (hg : o.guard = none) (s x : Operand) (hop : o.op = Op.call { callee := Callee.builtin Builtin.append, args := #[s, x], argTypes := #[23, 23] })
    (B : Nat) (v : Value) (l m : List UInt8) (A : Option Addr) (n cap : Nat) (hn : m.length = n) (hs : a.eval s = v) (hown : BRow w B v l) (hx : a.eval x = .slice A n cap)
    (hc : (m = [] ∧ cap = 0) ∨ ∃ g off, A = some ⟨g, off, none⟩ ∧ w.rangeAt g off (u8s m)) (hb : l.length + n < 100000000000) (hB : B ≤ w.heap.size)
    (hK : ∀ v' w', BRow w' B v' (l ++ m) → Below B w w' → K (a.put o.dst v') w') :
    if Region.wanted o (yielded ops a.tmps) = true then Oper.wp Try.prog o a w K Q else E := by
  have hw : Region.wanted o (yielded ops a.tmps) = true := by simp [Region.wanted, hg]
  rw [if_pos hw]
  obtain ⟨i0, hi0, he⟩ := Option.map_eq_some_iff.1 info_byte
  simp only [Prod.mk.injEq] at he
  subst hn
  have hx0 : (A = none ∧ m = [] ∧ cap = 0) ∨ ∃ x, A = some x ∧ ∀ j u, (u8s m)[j]? = some u → w.cell? (x.add j) = some u := by
    rcases hc with ⟨h1, h2⟩ | ⟨g, off, h1, hr⟩
    · cases A with
      | none => exact .inl ⟨rfl, h1, h2⟩
      | some x => exact .inr ⟨x, rfl, fun j u hj => by rw [h1] at hj; simp [u8s] at hj⟩
    · exact .inr ⟨_, h1, fun j u hj => by have := hr j u hj; rw [Addr.add_lit]; exact this⟩
  rcases hx0 with ⟨rfl, rfl, rfl⟩ | ⟨x0, rfl, hr⟩
  · have hrun := run_append_owned_none (P := Try.prog) w B 23 o.type 5 i0 1 Try.underlying23 hi0 v l.length _ hown
    unfold Oper.wp
    simp [execOp, hop, resolve, invoke, builtin, hs, hx]
    simp only [hrun, Result.andThen]
    exact hK v w (by rw [List.append_nil]; exact hown) (Below.refl _ _)
  · obtain ⟨v', w', hrun, hown', hgr, _⟩ := run_append_own (P := Try.prog) w B 23 o.type 5 i0 _ 1 1 Try.underlying23 hi0 he.1 he.2.1 he.2.2 rfl (by decide) v l.length _ hown x0 m.length cap (u8s m) (by rw [u8s_length, Nat.mul_one]) hr (u8s_one m) (by unfold maxLen; omega) (by omega) hB
    unfold Oper.wp
    simp [execOp, hop, resolve, invoke, builtin, hs, hx, hrun, Result.andThen]
    refine hK v' w' ?_ (hown.below hgr hB)
    unfold BRow
    rw [List.length_append, u8s_app]
    exact hown'
end
set_option maxRecDepth 100000 in
set_option maxHeartbeats 4000000 in
theorem part_bytes_at (c : UInt8) (s k i n : Nat) (l : List UInt8) (A : Option Addr) (cap : Nat) (hs : s < 9223372036854775808) (hk : k < 9223372036854775808) (hi : i < 9223372036854775808) (hn : n < 9223372036854775808) (hl : l.length ≤ 102) (w : World)
    (hA : (l = [] ∧ cap = 0) ∨ ∃ g off, A = some ⟨g, off, none⟩ ∧ g < w.heap.size ∧ w.rangeAt g off (u8s l)) :
    Calls Try.prog 47 #[.agg #[.int .u8 (c.toNat : Int), .int .i64 (s : Int), .int .i64 (k : Int), .int .i64 (i : Int), .int .i64 (n : Int), .slice A l.length cap]] w fun e w' => ∃ v', e = .returned v' ∧ BRow w' w.heap.size v' (partB c s k i n l) ∧ Below w.heap.size w w' := by
  have HS := Lib.hid hs
  have HK := Lib.hid hk
  have HI := Lib.hid hi
  have HN := Lib.hid hn
  have HL := Lib.hid hl
  have HA := Lib.hid hA
  clear hs hk hi hn hl hA
  go_enter Try.func47, Try.ntmps47
  go_wp2_with fail
  have hc := (MapKept.heap_alloc w (.cells #[.int .u8 (c.toNat : Int), .int .i64 (s : Int), .int .i64 (k : Int), .int .i64 (i : Int), .int .i64 (n : Int), .slice A l.length cap] 84)).1
  have hgy := World.grownBy_alloc w (.cells #[.int .u8 (c.toNat : Int), .int .i64 (s : Int), .int .i64 (k : Int), .int .i64 (i : Int), .int .i64 (n : Int), .slice A l.length cap] 84) none
  have hsy : (w.alloc (.cells #[.int .u8 (c.toNat : Int), .int .i64 (s : Int), .int .i64 (k : Int), .int .i64 (i : Int), .int .i64 (n : Int), .slice A l.length cap] 84)).heap.size = w.heap.size + 1 := World.size_alloc ..
  obtain ⟨y, hy⟩ : ∃ y, y = w.alloc (.cells #[.int .u8 (c.toNat : Int), .int .i64 (s : Int), .int .i64 (k : Int), .int .i64 (i : Int), .int .i64 (n : Int), .slice A l.length cap] 84) := ⟨_, rfl⟩
  rw [← hy] at hc hgy hsy ⊢
  have HC : Hid (∀ v, Below (w.heap.size + 1) y v → v.cell? ⟨w.heap.size, 0, none⟩ = some (.int .u8 (c.toNat : Int)) ∧ v.cell? ⟨w.heap.size, 1, none⟩ = some (.int .i64 (s : Int)) ∧ v.cell? ⟨w.heap.size, 2, none⟩ = some (.int .i64 (k : Int)) ∧ v.cell? ⟨w.heap.size, 3, none⟩ = some (.int .i64 (i : Int)) ∧ v.cell? ⟨w.heap.size, 4, none⟩ = some (.int .i64 (n : Int)) ∧ v.cell? ⟨w.heap.size, 5, none⟩ = some (.slice A l.length cap)) := fun v hv => by
    have hb := (hv.block w.heap.size (by omega)).trans hc
    refine ⟨?_, ?_, ?_, ?_, ?_, ?_⟩ <;> (simp only [World.cell?, hb]; rfl)
  have HGY := Lib.hid hgy
  have HYD : Hid (Below (w.heap.size + 1) y y.drew) := below_drew _ _
  have HYS : Hid (w.heap.size + 1 ≤ (y.drew.alloc (.cells #[.int .u8 (c.toNat : Int)] 5)).heap.size) := by show _ ≤ _; rw [World.size_alloc]; show _ ≤ y.heap.size + 1; omega
  have HYA : Hid (Below (w.heap.size + 1) y (y.drew.alloc (.cells #[.int .u8 (c.toNat : Int)] 5))) := (below_drew _ _).trans (grown_below0 (World.grownBy_alloc y.drew _ none) (by show _ ≤ y.heap.size; omega))
  have HROW : Hid (BRow (y.drew.alloc (.cells #[.int .u8 (c.toNat : Int)] 5)) (w.heap.size + 1) (.slice (some ⟨y.heap.size, 0, none⟩) 1 1) [c]) :=
    World.ownsRow_lit (base := w.heap.size + 1) (e := 5) (size := 1) y.drew #[.int .u8 (c.toNat : Int)] 1 (by show _ ≤ y.heap.size; omega) (by decide) rfl
  clear hc hgy hsy hy
  refine wp_region_noPanic ?_
  refine wp_region_held_drew (S := fun w' => w'.cell? ⟨w.heap.size, 0, none⟩ = some (Value.int .u8 (c.toNat : Int)) ∧ w'.cell? ⟨w.heap.size, 1, none⟩ = some (Value.int .i64 (s : Int)) ∧ w'.cell? ⟨w.heap.size, 2, none⟩ = some (Value.int .i64 (k : Int))) (by kernel_rfl) ?hSa (fun hHeld => ?_)
  case hSa => exact ⟨(HC.out _ (HYD.out)).1, (HC.out _ (HYD.out)).2.1, (HC.out _ (HYD.out)).2.2.1⟩
  refine wpAnyH_take (i := 0) (oi := ⟨_, _, _, _, _, _⟩) (v := ?va0) rfl (by kernel_rfl) (by kernel_rfl) (by kernel_rfl) (fun _ _ _ h => h) (Or.inl ⟨by rfl, ?hya0⟩) hHeld ?_
  case hya0 => (intro wS hSw; (try dsimp only at hSw); go_simp; (first | done | with_reducible rfl))
  try simp only [Act.put, List.setIfInBounds_toArray, List.set_cons_zero, List.set_cons_succ]
  refine wpAnyH_take (i := 1) (oi := ⟨_, _, _, _, _, _⟩) (v := ?va1) rfl (by kernel_rfl) (by kernel_rfl) (by kernel_rfl) (fun _ _ _ h => h) (Or.inl ⟨by rfl, ?hya1⟩) hHeld ?_
  case hya1 => (intro wS hSw; (try dsimp only at hSw); go_simp; (first | done | with_reducible rfl))
  try simp only [Act.put, List.setIfInBounds_toArray, List.set_cons_zero, List.set_cons_succ]
  refine wpAnyH_take (i := 3) (oi := ⟨_, _, _, _, _, _⟩) (v := ?va3) rfl (by kernel_rfl) (by kernel_rfl) (by kernel_rfl) (fun _ _ _ h => h) (Or.inl ⟨by rfl, ?hya3⟩) hHeld ?_
  case hya3 => (intro wS hSw; (try dsimp only at hSw); go_simp; (first | done | with_reducible rfl))
  try simp only [Act.put, List.setIfInBounds_toArray, List.set_cons_zero, List.set_cons_succ]
  refine wpAnyH_take (i := 4) (oi := ⟨_, _, _, _, _, _⟩) (v := ?va4) rfl (by kernel_rfl) (by kernel_rfl) (by kernel_rfl) (fun _ _ _ h => h) (Or.inl ⟨by rfl, ?hya4⟩) hHeld ?_
  case hya4 => (intro wS hSw; (try dsimp only at hSw); go_simp; (first | done | with_reducible rfl))
  try simp only [Act.put, List.setIfInBounds_toArray, List.set_cons_zero, List.set_cons_succ]
  refine wpAnyH_take (i := 6) (oi := ⟨_, _, _, _, _, _⟩) (v := ?va6) rfl (by kernel_rfl) (by kernel_rfl) (by kernel_rfl) (fun _ _ _ h => h) (Or.inl ⟨by rfl, ?hya6⟩) hHeld ?_
  case hya6 => (intro wS hSw; (try dsimp only at hSw); go_simp; (first | done | with_reducible rfl))
  try simp only [Act.put, List.setIfInBounds_toArray, List.set_cons_zero, List.set_cons_succ]
  refine wpAnyH_take (i := 7) (oi := ⟨_, _, _, _, _, _⟩) (v := ?va7) rfl (by kernel_rfl) (by kernel_rfl) (by kernel_rfl) (fun _ _ _ h => h) (Or.inl ⟨by rfl, ?hya7⟩) hHeld ?_
  case hya7 => (intro wS hSw; (try dsimp only at hSw); go_simp; (first | done | with_reducible rfl))
  try simp only [Act.put, List.setIfInBounds_toArray, List.set_cons_zero, List.set_cons_succ]
  refine wpAnyH_ready (rs := [2]) (by kernel_rfl) (by simp) ?_
  refine AllReadyH.cons (o := ⟨_, _, _, _, _, _⟩) rfl (fun K hK => ?_) AllReadyH.nil
  go_simp
  refine hK.out _ _ ?ka2 (fun hNew => ?_)
  case ka2 => (try dsimp only); exact ⟨(HC.out _ (HYA.out)).1, (HC.out _ (HYA.out)).2.1, (HC.out _ (HYA.out)).2.2.1⟩
  clear hK K hHeld
  have hHeld := hNew
  clear hNew
  try simp only [Act.put, List.setIfInBounds_toArray, List.set_cons_zero, List.set_cons_succ]
  refine wpAnyH_ready (rs := [5]) (by kernel_rfl) (by simp) ?_
  refine AllReadyH.cons (o := ⟨_, _, _, _, _, _⟩) rfl (fun K hK => ?_) AllReadyH.nil
  go_simp
  refine (number_at (w.heap.size + 1) _ ([c]) s 8 (by decide) HS.out (y.drew.alloc (.cells #[.int .u8 (c.toNat : Int)] 5)) (by exact HROW.out) (by first | decide | simp [numB_length]) (by exact HYS.out)).mono ?_
  rintro e w1 ⟨vw1, rfl, hrw1, hbw1⟩
  have HRw1 := Lib.hid hrw1
  have HBw1 := Lib.hid hbw1
  clear hrw1 hbw1
  go_wp2_with fail
  refine hK.out _ _ ?ka5 (fun hNew => ?_)
  case ka5 => (try dsimp only); exact ⟨(HC.out _ ((HYA.out).trans HBw1.out)).1, (HC.out _ ((HYA.out).trans HBw1.out)).2.1, (HC.out _ ((HYA.out).trans HBw1.out)).2.2.1⟩
  clear hK K hHeld
  have hHeld := hNew
  clear hNew
  try simp only [Act.put, List.setIfInBounds_toArray, List.set_cons_zero, List.set_cons_succ]
  refine wpAnyH_ready (rs := [8]) (by kernel_rfl) (by simp) ?_
  refine AllReadyH.cons (o := ⟨_, _, _, _, _, _⟩) rfl (fun K hK => ?_) AllReadyH.nil
  go_simp
  refine (number_at (w.heap.size + 1) _ ([c] ++ numB s 8) k 8 (by decide) HK.out (w1) (by exact HRw1.out) (by first | decide | simp [numB_length]) (by exact (Nat.le_trans HYS.out HBw1.out.size))).mono ?_
  rintro e w2 ⟨vw2, rfl, hrw2, hbw2⟩
  have HRw2 := Lib.hid hrw2
  have HBw2 := Lib.hid hbw2
  clear hrw2 hbw2
  go_wp2_with fail
  refine hK.out _ _ ?ka8 (fun hNew => ?_)
  case ka8 => (try dsimp only); exact ⟨(HC.out _ (((HYA.out).trans HBw1.out).trans HBw2.out)).1, (HC.out _ (((HYA.out).trans HBw1.out).trans HBw2.out)).2.1, (HC.out _ (((HYA.out).trans HBw1.out).trans HBw2.out)).2.2.1⟩
  clear hK K hHeld
  have hHeld := hNew
  clear hNew
  try simp only [Act.put, List.setIfInBounds_toArray, List.set_cons_zero, List.set_cons_succ]
  refine wpAnyH_take (i := 9) (oi := ⟨_, _, _, _, _, _⟩) (v := ?va9) rfl (by kernel_rfl) (by kernel_rfl) (by kernel_rfl) (fun _ _ _ h => h) (Or.inl ⟨by rfl, ?hya9⟩) hHeld ?_
  case hya9 => (intro wS hSw; (try dsimp only at hSw); go_simp; (first | done | with_reducible rfl))
  try simp only [Act.put, List.setIfInBounds_toArray, List.set_cons_zero, List.set_cons_succ]
  refine wpAnyH_done (by kernel_rfl) ?_ _
  refine NoPanic.normal ?_
  clear hHeld
  have HB2 : Hid (Below (w.heap.size + 1) y w2) := ((HYA.out).trans HBw1.out).trans HBw2.out
  have HS2 : Hid (w.heap.size + 1 ≤ w2.heap.size) := Nat.le_trans (Nat.le_trans HYS.out HBw1.out.size) HBw2.out.size
  clear HBw1 HBw2 HRw1
  go_wp2_with fail
  refine wp_region_noPanic ?_
  refine wp_region_held_drew (S := fun w' => w'.cell? ⟨w.heap.size, 3, none⟩ = some (Value.int .i64 (i : Int)) ∧ w'.cell? ⟨w.heap.size, 4, none⟩ = some (Value.int .i64 (n : Int))) (by kernel_rfl) ?hSb (fun hHeld => ?_)
  case hSb => exact ⟨(HC.out _ ((HB2.out.trans (below_drew _ _)))).2.2.2.1, (HC.out _ ((HB2.out.trans (below_drew _ _)))).2.2.2.2.1⟩
  refine wpAnyH_take (i := 0) (oi := ⟨_, _, _, _, _, _⟩) (v := ?vb0) rfl (by kernel_rfl) (by kernel_rfl) (by kernel_rfl) (fun _ _ _ h => h) (Or.inl ⟨by rfl, ?hyb0⟩) hHeld ?_
  case hyb0 => (intro wS hSw; (try dsimp only at hSw); go_simp; (first | done | with_reducible rfl))
  try simp only [Act.put, List.setIfInBounds_toArray, List.set_cons_zero, List.set_cons_succ]
  refine wpAnyH_take (i := 1) (oi := ⟨_, _, _, _, _, _⟩) (v := ?vb1) rfl (by kernel_rfl) (by kernel_rfl) (by kernel_rfl) (fun _ _ _ h => h) (Or.inl ⟨by rfl, ?hyb1⟩) hHeld ?_
  case hyb1 => (intro wS hSw; (try dsimp only at hSw); go_simp; (first | done | with_reducible rfl))
  try simp only [Act.put, List.setIfInBounds_toArray, List.set_cons_zero, List.set_cons_succ]
  refine wpAnyH_take (i := 2) (oi := ⟨_, _, _, _, _, _⟩) (v := ?vb2) rfl (by kernel_rfl) (by kernel_rfl) (by kernel_rfl) (fun _ _ _ h => h) (Or.inl ⟨by rfl, ?hyb2⟩) hHeld ?_
  case hyb2 => (intro wS hSw; (try dsimp only at hSw); go_simp; (first | done | with_reducible rfl))
  try simp only [Act.put, List.setIfInBounds_toArray, List.set_cons_zero, List.set_cons_succ]
  refine wpAnyH_take (i := 4) (oi := ⟨_, _, _, _, _, _⟩) (v := ?vb4) rfl (by kernel_rfl) (by kernel_rfl) (by kernel_rfl) (fun _ _ _ h => h) (Or.inl ⟨by rfl, ?hyb4⟩) hHeld ?_
  case hyb4 => (intro wS hSw; (try dsimp only at hSw); go_simp; (first | done | with_reducible rfl))
  try simp only [Act.put, List.setIfInBounds_toArray, List.set_cons_zero, List.set_cons_succ]
  refine wpAnyH_take (i := 5) (oi := ⟨_, _, _, _, _, _⟩) (v := ?vb5) rfl (by kernel_rfl) (by kernel_rfl) (by kernel_rfl) (fun _ _ _ h => h) (Or.inl ⟨by rfl, ?hyb5⟩) hHeld ?_
  case hyb5 => (intro wS hSw; (try dsimp only at hSw); go_simp; (first | done | with_reducible rfl))
  try simp only [Act.put, List.setIfInBounds_toArray, List.set_cons_zero, List.set_cons_succ]
  refine wpAnyH_ready (rs := [3]) (by kernel_rfl) (by simp) ?_
  refine AllReadyH.cons (o := ⟨_, _, _, _, _, _⟩) rfl (fun K hK => ?_) AllReadyH.nil
  go_simp
  refine (number_at (w.heap.size + 1) _ ([c] ++ numB s 8 ++ numB k 8) i 2 (by decide) HI.out (w2.drew) (by exact (HRw2.out.drew)) (by first | decide | simp [numB_length]) (by exact HS2.out)).mono ?_
  rintro e w3 ⟨vw3, rfl, hrw3, hbw3⟩
  have HRw3 := Lib.hid hrw3
  have HBw3 := Lib.hid hbw3
  clear hrw3 hbw3
  go_wp2_with fail
  refine hK.out _ _ ?kb3 (fun hNew => ?_)
  case kb3 => (try dsimp only); exact ⟨(HC.out _ ((HB2.out.trans (below_drew _ _)).trans HBw3.out)).2.2.2.1, (HC.out _ ((HB2.out.trans (below_drew _ _)).trans HBw3.out)).2.2.2.2.1⟩
  clear hK K hHeld
  have hHeld := hNew
  clear hNew
  try simp only [Act.put, List.setIfInBounds_toArray, List.set_cons_zero, List.set_cons_succ]
  refine wpAnyH_ready (rs := [6]) (by kernel_rfl) (by simp) ?_
  refine AllReadyH.cons (o := ⟨_, _, _, _, _, _⟩) rfl (fun K hK => ?_) AllReadyH.nil
  go_simp
  refine (number_at (w.heap.size + 1) _ ([c] ++ numB s 8 ++ numB k 8 ++ numB i 2) n 2 (by decide) HN.out (w3) (by exact HRw3.out) (by first | decide | simp [numB_length]) (by exact (Nat.le_trans HS2.out HBw3.out.size))).mono ?_
  rintro e w4 ⟨vw4, rfl, hrw4, hbw4⟩
  have HRw4 := Lib.hid hrw4
  have HBw4 := Lib.hid hbw4
  clear hrw4 hbw4
  go_wp2_with fail
  refine hK.out _ _ ?kb6 (fun hNew => ?_)
  case kb6 => (try dsimp only); exact ⟨(HC.out _ (((HB2.out.trans (below_drew _ _)).trans HBw3.out).trans HBw4.out)).2.2.2.1, (HC.out _ (((HB2.out.trans (below_drew _ _)).trans HBw3.out).trans HBw4.out)).2.2.2.2.1⟩
  clear hK K hHeld
  have hHeld := hNew
  clear hNew
  try simp only [Act.put, List.setIfInBounds_toArray, List.set_cons_zero, List.set_cons_succ]
  refine wpAnyH_take (i := 7) (oi := ⟨_, _, _, _, _, _⟩) (v := ?vb7) rfl (by kernel_rfl) (by kernel_rfl) (by kernel_rfl) (fun _ _ _ h => h) (Or.inl ⟨by rfl, ?hyb7⟩) hHeld ?_
  case hyb7 => (intro wS hSw; (try dsimp only at hSw); go_simp; (first | done | with_reducible rfl))
  try simp only [Act.put, List.setIfInBounds_toArray, List.set_cons_zero, List.set_cons_succ]
  refine wpAnyH_done (by kernel_rfl) ?_ _
  refine NoPanic.normal ?_
  clear hHeld
  have HB4 : Hid (Below (w.heap.size + 1) y w4) := ((HB2.out.trans (below_drew _ _)).trans HBw3.out).trans HBw4.out
  have HS4 : Hid (w.heap.size + 1 ≤ w4.heap.size) := Nat.le_trans (Nat.le_trans HS2.out HBw3.out.size) HBw4.out.size
  clear HBw3 HBw4 HRw3 HRw2 HB2 HS2
  go_wp2_with fail
  have HW : Hid (IntKind.u8.wrap (l.length : Int) = ((UInt8.ofNat l.length).toNat : Int)) := by show _ = _; have := HL.out; rw [IntKind.wrap_u8, UInt8.toNat_ofNat']; omega
  have HC5 : Hid ((w4.alloc (.cells #[.int .u8 (IntKind.u8.wrap (l.length : Int))] 5)).drew.rangeAt w4.heap.size 0 (u8s [UInt8.ofNat l.length])) := by rw [HW.out]; exact range_blk (w := (w4.alloc (.cells #[.int .u8 ((UInt8.ofNat l.length).toNat : Int)] 5)).drew) (MapKept.heap_alloc w4 _).1 rfl
  have HY5 : Hid (Below (w.heap.size + 1) y (w4.alloc (.cells #[.int .u8 (IntKind.u8.wrap (l.length : Int))] 5)).drew) := (HB4.out.trans (grown_below0 (World.grownBy_alloc w4 _ none) HS4.out)).trans (below_drew _ _)
  have HS5 : Hid (w.heap.size + 1 ≤ (w4.alloc (.cells #[.int .u8 (IntKind.u8.wrap (l.length : Int))] 5)).drew.heap.size) := Nat.le_trans HS4.out (World.grownBy_alloc w4 _ none).size
  have HAV : Hid (∀ v, Below (w.heap.size + 1) y v → (l = [] ∧ cap = 0) ∨ ∃ g off, A = some ⟨g, off, none⟩ ∧ v.rangeAt g off (u8s l)) := fun v hv => by
    rcases HA.out with h | ⟨g, off, e, hg, hr⟩
    · exact .inl h
    · refine .inr ⟨g, off, e, fun j x hj => ?_⟩
      have h1 := HGY.out.cell (hr j x hj) (by simp)
      exact (hv.cell (show g < w.heap.size + 1 by omega)).trans h1
  refine wp_region_noPanic ?_
  refine wp_region_held_drew (S := fun w' => w'.cell? ⟨w.heap.size, 5, none⟩ = some (Value.slice A l.length cap)) (by kernel_rfl) ?hSd (fun hHeld => ?_)
  case hSd => exact (HC.out _ ((HB4.out.trans (below_drew _ _)))).2.2.2.2.2
  refine wpAnyH_take (i := 0) (oi := ⟨_, _, _, _, _, _⟩) (v := ?vd0) rfl (by kernel_rfl) (by kernel_rfl) (by kernel_rfl) (fun _ _ _ h => h) (Or.inl ⟨by rfl, ?hyd0⟩) hHeld ?_
  case hyd0 => (intro wS hSw; (try dsimp only at hSw); go_simp; (first | done | with_reducible rfl))
  try simp only [Act.put, List.setIfInBounds_toArray, List.set_cons_zero, List.set_cons_succ]
  refine wpAnyH_take (i := 1) (oi := ⟨_, _, _, _, _, _⟩) (v := ?vd1) rfl (by kernel_rfl) (by kernel_rfl) (by kernel_rfl) (fun _ _ _ h => h) (Or.inl ⟨by rfl, ?hyd1⟩) hHeld ?_
  case hyd1 => (intro wS hSw; (try dsimp only at hSw); go_simp; (first | done | with_reducible rfl))
  try simp only [Act.put, List.setIfInBounds_toArray, List.set_cons_zero, List.set_cons_succ]
  refine wpAnyH_take (i := 2) (oi := ⟨_, _, _, _, _, _⟩) (v := ?vd2) rfl (by kernel_rfl) (by kernel_rfl) (by kernel_rfl) (fun _ _ _ h => h) (Or.inl ⟨by rfl, ?hyd2⟩) hHeld ?_
  case hyd2 => (intro wS hSw; (try dsimp only at hSw); go_simp; (first | done | with_reducible rfl))
  try simp only [Act.put, List.setIfInBounds_toArray, List.set_cons_zero, List.set_cons_succ]
  refine wpAnyH_take (i := 3) (oi := ⟨_, _, _, _, _, _⟩) (v := ?vd3) rfl (by kernel_rfl) (by kernel_rfl) (by kernel_rfl) (fun _ _ _ h => h) (Or.inl ⟨by rfl, ?hyd3⟩) hHeld ?_
  case hyd3 => (intro wS hSw; (try dsimp only at hSw); go_simp; (first | done | with_reducible rfl))
  try simp only [Act.put, List.setIfInBounds_toArray, List.set_cons_zero, List.set_cons_succ]
  refine wpAnyH_take (i := 7) (oi := ⟨_, _, _, _, _, _⟩) (v := ?vd7) rfl (by kernel_rfl) (by kernel_rfl) (by kernel_rfl) (fun _ _ _ h => h) (Or.inl ⟨by rfl, ?hyd7⟩) hHeld ?_
  case hyd7 => (intro wS hSw; (try dsimp only at hSw); go_simp; (first | done | with_reducible rfl))
  try simp only [Act.put, List.setIfInBounds_toArray, List.set_cons_zero, List.set_cons_succ]
  refine wpAnyH_take (i := 8) (oi := ⟨_, _, _, _, _, _⟩) (v := ?vd8) rfl (by kernel_rfl) (by kernel_rfl) (by kernel_rfl) (fun _ _ _ h => h) (Or.inl ⟨by rfl, ?hyd8⟩) hHeld ?_
  case hyd8 => (intro wS hSw; (try dsimp only at hSw); go_simp; (first | done | with_reducible rfl))
  try simp only [Act.put, List.setIfInBounds_toArray, List.set_cons_zero, List.set_cons_succ]
  refine wpAnyH_ready (rs := [4]) (by kernel_rfl) (by simp) ?_
  refine AllReadyH.cons (o := ⟨_, _, _, _, _, _⟩) rfl (fun K hK => ?_) AllReadyH.nil
  go_simp
  refine hK.out _ _ ?kd4 (fun hNew => ?_)
  case kd4 => (try dsimp only); exact hHeld
  clear hK K hHeld
  have hHeld := hNew
  clear hNew
  try simp only [Act.put, List.setIfInBounds_toArray, List.set_cons_zero, List.set_cons_succ]
  refine wpAnyH_ready (rs := [5]) (by kernel_rfl) (by simp) ?_
  refine AllReadyH.cons (o := ⟨_, _, _, _, _, _⟩) rfl (fun K hK => ?_) AllReadyH.nil
  go_simp
  refine hK.out _ _ ?kd5 (fun hNew => ?_)
  case kd5 => (try dsimp only); exact (HC.out _ (HY5.out)).2.2.2.2.2
  clear hK K hHeld
  have hHeld := hNew
  clear hNew
  try simp only [Act.put, List.setIfInBounds_toArray, List.set_cons_zero, List.set_cons_succ]
  refine wpAnyH_ready (rs := [6]) (by kernel_rfl) (by simp) ?_
  refine AllReadyH.cons (o := ⟨_, _, _, _, _, _⟩) rfl (fun K hK => ?_) AllReadyH.nil
  refine step_append_bytes rfl (.tmp 20) (.tmp 25) rfl (w.heap.size + 1) _ ([c] ++ numB s 8 ++ numB k 8 ++ numB i 2 ++ numB n 2) [UInt8.ofNat l.length] (some ⟨w4.heap.size, 0, none⟩) 1 1 rfl rfl (by exact (HRw4.out.grown (World.grownBy_alloc w4 _ none)).drew) rfl (.inr ⟨_, 0, rfl, by exact HC5.out⟩) (by simp [numB_length]) (by exact HS5.out) ?_
  intro v5 w5 hr5 hb5
  have HR5 := Lib.hid hr5
  have HB5 := Lib.hid hb5
  clear hr5 hb5
  refine hK.out _ _ ?kd6 (fun hNew => ?_)
  case kd6 => (try dsimp only); exact (HC.out _ (HY5.out.trans HB5.out)).2.2.2.2.2
  clear hK K hHeld
  have hHeld := hNew
  clear hNew
  try simp only [Act.put, List.setIfInBounds_toArray, List.set_cons_zero, List.set_cons_succ]
  refine wpAnyH_ready (rs := [9]) (by kernel_rfl) (by simp) ?_
  refine AllReadyH.cons (o := ⟨_, _, _, _, _, _⟩) rfl (fun K hK => ?_) AllReadyH.nil
  refine step_append_bytes rfl (.tmp 26) (.tmp 28) rfl (w.heap.size + 1) _ ([c] ++ numB s 8 ++ numB k 8 ++ numB i 2 ++ numB n 2 ++ [UInt8.ofNat l.length]) l A l.length cap rfl rfl (by exact HR5.out) rfl (by exact HAV.out _ (HY5.out.trans HB5.out)) (by have := HL.out; simp [numB_length]; omega) (by exact Nat.le_trans HS5.out HB5.out.size) ?_
  intro v6 w6 hr6 hb6
  have HR6 := Lib.hid hr6
  have HB6 := Lib.hid hb6
  clear hr6 hb6
  refine hK.out _ _ ?kd9 (fun hNew => ?_)
  case kd9 => (try dsimp only); exact (HC.out _ ((HY5.out.trans HB5.out).trans HB6.out)).2.2.2.2.2
  clear hK K hHeld
  have hHeld := hNew
  clear hNew
  try simp only [Act.put, List.setIfInBounds_toArray, List.set_cons_zero, List.set_cons_succ]
  refine wpAnyH_take (i := 10) (oi := ⟨_, _, _, _, _, _⟩) (v := ?vd10) rfl (by kernel_rfl) (by kernel_rfl) (by kernel_rfl) (fun _ _ _ h => h) (Or.inl ⟨by rfl, ?hyd10⟩) hHeld ?_
  case hyd10 => (intro wS hSw; (try dsimp only at hSw); go_simp; (first | done | with_reducible rfl))
  try simp only [Act.put, List.setIfInBounds_toArray, List.set_cons_zero, List.set_cons_succ]
  refine wpAnyH_done (by kernel_rfl) ?_ _
  refine NoPanic.normal ?_
  clear hHeld
  have hr6 := HR6.out
  clear HR6
  obtain ⟨g6, cap6, rfl, hc6, hm6, _, _, _⟩ := hr6.some (by simp)
  have e6 : ([c] ++ numB s 8 ++ numB k 8 ++ numB i 2 ++ numB n 2 ++ [UInt8.ofNat l.length] ++ l).length = 22 + l.length := by simp [numB_length]; omega
  have HFEW : Hid (∀ z : Nat, z = 102 - l.length → (([c] ++ numB s 8 ++ numB k 8 ++ numB i 2 ++ numB n 2 ++ [UInt8.ofNat l.length] ++ l)).length + z < 100000000000) := fun z hz => by have := HL.out; rw [e6]; omega
  have HNE : Hid (([c] ++ numB s 8 ++ numB k 8 ++ numB i 2 ++ numB n 2 ++ [UInt8.ofNat l.length] ++ l) ≠ []) := by show _ ≠ _; simp
  rw [e6] at hc6 hr6 ⊢
  have HR6 := Lib.hid hr6
  clear hr6 e6
  have HI : Hid ((124 : Int) - ((22 : Int) + (l.length : Int)) = ((102 - l.length : Nat) : Int)) := by show _ = _; have := HL.out; omega
  have i6 : (l.length : Int) ≤ 102 := by have := HL.out; omega
  go_wp2_with (first
    | (at_builtin; refine wpList_append_zeros rfl (.tmp 30) (.tmp 33) rfl (w.heap.size + 1) _ _ (102 - l.length) rfl HR6.out HNE.out (congrArg (Value.int .i64) HI.out) (HFEW.out _ rfl) (Nat.le_trans (Nat.le_trans HS5.out HB5.out.size) HB6.out.size) ?_; intro v7 w7 hr7 hb7; go_frame)
    | fail)
  have HR7 := Lib.hid hr7
  have HB7 := Lib.hid hb7
  clear hr7 hb7
  refine (sealed_at (w.heap.size + 1) _ (partL c s k i n l) w7 HR7.out (by simp [partL]) (by rw [partL_length _ _ _ _ _ _ HL.out]; decide) (Nat.le_trans (Nat.le_trans (Nat.le_trans HS5.out HB5.out.size) HB6.out.size) HB7.out.size)).mono ?_
  rintro e w8 ⟨v8, rfl, hr8, hb8⟩
  go_wp2_with fail
  go_ret
  have hbl : Below (w.heap.size + 1) y w8 := (((HY5.out.trans HB5.out).trans HB6.out).trans HB7.out).trans hb8
  refine ⟨_, rfl, ?_, (grown_below0 HGY.out (Nat.le_refl _)).trans (hbl.mono (by omega))⟩
  have : BRow w8 (w.heap.size + 1) v8 (partB c s k i n l) := hr8
  obtain ⟨h1, h2 | ⟨gg, cap, cur, e, hB, h3⟩⟩ := this
  · exact ⟨h1, .inl h2⟩
  · exact ⟨h1, .inr ⟨gg, cap, cur, e, by omega, h3⟩⟩
end Go.Proofs.Ytgdedgfohjplmaa.Jnl

/- bytes.Equal. -/
namespace Go.Proofs.Ytgdedgfohjplmaa.Jnl
open Go.RowKit Go.Maps Sec

theorem bs_toList (l : List UInt8) : (bs l).toList = l := by
  rw [ByteArray.toList_eq]
  rfl
set_option maxRecDepth 100000 in
set_option maxHeartbeats 4000000 in
theorem equal_at (g off g2 off2 : Nat) (l m : List UInt8) (cap cap2 : Nat) (w : World) (hl : w.rangeAt g off (u8s l)) (hm : w.rangeAt g2 off2 (u8s m)) :
    Calls Try.prog 52 #[.slice (some ⟨g, off, none⟩) l.length cap, .slice (some ⟨g2, off2, none⟩) m.length cap2] w fun e w' => e = .returned (.bool (decide (l = m))) ∧ w' = w := by
  have h1 := run_string w g off l cap hl
  have h2 := run_string w g2 off2 m cap2 hm
  clear hl hm
  go_enter Try.func52, Try.ntmps52
  go_wp2_with fail
  go_ret
  refine ⟨?_, rfl⟩
  show Ending.returned (Value.bool ((bs l).toList == (bs m).toList)) = _
  rw [bs_toList, bs_toList]
  congr 2
  rw [Bool.eq_iff_iff, beq_iff_eq, decide_eq_true_iff]
end Go.Proofs.Ytgdedgfohjplmaa.Jnl
