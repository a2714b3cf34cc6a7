/- Maps of sectors: words for memory. No program's function in sight, its types alone. -/
import Derived.WalkKit
import Derived.Below
import Derived.Maps.OwnSet
import Derived.Maps.Ext
import Derived.Lib.Hide
import Derived.Test.YtgdedgfohjplmaaProg
import Derived.ChangeKeysEq
import Derived.Deep.MidRow
import Derived.Carry
import Derived.Maps.Range
import Derived.Maps.RangeWalk
import Derived.OwnWalk
import Derived.Lib.SlMapMerge
import Derived.Laws.IdiomRangeMap
import Derived.Laws.Externs
import Derived.Shelf.SlMaps.Clone
import Derived.Great.BuildSlice
import Derived.Maps.AppendAt
import Derived.Deep.RegionLaw
import Derived.OrdersHeld
import Derived.Deep.RegionHeld3
namespace Go.Proofs.Ytgdedgfohjplmaa.Sec
open Go.RowKit Go.Maps

/-- Bytes as cells. -/
def u8s (l : List UInt8) : List Value := l.map fun c => .int .u8 (c.toNat : Int)
theorem u8s_length (l : List UInt8) : (u8s l).length = l.length := by simp [u8s]
theorem u8s_inj : ∀ {a b : List UInt8}, u8s a = u8s b → a = b
  | [], [], _ => rfl
  | [], _ :: _, h => by simp [u8s] at h
  | _ :: _, [], h => by simp [u8s] at h
  | x :: a, y :: b, h => by
    simp only [u8s, List.map_cons, List.cons.injEq, Value.int.injEq, true_and] at h
    have hx : x = y := UInt8.toNat_inj.1 (by omega)
    rw [hx, u8s_inj h.2]
/-- A sector's value. (A plain name: the walk does not look into it.) -/
def secV (l : List UInt8) : Value := .agg (u8s l).toArray
theorem secV_inj {a b : List UInt8} (h : secV a = secV b) : a = b := by
  unfold secV at h
  injection h with h
  exact u8s_inj (by simpa using h)
def noughts : List UInt8 := List.replicate 128 0
theorem noughts_length : noughts.length = 128 := by simp [noughts]

open Classical in
/-- How a sector in a map reads. -/
noncomputable def secR (v : Value) : Option (DataW Unit × List MemPlace) :=
  if h : ∃ l : List UInt8, l.length = 128 ∧ v = secV l then some (.lit (.string h.choose), []) else none
theorem secR_mk {l : List UInt8} (hl : l.length = 128) : secR (secV l) = some (.lit (.string l), []) := by
  have h : ∃ l' : List UInt8, l'.length = 128 ∧ secV l = secV l' := ⟨l, hl, rfl⟩
  unfold secR
  rw [dif_pos h, ← secV_inj h.choose_spec.2]
theorem secR_inv {v : Value} {z : DataW Unit × List MemPlace} (h : secR v = some z) : ∃ l : List UInt8, l.length = 128 ∧ v = secV l ∧ z = (.lit (.string l), []) := by
  unfold secR at h
  split at h
  · rename_i hx
    cases h
    exact ⟨_, hx.choose_spec.1, hx.choose_spec.2, rfl⟩
  · cases h

abbrev intKeyed : Keyed Try.prog 3 := int_keyed Try.underlying3
def key (i : Nat) : Lit := .int .i64 (i : Int)
theorem key_inj {i j : Nat} (h : key i = key j) : i = j := by
  unfold key at h
  injection h with _ h
  omega
theorem keyOf_nat {i : Nat} (hi : i ≤ 9223372036854775807) : keyOf Try.prog 3 (.int .i64 (i : Int)) = some (key i) :=
  keyOf_int_mk Try.underlying3 (by simp [Lit.wf, IntKind.min, IntKind.max, IntKind.bits, IntKind.signed]; omega)

theorem len_le : ∀ (N : Nat) (l : List Nat), l.Nodup → (∀ x ∈ l, x < N) → l.length ≤ N
  | 0, l, _, h => by
    cases l with
    | nil => simp
    | cons a l => exact absurd (h a (by simp)) (by omega)
  | N + 1, l, hd, h => by
    by_cases hm : N ∈ l
    · have h1 := len_le N (l.erase N) (hd.erase N) (fun x hx => by
        have := (hd.mem_erase_iff).1 hx
        have := h x this.2
        omega)
      rw [List.length_erase_of_mem hm] at h1
      omega
    · have := len_le N l hd (fun x hx => by
        have h1 := h x hx
        have : x ≠ N := fun e => hm (e ▸ hx)
        omega)
      omega

theorem size_le {w : World} {b n N : Nat} {D : DataW Unit} (h : w.ownsMap Try.prog 3 secR b n D) (hk : ∀ k, has D k = true → ∃ i, i < N ∧ k = key i) : Maps.size D ≤ N := by
  obtain ⟨es, rfl, hs, hks⟩ := h.canon intKeyed
  have hidx : ∀ p ∈ es, ∃ i, i < N ∧ p.1 = key i := fun p hp => hk p.1 (by
    rw [has_eq, List.any_eq_true]
    exact ⟨p, hp, WideAt.sameKey_self (hks p hp)⟩)
  let idx : Lit → Nat := fun l => match l with | .int _ z => z.toNat | _ => 0
  have hk0 : ∀ i, idx (key i) = i := fun i => by simp [idx, key]
  have hnd : (es.map fun p => idx p.1).Nodup := by
    have ap := apart_of_rising hs
    rw [List.nodup_iff_pairwise_ne, List.pairwise_map]
    refine List.Pairwise.imp_of_mem ?_ ap
    intro p q hp hq hne e
    obtain ⟨i, _, ei⟩ := hidx p hp
    obtain ⟨j, _, ej⟩ := hidx q hq
    rw [ei, ej, hk0, hk0] at e
    exact hne (by rw [ei, ej, e])
  have := len_le N _ hnd (fun x hx => by
    obtain ⟨p, hp, rfl⟩ := List.mem_map.1 hx
    obtain ⟨i, hi, ei⟩ := hidx p hp
    rw [ei, hk0]
    exact hi)
  simpa [size_eq] using this

/-- Block b is a map of sectors of a disk of N: sector i is f i. -/
def SecMap (w : World) (b N : Nat) (f : Nat → List UInt8) : Prop :=
  ∃ (n : Nat) (D : DataW Unit), n ≤ N ∧ w.ownsMap Try.prog 3 secR b n D ∧ (∀ k, has D k = true → ∃ i, i < N ∧ k = key i) ∧ ∀ i, i < N → D.atKey (key i) (.lit (.string noughts)) = .lit (.string (f i))
theorem tight {w : World} {b n N : Nat} {D : DataW Unit} (h : w.ownsMap Try.prog 3 secR b n D) (hs : Maps.size D ≤ N) : w.ownsMap Try.prog 3 secR b N D := by
  obtain ⟨es, clock, hb, F, _, rfl⟩ := h
  exact ⟨es, clock, hb, F, by simpa [Maps.size, length_sorted] using hs, rfl⟩
theorem SecMap.lt {w : World} {b N : Nat} {f : Nat → List UInt8} (h : SecMap w b N f) : b < w.heap.size := by
  obtain ⟨n, D, _, h, _⟩ := h
  exact h.lt
theorem SecMap.kept {w w' : World} {b N : Nat} {f : Nat → List UInt8} {row : Option Nat} (h : SecMap w b N f) (hg : w.grownBy w' row) (hne : some b ≠ row) : SecMap w' b N f := by
  obtain ⟨n, D, hn, h, hk, hf⟩ := h
  exact ⟨n, D, hn, h.kept hg hne, hk, hf⟩
theorem SecMap.made (w : World) (N : Nat) : SecMap (w.alloc (.map #[] 0)) w.heap.size N (fun _ => noughts) :=
  ⟨0, .map [], Nat.zero_le _, World.ownsMap_made w _ _ _, fun k h => by simp [has_eq] at h, fun i _ => by simp [DataW.atKey]⟩
/-- f, but l at i. -/
def upd (f : Nat → List UInt8) (i : Nat) (l : List UInt8) : Nat → List UInt8 := fun k => if k = i then l else f k
theorem SecMap.put {w' : World} {b N i : Nat} {f : Nat → List UInt8} {l : List UInt8} {D : DataW Unit} {n : Nat} (hi : i < N) (hk : ∀ k, has D k = true → ∃ i, i < N ∧ k = key i) (hf : ∀ i, i < N → D.atKey (key i) (.lit (.string noughts)) = .lit (.string (f i))) (hm : IsMap D) (_ : n ≤ N)
    (h : w'.ownsMap Try.prog 3 secR b (n + 1) (D.put (key i) (.lit (.string l)))) : SecMap w' b N (upd f i l) := by
  have hk' : ∀ k, has (D.put (key i) (.lit (.string l))) k = true → ∃ i, i < N ∧ k = key i := fun k hh => by
    by_cases e : k = key i
    · exact ⟨i, hi, e⟩
    · rw [has_put_other e] at hh
      exact hk k hh
  refine ⟨N, _, Nat.le_refl _, tight h (size_le h hk'), hk', fun j hj => ?_⟩
  unfold upd
  by_cases e : j = i
  · subst e
    rw [if_pos rfl, atKey_put_same hm (show WideAt.IsKeyLit (key j) from trivial)]
  · rw [if_neg e, atKey_put_other (fun x => e (key_inj x)), hf j hj]
theorem SecMap.del {w' : World} {b N i : Nat} {f : Nat → List UInt8} {D : DataW Unit} {n : Nat} (hn : n ≤ N) (hk : ∀ k, has D k = true → ∃ i, i < N ∧ k = key i) (hf : ∀ i, i < N → D.atKey (key i) (.lit (.string noughts)) = .lit (.string (f i)))
    (h : w'.ownsMap Try.prog 3 secR b n (D.del (key i))) : SecMap w' b N (upd f i noughts) := by
  refine ⟨n, _, hn, h, fun k hh => ?_, fun j hj => ?_⟩
  · by_cases e : k = key i
    · rw [e, has_del_same] at hh
      cases hh
    · rw [has_del_other e] at hh
      exact hk k hh
  · unfold upd
    by_cases e : j = i
    · subst e
      rw [if_pos rfl, atKey_del_same]
    · rw [if_neg e, atKey_del_other (fun x => e (key_inj x)), hf j hj]
end Go.Proofs.Ytgdedgfohjplmaa.Sec

/- The operations on sectors: told apart, read, made. -/
namespace Go.Proofs.Ytgdedgfohjplmaa.Sec
open Go.RowKit Go.Maps

theorem info_u8 : (Try.prog.info? 5).map (fun i => (i.zero, i.size, i.bytes)) = some (some (.int .u8 0), 1, 1) := by kernel_rfl
theorem cells_u8 : Try.prog.cellsOf 5 = 1 := by kernel_rfl
theorem u8s_get (l : List UInt8) (i : Nat) (h : i < l.length) : (u8s l).toArray[i]? = some (.int .u8 (l[i].toNat : Int)) := by
  simp [u8s, h]
theorem run_part_u8 (w : World) (l : List UInt8) (i : Nat) (h : i < l.length) : (part 5 (u8s l).toArray i).run Try.prog w = .ok (.int .u8 (l[i].toNat : Int)) w := by
  have hu := Try.underlying5
  simp [part, isAgg, run_underlying hu, Result.andThen, u8s_get l i h]
set_option maxRecDepth 100000 in
theorem run_eqItems_u8 (d : Nat) (w : World) (a b : List UInt8) (hab : a.length = b.length) : ∀ is : List Nat, (∀ i ∈ is, i < a.length) →
    (Op.eqItems (d + 1) 5 1 (u8s a).toArray (u8s b).toArray is).run Try.prog w = .ok (is.all fun i => a[i]? == b[i]?) w
  | [], _ => by simp [Op.eqItems]
  | i :: is, h => by
    have hi := h i (by simp)
    have hi' : i < b.length := by omega
    have hu := Try.underlying5
    simp only [Op.eqItems, Sem.run_bind, Nat.mul_one, run_part_u8 w a i hi, run_part_u8 w b i hi', Result.andThen_ok]
    have he : (Op.equalIn (d + 1) 5 (.int .u8 (a[i].toNat : Int)) (.int .u8 (b[i].toNat : Int))).run Try.prog w = .ok (a[i] == b[i]) w := by
      rw [run_equalIn_int w d _ .u8 .u8 _ _ hu]
      congr 1
      rw [Bool.eq_iff_iff, beq_iff_eq, beq_iff_eq]
      constructor
      · intro x
        exact UInt8.toNat_inj.1 (by omega)
      · intro x
        rw [x]
    rw [he]
    simp only [Result.andThen_ok]
    have ih := run_eqItems_u8 d w a b hab is (fun j hj => h j (by simp [hj]))
    cases hc : (a[i] == b[i])
    · have h1 : (some a[i] == some b[i]) = false := by simpa using hc
      simp [h1, List.getElem?_eq_getElem hi, List.getElem?_eq_getElem hi']
    · simp only [Bool.not_true, Bool.false_eq_true, if_false, List.all_cons, List.getElem?_eq_getElem hi, List.getElem?_eq_getElem hi']
      rw [ih]
      have : (some a[i] == some b[i]) = true := by simpa using hc
      rw [this, Bool.true_and]
set_option maxRecDepth 100000 in
theorem run_eql_sec (w : World) (a b : List UInt8) (ha : a.length = 128) (hb : b.length = 128) : (binOp .eql 65 (secV a) (secV b)).run Try.prog w = .ok (.bool (decide (a = b))) w := by
  unfold secV
  obtain ⟨i0, hi0, _⟩ := Option.map_eq_some_iff.1 info_u8
  rw [run_eql_struct, run_equalIn_array w 9999 _ _ Try.underlying65 hi0, cells_u8, run_eqItems_u8 9998 w a b (by omega) _ (by simp [ha])]
  simp only [Result.andThen]
  congr 2
  have : (List.range 128).all (fun i => a[i]? == b[i]?) = decide (a = b) := by
    rw [Bool.eq_iff_iff]
    simp only [List.all_eq_true, List.mem_range, beq_iff_eq, decide_eq_true_eq]
    constructor
    · intro h
      apply List.ext_getElem?
      intro i
      by_cases hi : i < 128
      · exact h i hi
      · rw [List.getElem?_eq_none (by omega), List.getElem?_eq_none (by omega)]
    · intro h i _
      rw [h]
  rw [this]
end Go.Proofs.Ytgdedgfohjplmaa.Sec

/- A sector goes into a map: sectors.put. -/
namespace Go.Proofs.Ytgdedgfohjplmaa.Sec
open Go.RowKit Go.Maps

/-- A write's value, and its cells. (Plain names: the walk does not look into them.) -/
def wrA (i : Nat) (l : List UInt8) : Array Value := (Value.int .i64 (i : Int) :: u8s l).toArray
theorem zero_sec (w : World) : (zeroValue 65).run Try.prog w = .ok (.agg (u8s noughts).toArray) w := by kernel_rfl
theorem guard_sec : Try.prog.eqGuardType Try.prog.depth 65 = false := by kernel_rfl
theorem size_sec : (Try.prog.info? 65).map (·.size) = some 128 := by kernel_rfl
theorem cell_new (w : World) (C : Array Value) (t : TypeId) (j : Nat) : (w.alloc (.cells C t)).cell? ⟨w.heap.size, j, none⟩ = C[j]? := by
  have hb : (w.alloc (.cells C t)).heap[w.heap.size]? = some (.cells C t) := (MapKept.heap_alloc w _).1
  simp only [World.cell?, hb]
  rfl
theorem wr_cell0 (w : World) (i : Nat) (l : List UInt8) : (w.alloc (.cells (wrA i l) 71)).cell? ⟨w.heap.size, 0, none⟩ = some (.int .i64 (i : Int)) := by
  rw [cell_new]; simp [wrA]
theorem wr_range (w : World) (i : Nat) (l : List UInt8) : (w.alloc (.cells (wrA i l) 71)).rangeAt w.heap.size 1 (u8s l) := fun j v hv => by
  rw [cell_new, Nat.add_comm]
  simp [wrA]
  exact hv
theorem wpList_load_sec {ops : Array Oper} {rest : List Oper} {op : Oper} {a : Act} {w : World} {Q : Exit → Act → World → Prop} (hgd : op.guard = none) (x : Operand) (ho : op.op = .load 65 x)
    (b o : Nat) (hx : a.eval x = .pointer (some ⟨b, o, none⟩)) (l : List UInt8) (hl : l.length = 128) (hc : w.rangeAt b o (u8s l))
    (h : wpList Try.prog ops Q rest (a.put op.dst (secV l)) w) : wpList Try.prog ops Q (op :: rest) a w :=
  wpList_load_mid hgd _ x ho b o hx (u8s l) _ hc Try.underlying65 rfl (by rw [size_sec, u8s_length, hl]) h

set_option maxRecDepth 100000 in
set_option maxHeartbeats 2000000 in
theorem put_at (m N i : Nat) (f : Nat → List UInt8) (l : List UInt8) (w : World) (hi : i < N) (hN : N ≤ 16384) (hl : l.length = 128) (h : SecMap w m N f) :
    Calls Try.prog 38 #[.map (some m), .agg (wrA i l)] w fun e w' => e = .returned (.tuple #[]) ∧ SecMap w' m N (upd f i l) ∧ w.grownBy w' (some m) := by
  obtain ⟨n, D, hn, hown, hk, hf⟩ := h
  have hzs := zero_sec
  have hgu : ∀ w' x y, (eqGuard .eql 65 x y (secV l) (.agg (u8s noughts).toArray)).run Try.prog w' = .ok () w' := fun w' x y => run_eqGuard_agg w' _ _ x y _ _ guard_sec
  have HR := Lib.hid (wr_range w i l)
  have HL := Lib.hid hl
  have hc0 := wr_cell0 w i l
  have hkey := keyOf_nat (i := i) (by omega)
  have hma := hown.canon intKeyed
  have hma' : IsMap D := let ⟨es, e, _⟩ := hma; ⟨es, e⟩
  have hown0 := hown.alloc (.cells (wrA i l) 71)
  have hg0 := World.grownBy_alloc w (.cells (wrA i l) 71) none
  by_cases hz : l = noughts
  · have heq : ∀ w', (binOp .eql 65 (secV l) (.agg (u8s noughts).toArray)).run Try.prog w' = .ok (.bool true) w' := fun w' => by rw [show Value.agg (u8s noughts).toArray = secV noughts from rfl, run_eql_sec w' l noughts hl noughts_length, decide_eq_true hz]
    have HZ := Lib.hid hz
    clear hma hz
    go_enter Try.func38, Try.ntmps38
    go_wp2_with (first
      | (at_delete; refine wpList_delete_own _ rfl _ _ 48 3 rfl 65 intKeyed Try.underlying48 secR m n D rfl hown0 _ _ rfl hkey ?_; intro w1 hown1 hturn1; go_frame)
      | (refine wpList_load_sec rfl _ rfl w.heap.size 1 rfl l HL.out HR.out ?_; go_frame)
      | go_in)
    refine bodyPost_ret (results_none rfl _ _ _) rfl ?_
    refine ⟨rfl, ?_, (hg0.but _).andThen hturn1.grown (fun j hj => .inr hj)⟩
    rw [HZ.out]
    exact SecMap.del hn hk hf hown1
  · have heq : ∀ w', (binOp .eql 65 (secV l) (.agg (u8s noughts).toArray)).run Try.prog w' = .ok (.bool false) w' := fun w' => by rw [show Value.agg (u8s noughts).toArray = secV noughts from rfl, run_eql_sec w' l noughts hl noughts_length, decide_eq_false hz]
    have HZ := Lib.hid hz
    have hroom : n < maxLen := by unfold maxLen; omega
    clear hz
    go_enter Try.func38, Try.ntmps38
    go_wp2_with (first
      | (at_mapUpdate; refine wpList_mapUpdate_own _ rfl _ _ _ 48 rfl 3 65 intKeyed Try.underlying48 secR m _ _ rfl hown0 hroom _ _ _ rfl rfl hkey _ _ (secR_mk HL.out) ?_; intro w2 hown2 hg2; go_frame)
      | (refine wpList_load_sec rfl _ rfl w.heap.size 1 rfl l HL.out HR.out ?_; go_frame)
      | go_in)
    go_end0
    exact ⟨rfl, SecMap.put hi hk hf hma' hn hown2, (hg0.but _).andThen hg2 (fun j hj => .inr hj)⟩
end Go.Proofs.Ytgdedgfohjplmaa.Sec

/- A disk in memory: the word for it, and the functions that only look at its fields. -/
namespace Go.Proofs.Ytgdedgfohjplmaa.Sec
open Go.RowKit Go.Maps

/-- A disk, as data. -/
structure Dsk where
  n : Nat
  base : Nat → List UInt8
  now : Nat → List UInt8
  wr : List (Nat × List UInt8)
  armed : Option Nat
  off : Bool
/-- Its writes, as cells. -/
def rows (wr : List (Nat × List UInt8)) : List Value := wr.flatMap fun p => (wrA p.1 p.2).toList
/-- How many writes are left, in memory. -/
def ArmedAt (w : World) (S : Nat → Prop) (pa : Option Addr) : Option Nat → Prop
  | none => pa = none
  | some k => ∃ b, pa = some ⟨b, 0, none⟩ ∧ S b ∧ w.heap[b]? = some (.cells #[.int .i64 (k : Int)] 3) ∧ k ≤ 9223372036854775807
/-- The disk D lies at block d; all blocks that it holds are among those of which S is true. -/
def DiskAt (w : World) (S : Nat → Prop) (d : Nat) (D : Dsk) : Prop :=
  D.n ≤ 16384 ∧ (∀ p ∈ D.wr, p.1 < D.n ∧ p.2.length = 128) ∧ ∃ mb mn sv pa, w.heap[d]? = some (.cells #[.int .i64 (D.n : Int), .map (some mb), .map (some mn), sv, .pointer pa, .bool D.off] 52) ∧
    S d ∧ S mb ∧ S mn ∧ mb ≠ mn ∧ SecMap w mb D.n D.base ∧ SecMap w mn D.n D.now ∧ w.ownsRow 0 71 129 sv D.wr.length (rows D.wr) ∧ (∀ g, sv.ownBlock = some g → S g) ∧ ArmedAt w S pa D.armed

/-- From w to w' nothing has turned but blocks of which S is true, and new ones. -/
structure Off (S : Nat → Prop) (w w' : World) : Prop where
  os : w'.os = w.os
  tape : w'.tape = w.tape
  output : w'.output = w.output
  size : w.heap.size ≤ w'.heap.size
  block : ∀ k, k < w.heap.size → ¬ S k → w'.heap[k]? = w.heap[k]?
theorem Off.refl (S : Nat → Prop) (w : World) : Off S w w := ⟨rfl, rfl, rfl, Nat.le_refl _, fun _ _ _ => rfl⟩
theorem Off.trans {S : Nat → Prop} {a b c : World} (h : Off S a b) (k : Off S b c) : Off S a c :=
  ⟨k.os.trans h.os, k.tape.trans h.tape, k.output.trans h.output, Nat.le_trans h.size k.size, fun j hj hs => (k.block j (Nat.lt_of_lt_of_le hj h.size) hs).trans (h.block j hj hs)⟩
theorem Off.mono {S T : Nat → Prop} {a b : World} (h : Off S a b) (hs : ∀ k, k < a.heap.size → S k → T k) : Off T a b := ⟨h.os, h.tape, h.output, h.size, fun k hk ht => h.block k hk (fun x => ht (hs k hk x))⟩
theorem Off.of_grown {S : Nat → Prop} {a b : World} {row : Option Nat} (h : a.grownBy b row) (hs : ∀ k, row = some k → S k) : Off S a b := ⟨h.os, h.tape, h.output, h.size, fun k hk ht => h.block k hk (fun e => ht (hs k e.symm))⟩
theorem Off.below {S : Nat → Prop} {a b : World} {B : Nat} (h : Off S a b) (hB : B ≤ a.heap.size) (hs : ∀ k, k < B → ¬ S k) : Below B a b := ⟨h.os, h.tape, h.output, h.size, fun k hk => h.block k (by omega) (hs k hk)⟩
theorem Off.none {a b : World} (h : Off (fun _ => False) a b) : a.grownBy b none := ⟨h.os, h.tape, h.output, h.size, fun k hk _ => h.block k hk (fun x => x)⟩

theorem cell_blk {w : World} {b : Nat} {C : Array Value} {t : TypeId} (h : w.heap[b]? = some (.cells C t)) (j : Nat) : w.cell? ⟨b, j, none⟩ = C[j]? := by
  simp only [World.cell?, h]
  rfl

def askedN (D : Dsk) (i : Int) : Int := if D.off = true then 20 else if i < 0 ∨ (D.n : Int) ≤ i then 2 else 0

set_option maxHeartbeats 1000000 in
theorem sectors_at (S : Nat → Prop) (d : Nat) (D : Dsk) (w : World) (h : DiskAt w S d D) :
    Calls Try.prog 24 #[.pointer (some ⟨d, 0, none⟩)] w fun e w' => e = .returned (.int .i64 (D.n : Int)) ∧ w = w' := by
  obtain ⟨h1, _, mb, mn, sv, pa, hd, _⟩ := h
  have c0 : w.cell? ⟨d, 0, none⟩ = some (.int .i64 (D.n : Int)) := cell_blk hd 0
  clear hd
  go_enter Try.func24, Try.ntmps24
  go_wp2
  go_ret
  exact ⟨rfl, rfl⟩

set_option maxHeartbeats 1000000 in
theorem writes_at (S : Nat → Prop) (d : Nat) (D : Dsk) (w : World) (h : DiskAt w S d D) :
    Calls Try.prog 13 #[.pointer (some ⟨d, 0, none⟩)] w fun e w' => e = .returned (.int .i64 (D.wr.length : Int)) ∧ w = w' := by
  obtain ⟨_, _, mb, mn, sv, pa, hd, _, _, _, _, _, _, hrow, _⟩ := h
  obtain ⟨A, cap, rfl⟩ : ∃ A cap, sv = .slice A D.wr.length cap := by
    obtain ⟨_, ⟨rfl, e⟩ | ⟨g, cap, _, rfl, _⟩⟩ := hrow
    · exact ⟨none, 0, by rw [e]⟩
    · exact ⟨_, cap, rfl⟩
  have c3 : w.cell? ⟨d, 3, none⟩ = some (.slice A D.wr.length cap) := cell_blk hd 3
  clear hd hrow
  go_enter Try.func13, Try.ntmps13
  go_wp2
  go_ret
  exact ⟨rfl, rfl⟩

set_option maxHeartbeats 1000000 in
theorem off_at (S : Nat → Prop) (d : Nat) (D : Dsk) (w : World) (h : DiskAt w S d D) :
    Calls Try.prog 25 #[.pointer (some ⟨d, 0, none⟩)] w fun e w' => e = .returned (.bool D.off) ∧ w = w' := by
  obtain ⟨_, _, mb, mn, sv, pa, hd, _⟩ := h
  have c5 : w.cell? ⟨d, 5, none⟩ = some (.bool D.off) := cell_blk hd 5
  clear hd
  go_enter Try.func25, Try.ntmps25
  go_wp2
  go_ret
  exact ⟨rfl, rfl⟩

set_option maxHeartbeats 1000000 in
theorem asked_at (S : Nat → Prop) (d : Nat) (D : Dsk) (i : Int) (w : World) (h : DiskAt w S d D) :
    Calls Try.prog 56 #[.pointer (some ⟨d, 0, none⟩), .int .i64 i] w fun e w' => e = .returned (.int .i64 (askedN D i)) ∧ w = w' := by
  obtain ⟨h1, _, mb, mn, sv, pa, hd, _⟩ := h
  have c0 : w.cell? ⟨d, 0, none⟩ = some (.int .i64 (D.n : Int)) := cell_blk hd 0
  have c5 : w.cell? ⟨d, 5, none⟩ = some (.bool D.off) := cell_blk hd 5
  clear hd
  unfold askedN
  cases hoff : D.off
  · rw [hoff] at c5
    by_cases h0 : i < 0
    · have d0 : decide (i < 0) = true := by simp [h0]
      rw [if_neg (by simp), if_pos (.inl h0)]
      clear h0
      go_enter Try.func56, Try.ntmps56
      go_wp2
      go_ret
      exact ⟨rfl, rfl⟩
    · have d0 : decide (i < 0) = false := by simp; omega
      by_cases h2 : (D.n : Int) ≤ i
      · have d1 : decide ((D.n : Int) ≤ i) = true := by simp [h2]
        rw [if_neg (by simp), if_pos (.inr h2)]
        clear h0 h2
        go_enter Try.func56, Try.ntmps56
        go_wp2
        go_ret
        exact ⟨rfl, rfl⟩
      · have d1 : decide ((D.n : Int) ≤ i) = false := by simp; omega
        rw [if_neg (by simp), if_neg (by omega)]
        clear h0 h2
        go_enter Try.func56, Try.ntmps56
        go_wp2
        go_ret
        exact ⟨rfl, rfl⟩
  · rw [hoff] at c5
    rw [if_pos rfl]
    go_enter Try.func56, Try.ntmps56
    go_wp2
    go_ret
    exact ⟨rfl, rfl⟩
end Go.Proofs.Ytgdedgfohjplmaa.Sec

/- The functions that set a disk's fields: Crash, On, Fail; New. -/
namespace Go.Proofs.Ytgdedgfohjplmaa.Sec
open Go.RowKit Go.Maps

theorem SecMap.ne {w : World} {m N d : Nat} {f : Nat → List UInt8} {C : Array Value} {t : TypeId} (h : SecMap w m N f) (hd : w.heap[d]? = some (.cells C t)) : m ≠ d := by
  rintro rfl
  obtain ⟨_, _, _, ⟨es, clock, hb, _⟩, _⟩ := h
  rw [hd] at hb
  cases hb
theorem row_ne {w : World} {B d n : Nat} {sv : Value} {xs : List Value} {C : Array Value} {t e : TypeId} (h : w.ownsRow B e 129 sv n xs) (hd : w.heap[d]? = some (.cells C t)) (hne : t ≠ e) : sv.ownBlock ≠ some d := by
  obtain ⟨_, ⟨rfl, _⟩ | ⟨g, cap, cur, rfl, _, hb, _⟩⟩ := h
  · simp [Value.ownBlock]
  · intro x
    simp [Value.ownBlock] at x
    subst x
    rw [hd] at hb
    injection hb with hb
    injection hb with _ hb
    exact hne hb
theorem row_kept {w w' : World} {B d n : Nat} {sv : Value} {xs : List Value} {e : TypeId} (h : w.ownsRow B e 129 sv n xs) (hg : w.grownBy w' (some d)) (hne : sv.ownBlock ≠ some d) : w'.ownsRow B e 129 sv n xs := by
  refine ⟨h.1, ?_⟩
  rcases h.2 with h2 | ⟨g, cap, cur, rfl, h3, hb, h4⟩
  · exact .inl h2
  · have : g ≠ d := fun x => hne (by simp [Value.ownBlock, x])
    exact .inr ⟨g, cap, cur, rfl, h3, (hg.block g (Array.getElem?_eq_some_iff.1 hb).1 (fun x => this (Option.some.inj x))).trans hb, h4⟩
theorem ArmedAt.kept {w w' : World} {S : Nat → Prop} {d : Nat} {pa : Option Addr} {k : Option Nat} {C : Array Value} {t : TypeId} (h : ArmedAt w S pa k) (hd : w.heap[d]? = some (.cells C t)) (ht : t ≠ 3) (hg : w.grownBy w' (some d)) : ArmedAt w' S pa k := by
  cases k with
  | none => exact h
  | some k =>
    obtain ⟨b, e, hB, hb, hk⟩ := h
    have : b ≠ d := by
      rintro rfl
      rw [hd] at hb
      injection hb with hb
      injection hb with _ hb
      exact ht hb
    exact ⟨b, e, hB, (hg.block b (Array.getElem?_eq_some_iff.1 hb).1 (fun x => this (Option.some.inj x))).trans hb, hk⟩
theorem grown_set (w : World) (d j : Nat) (v : Value) : w.grownBy (w.setCell ⟨d, j, none⟩ v) (some d) :=
  ⟨rfl, rfl, rfl, by simp, fun i _ hi => heap_setCell_other w _ i v (fun x => hi (by rw [x]))⟩
theorem grown_trans {a b c : World} {d : Nat} (h : a.grownBy b (some d)) (k : b.grownBy c (some d)) : a.grownBy c (some d) := h.andThen k (fun _ hj => .inr hj)
theorem grown_off {a b : World} {d : Nat} {S : Nat → Prop} (h : a.grownBy b (some d)) (hS : S d) : Off S a b := Off.of_grown h (fun k e => by cases e; exact hS)
theorem grown_below {a b : World} {d B : Nat} (h : a.grownBy b (some d)) (hB : B ≤ d) (hs : B ≤ a.heap.size) : Below B a b :=
  ⟨h.os, h.tape, h.output, h.size, fun k hk => h.block k (by omega) (fun x => by injection x with x; omega)⟩
theorem frozen_blk {w : World} {b : Nat} {C : Array Value} {t : TypeId} (h : w.heap[b]? = some (.cells C t)) (j : Nat) : w.frozen? ⟨b, j, none⟩ = false := by
  simp only [World.frozen?, h]
  simp

set_option maxHeartbeats 2000000 in
theorem crash_at (S : Nat → Prop) (d : Nat) (D : Dsk) (w : World) (h : DiskAt w S d D) :
    Calls Try.prog 60 #[.pointer (some ⟨d, 0, none⟩)] w fun e w' => e = .returned (.tuple #[]) ∧ DiskAt w' S d { D with armed := none, off := true } ∧ Off S w w' := by
  obtain ⟨h1, h2, mb, mn, sv, pa, hd, hB, hmb, hmn, hne, hsb, hsn, hrow, hos, ha⟩ := h
  have c4 : w.cell? ⟨d, 4, none⟩ = some (.pointer pa) := cell_blk hd 4
  have c5 : w.cell? ⟨d, 5, none⟩ = some (.bool D.off) := cell_blk hd 5
  have z4 := frozen_blk hd 4
  have z5 := frozen_blk hd 5
  have HD := Lib.hid hd
  clear hd
  go_enter Try.func60, Try.ntmps60
  go_wp2
  go_end0
  have hg := grown_trans (grown_set w d 4 (.pointer none)) (grown_set _ d 5 (.bool true))
  have hd1 := heap_setCell_same w d 4 _ _ (.pointer none) HD.out
  have hd2 := heap_setCell_same _ d 5 _ _ (.bool true) hd1
  refine ⟨rfl, ⟨h1, h2, mb, mn, sv, none, by simpa using hd2, hB, hmb, hmn, hne, hsb.kept hg ?_, hsn.kept hg ?_, row_kept hrow hg (row_ne hrow HD.out (by decide)), hos, rfl⟩, grown_off hg hB⟩
  · exact fun x => hsb.ne HD.out (Option.some.inj x)
  · exact fun x => hsn.ne HD.out (Option.some.inj x)

theorem row_grown {w w' : World} {B n : Nat} {sv : Value} {xs : List Value} {e : TypeId} (h : w.ownsRow B e 129 sv n xs) (hg : w.grownBy w' none) : w'.ownsRow B e 129 sv n xs := by
  refine ⟨h.1, ?_⟩
  rcases h.2 with h2 | ⟨g, cap, cur, rfl, h3, hb, h4⟩
  · exact .inl h2
  · exact .inr ⟨g, cap, cur, rfl, h3, (hg.block g (Array.getElem?_eq_some_iff.1 hb).1 (by simp)).trans hb, h4⟩
theorem ArmedAt.grown {w w' : World} {S : Nat → Prop} {pa : Option Addr} {k : Option Nat} (h : ArmedAt w S pa k) (hg : w.grownBy w' none) : ArmedAt w' S pa k := by
  cases k with
  | none => exact h
  | some k =>
    obtain ⟨b, e, hB, hb, hk⟩ := h
    exact ⟨b, e, hB, (hg.block b (Array.getElem?_eq_some_iff.1 hb).1 (by simp)).trans hb, hk⟩
/-- A disk stands while new memory is made. -/
theorem DiskAt.grown {w w' : World} {S : Nat → Prop} {d : Nat} {D : Dsk} (h : DiskAt w S d D) (hg : w.grownBy w' none) : DiskAt w' S d D := by
  obtain ⟨h1, h2, mb, mn, sv, pa, hd, hB, hmb, hmn, hne, hsb, hsn, hrow, hos, ha⟩ := h
  exact ⟨h1, h2, mb, mn, sv, pa, (hg.block d (Array.getElem?_eq_some_iff.1 hd).1 (by simp)).trans hd, hB, hmb, hmn, hne, hsb.kept hg (by simp), hsn.kept hg (by simp), row_grown hrow hg, hos, ha.grown hg⟩
theorem DiskAt.lt {w : World} {S : Nat → Prop} {d : Nat} {D : Dsk} (h : DiskAt w S d D) : d < w.heap.size := by
  obtain ⟨h1, h2, mb, mn, sv, pa, hd, _⟩ := h
  exact (Array.getElem?_eq_some_iff.1 hd).1

end Go.Proofs.Ytgdedgfohjplmaa.Sec

/- A new disk: sectors.New. -/
namespace Go.Proofs.Ytgdedgfohjplmaa.Sec
open Go.RowKit Go.Maps

def freshDisk (n : Nat) : Dsk := ⟨n, fun _ => noughts, fun _ => noughts, [], none, false⟩
set_option maxHeartbeats 2000000 in
theorem new_at (i : Int) (w : World) :
    Calls Try.prog 8 #[.int .i64 i] w fun e w' => ∃ d, e = .returned (.pointer (some ⟨d, 0, none⟩)) ∧ DiskAt w' (fun b => w.heap.size ≤ b) d (freshDisk (max 0 (min 16384 i)).toNat) ∧ Off (fun _ => False) w w' := by
  obtain ⟨n, hn⟩ : ∃ n : Nat, (n : Int) = max 0 (min 16384 i) := ⟨(max 0 (min 16384 i)).toNat, by omega⟩
  obtain ⟨m, hm⟩ : ∃ m : Int, m = min 16384 i := ⟨_, rfl⟩
  have hmn : ∀ (w : World) (ts : Array TypeId) (t : TypeId), (Builtin.min_ ts t #[.int .i64 16384, .int .i64 i]).run Try.prog w = .ok (.int .i64 m) w := fun w ts t => by
    rw [run_min_int2]
    congr 2
    split <;> omega
  have hmx : ∀ (w : World) (ts : Array TypeId) (t : TypeId), (Builtin.max_ ts t #[.int .i64 0, .int .i64 m]).run Try.prog w = .ok (.int .i64 (n : Int)) w := fun w ts t => by
    rw [run_max_int2]
    congr 2
    split <;> omega
  have hmk : ∀ w : World, (Instr.makeMap 48 none).run Try.prog w = .ok (.map (some w.heap.size)) (w.alloc (.map #[] 0)) := fun _ => rfl
  have hn2 : n ≤ 16384 := by omega
  rw [← hn, Int.toNat_natCast]
  clear hn hm
  go_enter Try.func8, Try.ntmps8
  go_wp2
  go_ret
  have s1 : (w.alloc (.map #[] 0)).heap.size = w.heap.size + 1 := World.size_alloc ..
  have s2 : ((w.alloc (.map #[] 0)).alloc (.map #[] 0)).heap.size = w.heap.size + 2 := by rw [World.size_alloc, s1]
  have m1 := ((SecMap.made w n).kept (World.grownBy_alloc _ (.map #[] 0) none) (by simp)).kept (World.grownBy_alloc _ (.cells #[.int .i64 (n : Int), .map (some w.heap.size), .map (some (w.heap.size + 1)), .slice none 0 0, .pointer none, .bool false] 52) none) (by simp)
  have m2 := (SecMap.made (w.alloc (.map #[] 0)) n).kept (World.grownBy_alloc _ (.cells #[.int .i64 (n : Int), .map (some w.heap.size), .map (some (w.heap.size + 1)), .slice none 0 0, .pointer none, .bool false] 52) none) (by simp)
  have hd := (MapKept.heap_alloc ((w.alloc (.map #[] 0)).alloc (.map #[] 0)) (.cells #[.int .i64 (n : Int), .map (some w.heap.size), .map (some (w.heap.size + 1)), .slice none 0 0, .pointer none, .bool false] 52)).1
  rw [s1] at m2
  rw [s2] at hd
  exact ⟨w.heap.size + 2, rfl, ⟨hn2, by simp [freshDisk], w.heap.size, w.heap.size + 1, .slice none 0 0, none, hd, by show _ ≤ _; omega, by show _ ≤ _; omega, by show _ ≤ _; omega, by omega, m1, m2, ⟨rfl, .inl ⟨rfl, rfl⟩⟩, by simp [Value.ownBlock], rfl⟩,
    ((Off.of_grown (World.grownBy_alloc w _ none) (by simp)).trans (Off.of_grown (World.grownBy_alloc _ _ none) (by simp))).trans (Off.of_grown (World.grownBy_alloc _ _ none) (by simp))⟩
end Go.Proofs.Ytgdedgfohjplmaa.Sec

/- A sector is read: sectors.Read. -/
namespace Go.Proofs.Ytgdedgfohjplmaa.Sec
open Go.RowKit Go.Maps

set_option maxRecDepth 100000 in
theorem look_at {w : World} {b N i : Nat} {f : Nat → List UInt8} (h : SecMap w b N f) (hi : i < N) (hN : N ≤ 16384) :
    (f i).length = 128 ∧ (Instr.lookup 48 (.map (some b)) (.int .i64 (i : Int)) false).run Try.prog w = .ok (secV (f i)) w := by
  obtain ⟨n, D, hn, hown, hk, hf⟩ := h
  obtain ⟨v, ps, hrun, hv⟩ := hown.lookup intKeyed Try.underlying48 (zero_sec w) (secR_mk noughts_length) (keyOf_nat (i := i) (by omega))
  rw [hf i hi] at hv
  obtain ⟨l, hl, rfl, e⟩ := secR_inv hv
  have e1 : f i = l := by
    injection e with e1 _
    injection e1 with e1
    injection e1
  rw [e1]
  exact ⟨hl, hrun⟩

theorem wpList_store_sec {ops : Array Oper} {rest : List Oper} {op : Oper} {a : Act} {w : World} {Q : Exit → Act → World → Prop} (hgd : op.guard = none) (x y : Operand) (ho : op.op = .store 65 x y)
    (b o : Nat) (l : List UInt8) (hl : l.length = 128) (hx : a.eval x = .pointer (some ⟨b, o, none⟩)) (hy : a.eval y = secV l) (ht : w.there b o 128)
    (h : wpList Try.prog ops Q rest (a.put op.dst undef) (w.setCells b o (u8s l))) : wpList Try.prog ops Q (op :: rest) a w :=
  wpList_store_mid hgd _ x y ho b o (u8s l).toArray hx hy (by simpa [u8s_length, hl] using ht) (by rw [size_sec]; simp [u8s_length, hl])
    (by simp [u8s]; intro i hi; rfl) (by simpa using h)

theorem there_new (w : World) (C : Array Value) (t : TypeId) (n : Nat) (hn : n ≤ C.size) : (w.alloc (.cells C t)).there w.heap.size 0 n := fun j hj => by
  rw [Nat.zero_add, cell_new]
  exact ⟨by simp; omega, frozen_blk (MapKept.heap_alloc w _).1 j⟩

set_option maxRecDepth 100000 in
set_option maxHeartbeats 2000000 in
theorem read_ok (S : Nat → Prop) (d i : Nat) (D : Dsk) (w : World) (h : DiskAt w S d D) (hi : i < D.n) (ho : D.off = false) :
    Calls Try.prog 42 #[.pointer (some ⟨d, 0, none⟩), .int .i64 (i : Int)] w fun e w' => e = .returned (.tuple #[.slice (some ⟨w.heap.size, 0, none⟩) 128 128, .int .i64 0]) ∧ w' = (w.alloc (.cells (u8s noughts).toArray 65)).setCells w.heap.size 0 (u8s (D.now i)) := by
  have hask := asked_at S d D (i : Int) w h
  rw [show askedN D (i : Int) = 0 by unfold askedN; rw [if_neg (by simp [ho]), if_neg (by omega)]] at hask
  obtain ⟨h1, _, mb, mn, sv, pa, hd, _, _, _, _, _, hsn, _⟩ := h
  obtain ⟨hl, hlk⟩ := look_at hsn hi h1
  have c2 : w.cell? ⟨d, 2, none⟩ = some (.map (some mn)) := cell_blk hd 2
  have hzs := zero_sec
  have HL := Lib.hid hl
  have HT := Lib.hid (there_new w (u8s noughts).toArray 65 128 (by simp [u8s_length, noughts_length]))
  have HA := Lib.hid hask
  clear hd hask hl hsn
  go_enter Try.func42, Try.ntmps42
  go_wp2_with fail
  refine HA.out.mono ?_
  rintro e w' ⟨rfl, rfl⟩
  go_wp2_with (first
    | (refine wpList_store_sec rfl _ _ rfl w.heap.size 0 (D.now i) HL.out rfl rfl HT.out ?_; go_frame)
    | go_in)
  go_ret2
  exact ⟨rfl, rfl⟩
end Go.Proofs.Ytgdedgfohjplmaa.Sec

/- The entries of one map of sectors go into another: maps.Copy; maps.Clone. -/
namespace Go.Proofs.Ytgdedgfohjplmaa.Sec
open Go.RowKit Go.Maps

set_option maxRecDepth 100000 in
theorem grown_cells (w : World) (b : Nat) : ∀ (vs : List Value) (o : Nat), w.grownBy (w.setCells b o vs) (some b)
  | [], _ => ⟨rfl, rfl, rfl, Nat.le_refl _, fun _ _ _ => rfl⟩
  | v :: r, o => grown_trans (grown_set w b o v) (grown_cells _ b r (o + 1))
set_option maxRecDepth 100000 in
theorem grown_new (w : World) (o : Obj) (vs : List Value) (k : Nat) : w.grownBy ((w.alloc o).setCells w.heap.size k vs) none := by
  have h1 := World.grownBy_alloc w o none
  have h2 := grown_cells (w.alloc o) w.heap.size vs k
  exact ⟨h2.os.trans h1.os, h2.tape.trans h1.tape, h2.output.trans h1.output, Nat.le_trans h1.size h2.size, fun j hj _ => (h2.block j (by rw [World.size_alloc]; omega) (fun e => by injection e with e; omega)).trans (h1.block j hj (by simp))⟩
set_option maxRecDepth 100000 in
theorem range_new (w : World) (C : Array Value) (t : TypeId) (vs : List Value) (h : vs.length ≤ C.size) : ((w.alloc (.cells C t)).setCells w.heap.size 0 vs).rangeAt w.heap.size 0 vs :=
  World.rangeAt_setCells_same _ _ _ _ (there_new w C t _ h)

set_option maxRecDepth 100000 in
set_option maxHeartbeats 4000000 in
theorem copy_at (bd bs N : Nat) (g : Nat → List UInt8) (w : World) (hN : N ≤ 16384) (hd : w.ownsMap Try.prog 3 secR bd 0 (.map [])) (hs : SecMap w bs N g) (hne : bd ≠ bs) :
    Calls Try.prog 32 #[.map (some bd), .map (some bs)] w fun e w' => e = .returned (.tuple #[]) ∧ SecMap w' bd N g ∧ w.grownBy w' (some bd) := by
  obtain ⟨ns, Ds, hns, hs, hk, hf⟩ := hs
  have hsz := size_le hs hk
  have hbd := hd.lt
  have hbs := hs.lt
  have hzs := zero_sec
  have hroom : Maps.size Ds ≤ maxLen := by unfold maxLen; omega
  have HSZ := Lib.hid hsz
  have HF := Lib.hid hf
  have HK := Lib.hid hk
  clear hf hk hsz
  go_enter Try.func32, Try.ntmps32
  go_wp2_with (first
    | (at_range; refine wpList_range_own _ rfl _ 48 rfl 3 65 intKeyed Try.underlying48 secR bs ns _ rfl hs ?_; intro w0 hrg0 hg0 hs0)
    | go_in)
  go_frame
  go_loopw [8] (fun _ wr => ∃ (left : Lit → Bool) (cnt : Nat) (Dout : DataW Unit), wr.ranges Try.prog 3 secR bs w.heap.size ns Ds left cnt ∧ cnt ≤ Maps.size Ds ∧
      wr.ownsMap Try.prog 3 secR bd (Maps.size Ds - cnt) Dout ∧ Merged Dout (.map []) Ds left ∧ w.grownBy wr (some bd))
    (fun _ wr => wr.rangeLeft bs w.heap.size)
  case atStart =>
    exact ⟨_, _, .map [], hrg0, Nat.le_refl _, (hd.kept hg0 (by simp)).mono (by omega), merged_start _ Ds, hg0.but _⟩
  case round =>
    obtain ⟨left, cnt, Dout, hrg, hcs, hout, hM, hgw⟩ := hrel
    go_wp2_with (first
      | (at_next; refine wpList_next_ranges _ rfl _ rfl 3 intKeyed secR id id (fun key _ _ => ⟨key, rfl⟩) (fun v _ _ => ⟨v, rfl⟩) bs w.heap.size ns _ _ _ rfl hrg ?_ ?_)
      | go_in)
    · intro hc0 hl0
      go_wp2
      go_end0
      subst hc0
      refine ⟨rfl, ⟨_, Dout, ?_, hout, ?_, ?_⟩, hgw⟩
      · have := HSZ.out
        omega
      · intro k hh
        rw [hM.1 k, hl0 k] at hh
        exact HK.out k (by simpa [has_eq] using hh)
      · intro i hi
        rw [hM.2, hl0]
        cases hh : has Ds (key i)
        · have := HF.out i hi
          have hA : ∀ z, Ds.atKey (key i) z = z := by
            intro z
            obtain ⟨es, rfl, _⟩ := hrg.owns.canon intKeyed
            rw [has_eq, List.any_eq_false] at hh
            simp only [DataW.atKey]
            rw [List.find?_eq_none.2 (fun p hp => by simpa using hh p hp)]
          rw [hA] at this
          rw [← this]
          simp [DataW.atKey]
        · simpa using HF.out i hi
    · intro x c kl yd yp w1 cnt1 hkey hlx hv hat hrg1 hlt hg1 hs1 hen
      have hout1 := hout.kept hg1 (fun e => by have := Option.some.inj e; omega)
      obtain ⟨l, hl, ev, ez⟩ := secR_inv hv
      subst ev
      cases ez
      have HL := Lib.hid hl
      have ht := there_new w1 (u8s noughts).toArray 65 128 (by simp [u8s_length, noughts_length])
      have hgn := grown_new w1 (.cells (u8s noughts).toArray 65) (u8s l) 0
      have hr := range_new w1 (u8s noughts).toArray 65 (u8s l) (by simp [u8s_length, noughts_length, hl])
      rw [hs1] at ht hgn hr
      have HT := Lib.hid ht
      have HR := Lib.hid hr
      have hout2 := hout1.kept hgn (by simp)
      have hrg2 := hrg1.kept hgn (by simp) (by simp)
      have HRG2 := Lib.hid hrg2
      have HGN := Lib.hid hgn
      clear hl hrg2 hgn ht hr
      go_wp2_with (first
        | (at_mapUpdate; refine wpList_mapUpdate_own _ rfl _ _ _ 48 rfl 3 65 intKeyed Try.underlying48 secR bd _ _ rfl hout2 (by omega) _ _ _ rfl rfl hkey _ _ hv ?_; intro w2 hout3 hg2; go_frame)
        | (refine wpList_store_sec rfl _ _ rfl wr.heap.size 0 l HL.out rfl rfl HT.out ?_; go_frame)
        | (refine wpList_load_sec rfl _ rfl wr.heap.size 0 rfl l HL.out HR.out ?_; go_frame)
        | go_in)
      have hrg3 := HRG2.out.kept hg2 (fun e => hne (Option.some.inj e).symm) (fun e => by have := Option.some.inj e; omega)
      go_roundw
      case rel =>
        exact ⟨_, cnt1, _, hrg3, by omega, hout3.mono (by omega), merged_step hM hout.isMap (intKeyed.key hkey) hat, ((hgw.andThen hg1 (fun j hj => .inl (by cases hj; exact Nat.le_refl _))).andThen (HGN.out.but _) (fun j hj => .inr hj)).andThen hg2 (fun j hj => .inr hj)⟩
      case measure => rw [hrg3.left_eq, hrg.left_eq]; exact hlt

set_option maxRecDepth 100000 in
theorem run_eql_map (w : World) (t k e : TypeId) (p : Option Nat) (h : Try.prog.underlying t = some (.map k e)) :
    (binOp .eql t (.map p) (.map none)).run Try.prog w = .ok (.bool p.isNone) w := Go.Proofs.run_eql_map_nil_sl w t k e p h

set_option maxRecDepth 100000 in
set_option maxHeartbeats 2000000 in
theorem clone_at (b N : Nat) (f : Nat → List UInt8) (w : World) (h : SecMap w b N f) :
    Calls Try.prog 37 #[.map (some b)] w fun e w' => e = .returned (.map (some w.heap.size)) ∧ SecMap w' w.heap.size N f ∧ w.grownBy w' none := by
  obtain ⟨n, D, hn, hown, hk, hf⟩ := h
  have hlt := hown.lt
  obtain ⟨es, clock, hb, F, hs, hD⟩ := hown
  have hq := fun w => run_eql_map w 48 _ _ (some b) Try.underlying48
  have fin : SecMap (w.alloc (.map es clock)) w.heap.size N f := ⟨n, D, hn, ⟨es, clock, (MapKept.heap_alloc w _).1, F, hs, hD⟩, hk, hf⟩
  have FIN := Lib.hid fin
  clear fin hk hf F hs hD
  go_enter Try.func37, Try.ntmps37
  go_wp2

  rw [run_callFunc_extern Try.func49 (by kernel_rfl) (by kernel_rfl) (by kernel_rfl) (e := Extern.MapsClone.clone) (by kernel_rfl), Go.Proofs.run_maps_clone_sl w 48 hb]
  simp only [Result.andThen]
  rw [Oper.upon_value]
  go_wp2
  rw [Go.Proofs.run_typeAssert_map_sl _ 48 20 _ _ _ Try.underlying48]
  simp only [Result.andThen]
  rw [Oper.upon_value]
  go_wp2
  go_ret
  exact ⟨rfl, FIN.out, World.grownBy_alloc w _ none⟩
end Go.Proofs.Ytgdedgfohjplmaa.Sec

/- The operations of a write: its value is made, laid, appended. -/
namespace Go.Proofs.Ytgdedgfohjplmaa.Sec
open Go.RowKit Go.Maps

set_option maxRecDepth 100000 in
theorem zero_wr (w : World) : (zeroValue 71).run Try.prog w = .ok (.agg (wrA 0 noughts)) w := by kernel_rfl
set_option maxRecDepth 100000 in
theorem size_wr : (Try.prog.info? 71).map (·.size) = some 129 := by kernel_rfl
set_option maxRecDepth 100000 in
theorem build_wr (w : World) (i : Nat) : (Instr.build 71 #[(0, .int .i64 (i : Int))]).run Try.prog w = .ok (.agg (wrA i noughts)) w := by kernel_rfl
set_option maxRecDepth 100000 in
theorem info_wr : (Try.prog.info? 71).map (fun i => (i.zero, i.size, i.bytes)) = some (some (.agg (wrA 0 noughts)), 129, 136) := by kernel_rfl
set_option maxRecDepth 100000 in
theorem wrA_size (i : Nat) (l : List UInt8) : (wrA i l).size = l.length + 1 := by simp [wrA, u8s_length]
set_option maxRecDepth 100000 in
theorem wrA_list (i : Nat) (l : List UInt8) : (wrA i l).toList = .int .i64 (i : Int) :: u8s l := by simp [wrA]
set_option maxRecDepth 100000 in
theorem wrA_one (i : Nat) (l : List UInt8) : ∀ v ∈ (wrA i l).toList, v.oneCell' = true := by
  intro v hv
  rw [wrA_list] at hv
  rcases List.mem_cons.1 hv with rfl | hv
  · rfl
  · simp only [u8s, List.mem_map] at hv
    obtain ⟨c, _, rfl⟩ := hv
    rfl
set_option maxRecDepth 100000 in
theorem u8s_one (l : List UInt8) : ∀ v ∈ u8s l, v.oneCell' = true := by
  intro v hv
  simp only [u8s, List.mem_map] at hv
  obtain ⟨c, _, rfl⟩ := hv
  rfl

set_option maxRecDepth 100000 in
theorem fill_one (cs A : Array Value) (n : Nat) (hn : 0 < n) (h1 : cs.size = n) (h2 : A.size = n) : Instr.fill (fun i => some (i * n, n)) A [(0, .agg cs)] = some cs := by
  have := Great.fill_whole hn [.agg cs] A (by simpa [Value.cells] using h1) (by simpa using h2.symm)
  simpa [Value.cells] using this

set_option maxRecDepth 100000 in
/-- A slice literal of one write. -/
theorem run_one_wr (w : World) (i : Nat) (l : List UInt8) (hl : l.length = 128) : (Instr.buildSlice 49 1 #[(0, .agg (wrA i l))]).run Try.prog w = .ok (.slice (some ⟨w.heap.size, 0, none⟩) 1 1) (w.alloc (.cells (wrA i l) 71)) := by
  obtain ⟨i0, hi0, he⟩ := Option.map_eq_some_iff.1 info_wr
  simp only [Prod.mk.injEq] at he
  refine run_buildSlice w _ _ 1 _ _ i0 _ Try.underlying49 hi0 he.1 (by rw [he.2.1]; decide) (by rw [he.2.1]; decide) ?_
  rw [he.2.1]
  exact fill_one _ _ 129 (by decide) (by rw [wrA_size, hl]) (by simp)

section
variable {P : Program} {ops : Array Oper} {o : Oper} {a : Act} {w : World} {K : Act → World → Prop} {Q : Exit → Act → World → Prop} {E : Prop}
set_option maxRecDepth 100000 in
/-- append to a row that is owned, as one step of a region that draws. -/
theorem step_append_own (hg : o.guard = none) (s x : Operand) (t e : TypeId) (hop : o.op = Op.call { callee := Callee.builtin Builtin.append, args := #[s, x], argTypes := #[t, t] })
    (i : TypeInfo) (z : Value) (size bytes : Nat) (ht : P.underlying t = some (.slice e)) (hi : P.info? e = some i) (hz : i.zero = some z) (hsize : i.size = size) (hby : i.bytes = bytes) (hzs : z.cells.size = size) (hsz : 0 < size)
    (base : Nat) (v : Value) (n : Nat) (xs : List Value) (hown : w.ownsRow base e size v n xs) (hs : a.eval s = v)
    (ad : Addr) (m c : Nat) (news : List Value) (hx : a.eval x = .slice (some ad) m c) (hl : news.length = m * size) (hnews : ∀ j u, news[j]? = some u → w.cell? (ad.add j) = some u) (h1 : ∀ u ∈ news, u.oneCell' = true)
    (h63 : n + m ≤ maxLen) (hbytes : (n + m) * bytes ≤ 140737488355328) (hbase : base ≤ w.heap.size)
    (hK : ∀ v' w', w'.ownsRow base e size v' (n + m) (xs ++ news) → w.grownBy w' v.ownBlock → (v'.ownBlock = v.ownBlock ∨ v'.ownBlock = some w.heap.size) → K (a.put o.dst v') w') :
    if Region.wanted o (yielded ops a.tmps) = true then Oper.wp P o a w K Q else E := by
  have hw : Region.wanted o (yielded ops a.tmps) = true := by simp [Region.wanted, hg]
  rw [if_pos hw]
  obtain ⟨v', w', hrun, hown', hgr, _, hob⟩ := run_append_own_at (P := P) w base t o.type e i z size bytes ht hi hz hsize hby hzs hsz v n xs hown ad m c news hl hnews h1 h63 hbytes hbase
  unfold Oper.wp
  simp [execOp, hop, resolve, invoke, builtin, hs, hx, hrun, Result.andThen]
  exact hK v' w' hown' hgr hob
set_option maxRecDepth 100000 in
/-- An operation that yields a value, as one step of a region that draws. -/
theorem step_wp (hg : o.guard = none) (h : Oper.wp P o a w K Q) : if Region.wanted o (yielded ops a.tmps) = true then Oper.wp P o a w K Q else E := by
  have hw : Region.wanted o (yielded ops a.tmps) = true := by simp [Region.wanted, hg]
  rw [if_pos hw]
  exact h
end
end Go.Proofs.Ytgdedgfohjplmaa.Sec

/- What a write lays: its block; the row of writes, one longer. -/
namespace Go.Proofs.Ytgdedgfohjplmaa.Sec
open Go.RowKit Go.Maps

/-- A slice's bytes, in no block of S. -/
def RowB (w : World) (S : Nat → Prop) (A : Option Addr) (l : List UInt8) : Prop := l = [] ∨ ∃ b off, A = some ⟨b, off, none⟩ ∧ ¬ S b ∧ w.rangeAt b off (u8s l)
set_option maxRecDepth 100000 in
theorem RowB.off {w w' : World} {S : Nat → Prop} {A : Option Addr} {l : List UInt8} (h : RowB w S A l) (hb : Off S w w') : RowB w' S A l := by
  rcases h with h | ⟨b, off, e, hS, hr⟩
  · exact .inl h
  · refine .inr ⟨b, off, e, hS, fun j v hv => ?_⟩
    have := hr j v hv
    exact (World.cell?_of_block (a := ⟨b, off + j, none⟩) (hb.block b (World.block_lt_of_cell? w _ this) hS)).trans this
set_option maxRecDepth 100000 in
theorem RowB.grown {w w' : World} {S : Nat → Prop} {A : Option Addr} {l : List UInt8} (h : RowB w S A l) (hg : w.grownBy w' none) : RowB w' S A l := by
  rcases h with h | ⟨b, off, e, hB, hr⟩
  · exact .inl h
  · refine .inr ⟨b, off, e, hB, fun j v hv => ?_⟩
    exact hg.cell (hr j v hv) (by simp)
/-- A sector's bytes: those that are written, and noughts. -/
def pad (l : List UInt8) : List UInt8 := l ++ List.replicate (128 - l.length) 0
set_option maxRecDepth 100000 in
theorem pad_length (l : List UInt8) (h : l.length ≤ 128) : (pad l).length = 128 := by simp [pad]; omega

/-- A write's block, before its bytes are copied into it, and behind. -/
def wr0 (w : World) (i : Nat) : World := (w.alloc (.cells (wrA 0 noughts) 71)).setCells w.heap.size 0 (wrA i noughts).toList
set_option maxRecDepth 100000 in
theorem wr0_there (w : World) (i : Nat) : (wr0 w i).there w.heap.size 0 129 := by
  refine World.there_setCells ?_ _ _ _
  exact there_new w _ _ _ (by rw [wrA_size, noughts_length]; omega)
set_option maxRecDepth 100000 in
theorem wr0_size (w : World) (i : Nat) : (wr0 w i).heap.size = w.heap.size + 1 := by
  unfold wr0
  have h1 := grown_cells (w.alloc (.cells (wrA 0 noughts) 71)) w.heap.size (wrA i noughts).toList 0
  have h2 : ∀ (vs : List Value) (o : Nat) (w : World) (b : Nat), (w.setCells b o vs).heap.size = w.heap.size := by
    intro vs
    induction vs with
    | nil => intro _ _ _; rfl
    | cons v r ih => intro o w b; simp [World.setCells, ih]
  rw [h2, World.size_alloc]
set_option maxRecDepth 100000 in
theorem laid_size (w : World) (i : Nat) (l : List UInt8) : ((wr0 w i).setCells w.heap.size 1 (u8s l)).heap.size = w.heap.size + 1 := by
  have h2 : ∀ (vs : List Value) (o : Nat) (w : World) (b : Nat), (w.setCells b o vs).heap.size = w.heap.size := by
    intro vs
    induction vs with
    | nil => intro _ _ _; rfl
    | cons v r ih => intro o w b; simp [World.setCells, ih]
  rw [h2, wr0_size]
set_option maxRecDepth 100000 in
theorem wr0_grown (w : World) (i : Nat) : w.grownBy (wr0 w i) none := grown_new w _ _ 0
set_option maxRecDepth 100000 in
theorem laid_grown (w : World) (i : Nat) (l : List UInt8) : w.grownBy ((wr0 w i).setCells w.heap.size 1 (u8s l)) none := by
  have h1 := wr0_grown w i
  have h2 := grown_cells (wr0 w i) w.heap.size (u8s l) 1
  exact ⟨h2.os.trans h1.os, h2.tape.trans h1.tape, h2.output.trans h1.output, Nat.le_trans h1.size h2.size, fun j hj _ => (h2.block j (by rw [wr0_size]; omega) (fun e => by injection e with e; omega)).trans (h1.block j hj (by simp))⟩
set_option maxRecDepth 100000 in
theorem u8s_zero (l : List UInt8) (j : Nat) (h1 : l.length ≤ j) (h2 : j < 128) (hl : l.length ≤ 128) : (u8s (pad l))[j]? = (u8s noughts)[j]? := by
  simp only [u8s, pad, noughts, List.getElem?_map, List.getElem?_append_right h1, List.getElem?_replicate]
  rw [if_pos (by omega), if_pos h2]
set_option maxRecDepth 100000 in
theorem laid (w : World) (i : Nat) (l : List UInt8) (hl : l.length ≤ 128) : ((wr0 w i).setCells w.heap.size 1 (u8s l)).rangeAt w.heap.size 0 (wrA i (pad l)).toList := by
  have ht := wr0_there w i
  have hr : (wr0 w i).rangeAt w.heap.size 0 (wrA i noughts).toList := World.rangeAt_setCells_same _ _ _ _ (by
    have := there_new w (wrA 0 noughts) 71 129 (by rw [wrA_size, noughts_length]; omega)
    simpa [wrA_size, noughts_length] using this)
  intro j v hv
  rw [wrA_list] at hv
  by_cases h0 : j = 0
  · subst h0
    rw [World.cell?_setCells_out _ _ _ _ _ (fun _ _ => .inl (by simp))]
    exact hr 0 v (by rw [wrA_list]; simpa using hv)
  · obtain ⟨q, rfl⟩ : ∃ q, j = q + 1 := ⟨j - 1, by omega⟩
    rw [List.getElem?_cons_succ] at hv
    by_cases hq : q < l.length
    · have := World.rangeAt_setCells_same (wr0 w i) w.heap.size 1 (u8s l) (fun j hj => by
        have := ht (1 + j) (by simp [u8s_length] at hj; omega)
        rwa [Nat.zero_add] at this) q v (by
          rw [← hv]
          simp only [u8s, pad, List.map_append]
          rw [List.getElem?_append_left (by simpa using hq)])
      rwa [show 0 + (q + 1) = 1 + q by omega]
    · rw [World.cell?_setCells_out _ _ _ _ _ (fun _ _ => .inr (by simp [u8s_length]; omega))]
      refine hr (q + 1) v ?_
      rw [wrA_list, List.getElem?_cons_succ, ← u8s_zero l q (by omega) ?_ hl]
      · exact hv
      · have := (List.getElem?_eq_some_iff.1 hv).1
        rw [u8s_length, pad_length l hl] at this
        exact this

set_option maxRecDepth 100000 in
theorem wpList_store_wr {ops : Array Oper} {rest : List Oper} {op : Oper} {a : Act} {w : World} {Q : Exit → Act → World → Prop} (hgd : op.guard = none) (x y : Operand) (ho : op.op = .store 71 x y)
    (b : Nat) (i : Nat) (l : List UInt8) (hl : l.length = 128) (hx : a.eval x = .pointer (some ⟨b, 0, none⟩)) (hy : a.eval y = .agg (wrA i l)) (ht : w.there b 0 129)
    (h : wpList Try.prog ops Q rest (a.put op.dst undef) (w.setCells b 0 (wrA i l).toList)) : wpList Try.prog ops Q (op :: rest) a w :=
  wpList_store_mid hgd _ x y ho b 0 (wrA i l) hx hy (by simpa [wrA_size, hl] using ht) (by rw [size_wr]; simp [wrA_size, hl])
    (Array.all_eq_true_iff_forall_mem.2 (fun v hv => wrA_one i l v (by simpa using hv))) h
set_option maxRecDepth 100000 in
theorem run_copy_sec (w : World) (ty : TypeId) (g : Nat) (S : Nat → Prop) (A : Option Addr) (l : List UInt8) (cap : Nat) (hl : l.length ≤ 128) (hr : RowB w S A l) (ht : w.there g 0 129) :
    (Builtin.copy_ #[23, 23] ty #[.slice (some ⟨g, 1, none⟩) 128 128, .slice A l.length cap]).run Try.prog w = .ok (goInt l.length) (w.setCells g 1 (u8s l)) := by
  have hsz : (Try.prog.info? 5).map (·.size) = some 1 := by kernel_rfl
  rcases hr with rfl | ⟨b, off, rfl, _, hr⟩
  · exact run_copy_none w _ _ _ _ _ _ 128 128 0 cap Try.underlying23 hsz (by simp)
  · have := run_copy_cells (P := Try.prog) w 23 23 ty 5 g 1 128 128 ⟨b, off, none⟩ l.length cap (u8s l) Try.underlying23 hsz (by rw [u8s_length]; exact (Nat.min_eq_left hl).symm)
      (fun j v hv => by
        have hadd : (⟨b, off, none⟩ : Addr).add j = ⟨b, off + j, none⟩ := by unfold Addr.add; split <;> simp_all
        rw [hadd]
        exact hr j v hv)
      (fun j hj => by have := (ht (1 + j) (by rw [u8s_length] at hj; omega)).1; rwa [Nat.zero_add] at this)
      (fun j hj => by have := (ht (1 + j) (by rw [u8s_length] at hj; omega)).2; rwa [Nat.zero_add] at this) (u8s_one l)
    rwa [u8s_length] at this
set_option maxRecDepth 100000 in
theorem yields_wr {ops : Array Oper} {S : World → Prop} {op : Oper} {a : Act} (hw : Region.wanted op (yielded ops a.tmps) = true) (x : Operand) (ho : op.op = .load 71 x)
    (g : Nat) (hx : a.eval x = .pointer (some ⟨g, 0, none⟩)) (i : Nat) (l : List UInt8) (hl : l.length = 128) (hS : ∀ w, S w → w.rangeAt g 0 (wrA i l).toList) : YieldsIf Try.prog ops S op (.agg (wrA i l)) a := by
  have := yieldsIf_load_mid hw 71 x ho g 0 hx (wrA i l).toList _ hS Try.underlying71 rfl (by rw [size_wr]; simp [wrA_size, hl])
  rwa [Array.toArray_toList] at this
set_option maxRecDepth 100000 in
theorem wpList_load_wr {ops : Array Oper} {rest : List Oper} {op : Oper} {a : Act} {w : World} {Q : Exit → Act → World → Prop} (hgd : op.guard = none) (x : Operand) (ho : op.op = .load 71 x)
    (b o : Nat) (i : Nat) (l : List UInt8) (hl : l.length = 128) (hx : a.eval x = .pointer (some ⟨b, o, none⟩)) (hc : w.rangeAt b o (wrA i l).toList)
    (h : wpList Try.prog ops Q rest (a.put op.dst (.agg (wrA i l))) w) : wpList Try.prog ops Q (op :: rest) a w :=
  wpList_load_mid hgd _ x ho b o hx (wrA i l).toList _ hc Try.underlying71 rfl (by rw [size_wr]; simp [wrA_size, hl]) (by rwa [Array.toArray_toList])
set_option maxRecDepth 100000 in
theorem wp_one_wr {o : Oper} {a : Act} {w : World} {K : Act → World → Prop} {Q : Exit → Act → World → Prop} (x : Operand) (ho : o.op = .buildSlice 49 1 #[(0, x)]) (i : Nat) (l : List UInt8) (hl : l.length = 128) (hx : a.eval x = .agg (wrA i l))
    (h : K (a.put o.dst (.slice (some ⟨w.heap.size, 0, none⟩) 1 1)) (w.alloc (.cells (wrA i l) 71))) : o.wp Try.prog a w K Q := by
  unfold Oper.wp execOp
  have := run_one_wr w i l hl
  simp only [ho, List.map_toArray, List.map_cons, List.map_nil, hx, Sem.run_bind, this, Result.andThen_ok]
  exact h

set_option maxRecDepth 100000 in
theorem ArmedAt.keptBlk {w w' : World} {S : Nat → Prop} {pa : Option Addr} {k : Option Nat} {row : Option Nat} (h : ArmedAt w S pa k) (hg : w.grownBy w' row) (hr : ∀ b, row = some b → ∃ C t, t ≠ 3 ∧ w.heap[b]? = some (.cells C t)) : ArmedAt w' S pa k := by
  cases row with
  | none => exact h.grown hg
  | some b =>
    obtain ⟨C, t, ht, hb⟩ := hr b rfl
    exact h.kept hb ht hg
set_option maxRecDepth 100000 in
theorem SecMap.keptBlk {w w' : World} {m N : Nat} {f : Nat → List UInt8} {row : Option Nat} (h : SecMap w m N f) (hg : w.grownBy w' row) (hr : ∀ b, row = some b → ∃ C t, w.heap[b]? = some (.cells C t)) : SecMap w' m N f := by
  refine h.kept hg (fun e => ?_)
  obtain ⟨C, t, hb⟩ := hr m e.symm
  exact h.ne hb rfl

set_option maxRecDepth 100000 in
/-- The row of writes, one longer: the disk behind the store of the new row. -/
theorem DiskAt.push {w w4 w5 : World} {S : Nat → Prop} {d : Nat} {D : Dsk} {i : Nat} {l : List UInt8} {mb mn : Nat} {sv sv2 : Value} {pa : Option Addr}
    (hd : w.heap[d]? = some (.cells #[.int .i64 (D.n : Int), .map (some mb), .map (some mn), sv, .pointer pa, .bool D.off] 52)) (hB : S d) (hsb : SecMap w mb D.n D.base) (hsn : SecMap w mn D.n D.now)
    (hrow : w.ownsRow 0 71 129 sv D.wr.length (rows D.wr)) (hos : ∀ g, sv.ownBlock = some g → S g) (ha : ArmedAt w S pa D.armed) (hS : ∀ b, w.heap.size ≤ b → S b)
    (hg4 : w.grownBy w4 none) (hown : w5.ownsRow 0 71 129 sv2 (D.wr.length + 1) (rows D.wr ++ (wrA i l).toList)) (hg5 : w4.grownBy w5 sv.ownBlock) (hob : sv2.ownBlock = sv.ownBlock ∨ sv2.ownBlock = some w4.heap.size) :
    w5.heap[d]? = some (.cells #[.int .i64 (D.n : Int), .map (some mb), .map (some mn), sv, .pointer pa, .bool D.off] 52) ∧
    (w5.setCell ⟨d, 3, none⟩ sv2).heap[d]? = some (.cells #[.int .i64 (D.n : Int), .map (some mb), .map (some mn), sv2, .pointer pa, .bool D.off] 52) ∧
    SecMap (w5.setCell ⟨d, 3, none⟩ sv2) mb D.n D.base ∧ SecMap (w5.setCell ⟨d, 3, none⟩ sv2) mn D.n D.now ∧
    (w5.setCell ⟨d, 3, none⟩ sv2).ownsRow 0 71 129 sv2 (D.wr ++ [(i, l)]).length (rows (D.wr ++ [(i, l)])) ∧ (∀ g, sv2.ownBlock = some g → S g) ∧ ArmedAt (w5.setCell ⟨d, 3, none⟩ sv2) S pa D.armed ∧
    Off S w (w5.setCell ⟨d, 3, none⟩ sv2) := by
  have hdlt := (Array.getElem?_eq_some_iff.1 hd).1
  have hd4 := (hg4.block d hdlt (by simp)).trans hd
  have hblk : ∀ b, sv.ownBlock = some b → ∃ C, w4.heap[b]? = some (.cells C 71) := by
    intro b hb
    obtain ⟨_, ⟨e, _⟩ | ⟨g, cap, cur, e, h3, hcur, _⟩⟩ := hrow
    · rw [e] at hb; simp [Value.ownBlock] at hb
    · rw [e] at hb
      simp [Value.ownBlock] at hb
      subst hb
      exact ⟨cur, (hg4.block _ (Array.getElem?_eq_some_iff.1 hcur).1 (by simp)).trans hcur⟩
  have hne5 : some d ≠ sv.ownBlock := by
    intro e
    obtain ⟨C, hb⟩ := hblk d e.symm
    rw [hd4] at hb
    injection hb with hb
    injection hb with _ hb
    exact absurd hb (by decide)
  have hd5 := (hg5.block d (by have := hg4.size; omega) hne5).trans hd4
  have hg6 := grown_set w5 d 3 sv2
  have hd6 := heap_setCell_same w5 d 3 _ _ sv2 hd5
  have hb5 : ∀ b, sv.ownBlock = some b → ∃ C t, w4.heap[b]? = some (.cells C t) := fun b hb => let ⟨C, h⟩ := hblk b hb; ⟨C, _, h⟩
  have hb6 : ∀ b, some d = some b → ∃ C t, w5.heap[b]? = some (.cells C t) := fun b hb => by cases hb; exact ⟨_, _, hd5⟩
  refine ⟨hd5, by simpa using hd6, ((hsb.kept hg4 (by simp)).keptBlk hg5 hb5).keptBlk hg6 hb6, ((hsn.kept hg4 (by simp)).keptBlk hg5 hb5).keptBlk hg6 hb6, ?_, ?_, ?_, ?_⟩
  · have := row_kept hown hg6 (row_ne hown hd5 (by decide))
    rw [List.length_append]
    simpa [rows] using this
  · intro g hg
    rcases hob with e | e
    · exact hos g (e ▸ hg)
    · rw [e] at hg
      cases hg
      exact hS _ hg4.size
  · refine (((ha.grown hg4).keptBlk hg5 ?_).keptBlk hg6 ?_)
    · intro b hb
      obtain ⟨C, h⟩ := hblk b hb
      exact ⟨C, _, by decide, h⟩
    · intro b hb
      cases hb
      exact ⟨_, _, by decide, hd5⟩
  · exact ((Off.of_grown hg4 (by simp)).trans (Off.of_grown hg5 hos)).trans (grown_off hg6 hB)

set_option maxRecDepth 100000 in
theorem drew_grown (w : World) (row : Option Nat) : w.grownBy w.drew row := ⟨rfl, rfl, rfl, Nat.le_refl _, fun _ _ _ => rfl⟩
set_option maxRecDepth 100000 in
theorem drew_alloc_grown (w : World) (o : Obj) (row : Option Nat) : w.grownBy (w.drew.alloc o) row := (drew_grown w row).andThen (World.grownBy_alloc w.drew o row) (fun _ hj => .inr hj)
set_option maxRecDepth 100000 in
/-- The map of what is now has turned. -/
theorem disk_now {w w' : World} {S : Nat → Prop} {d : Nat} {D : Dsk} {f : Nat → List UInt8} {mb mn : Nat} {sv : Value} {pa : Option Addr} (h1 : D.n ≤ 16384) (h2 : ∀ p ∈ D.wr, p.1 < D.n ∧ p.2.length = 128)
    (hd : w.heap[d]? = some (.cells #[.int .i64 (D.n : Int), .map (some mb), .map (some mn), sv, .pointer pa, .bool D.off] 52)) (hB : S d) (hmb : S mb) (hmn : S mn) (hne : mb ≠ mn) (hsb : SecMap w mb D.n D.base) (hsn : SecMap w mn D.n D.now)
    (hrow : w.ownsRow 0 71 129 sv D.wr.length (rows D.wr)) (hos : ∀ g, sv.ownBlock = some g → S g) (ha : ArmedAt w S pa D.armed) (hg : w.grownBy w' (some mn)) (hsn' : SecMap w' mn D.n f) :
    DiskAt w' S d { D with now := f } ∧ Off S w w' := by
  have hdn : d ≠ mn := fun e => hsn.ne hd e.symm
  have hdlt := (Array.getElem?_eq_some_iff.1 hd).1
  refine ⟨⟨h1, h2, mb, mn, sv, pa, (hg.block d hdlt (fun e => hdn (Option.some.inj e))).trans hd, hB, hmb, hmn, hne, hsb.kept hg (fun e => hne (Option.some.inj e)), hsn', ?_, hos, ?_⟩, grown_off hg hmn⟩
  · refine row_kept hrow hg ?_
    intro e
    obtain ⟨_, ⟨rfl, _⟩ | ⟨g, cap, cur, rfl, _, hb, _⟩⟩ := hrow
    · simp [Value.ownBlock] at e
    · simp [Value.ownBlock] at e
      subst e
      exact hsn.ne hb rfl
  · cases hk : D.armed with
    | none => rw [hk] at ha; exact ha
    | some k =>
      rw [hk] at ha
      obtain ⟨b, e, hB, hb, hk⟩ := ha
      refine ⟨b, e, hB, (hg.block b (Array.getElem?_eq_some_iff.1 hb).1 (fun x => ?_)).trans hb, hk⟩
      exact hsn.ne hb (Option.some.inj x).symm
set_option maxRecDepth 100000 in
theorem row_shape {w : World} {B n : Nat} {e : TypeId} {sv : Value} {xs : List Value} (h : w.ownsRow B e 129 sv (n + 1) xs) : ∃ g cap, sv = .slice (some ⟨g, 0, none⟩) (n + 1) cap := by
  obtain ⟨_, ⟨_, e⟩ | ⟨g, cap, _, rfl, _⟩⟩ := h
  · cases e
  · exact ⟨g, cap, rfl⟩
end Go.Proofs.Ytgdedgfohjplmaa.Sec
