/- The operations on sectors: told apart, read, made. -/
import Derived.ChangeKeysEq
import Derived.Deep.MidRow
import Derived.Test.YtplnkpbfnpajjaaSecMap
namespace Go.Proofs.Ytplnkpbfnpajjaa.Sec
open Go.RowKit Go.Maps

theorem info_u8 : (Try.prog.info? 5).map (fun i => (i.zero, i.size, i.bytes)) = some (some (.int .u8 0), 1, 1) := by kernel_rfl
theorem cells_u8 : Try.prog.cellsOf 5 = 1 := by kernel_rfl
theorem u8s_get (l : List UInt8) (i : Nat) (h : i < l.length) : (u8s l).toArray[i]? = some (.int .u8 (l[i].toNat : Int)) := by
  simp [u8s, h]
theorem run_part_u8 (w : World) (l : List UInt8) (i : Nat) (h : i < l.length) : (part 5 (u8s l).toArray i).run Try.prog w = .ok (.int .u8 (l[i].toNat : Int)) w := by
  have hu := Try.underlying5
  simp [part, isAgg, run_underlying hu, Result.andThen, u8s_get l i h]
theorem run_eqItems_u8 (d : Nat) (w : World) (a b : List UInt8) (hab : a.length = b.length) : ∀ is : List Nat, (∀ i ∈ is, i < a.length) →
    (Op.eqItems (d + 1) 5 1 (u8s a).toArray (u8s b).toArray is).run Try.prog w = .ok (is.all fun i => a[i]? == b[i]?) w
  | [], _ => by simp [Op.eqItems]
  | i :: is, h => by
    have hi := h i (by simp)
    have hi' : i < b.length := by omega
    have hu := Try.underlying5
    simp only [Op.eqItems, Sem.run_bind, Nat.mul_one, run_part_u8 w a i hi, run_part_u8 w b i hi', Result.andThen_ok]
    have he : (Op.equalIn (d + 1) 5 (.int .u8 (a[i].toNat : Int)) (.int .u8 (b[i].toNat : Int))).run Try.prog w = .ok (a[i] == b[i]) w := by
      rw [run_equalIn_int w d _ .u8 .u8 _ _ hu]
      congr 1
      rw [Bool.eq_iff_iff, beq_iff_eq, beq_iff_eq]
      constructor
      · intro x
        exact UInt8.toNat_inj.1 (by omega)
      · intro x
        rw [x]
    rw [he]
    simp only [Result.andThen_ok]
    have ih := run_eqItems_u8 d w a b hab is (fun j hj => h j (by simp [hj]))
    cases hc : (a[i] == b[i])
    · have h1 : (some a[i] == some b[i]) = false := by simpa using hc
      simp [h1, List.getElem?_eq_getElem hi, List.getElem?_eq_getElem hi']
    · simp only [Bool.not_true, Bool.false_eq_true, if_false, List.all_cons, List.getElem?_eq_getElem hi, List.getElem?_eq_getElem hi']
      rw [ih]
      have : (some a[i] == some b[i]) = true := by simpa using hc
      rw [this, Bool.true_and]
theorem run_eql_sec (w : World) (a b : List UInt8) (ha : a.length = 128) (hb : b.length = 128) : (binOp .eql 53 (secV a) (secV b)).run Try.prog w = .ok (.bool (decide (a = b))) w := by
  unfold secV
  obtain ⟨i0, hi0, _⟩ := Option.map_eq_some_iff.1 info_u8
  rw [run_eql_struct, run_equalIn_array w 9999 _ _ Try.underlying53 hi0, cells_u8, run_eqItems_u8 9998 w a b (by omega) _ (by simp [ha])]
  simp only [Result.andThen]
  congr 2
  have : (List.range 128).all (fun i => a[i]? == b[i]?) = decide (a = b) := by
    rw [Bool.eq_iff_iff]
    simp only [List.all_eq_true, List.mem_range, beq_iff_eq, decide_eq_true_eq]
    constructor
    · intro h
      apply List.ext_getElem?
      intro i
      by_cases hi : i < 128
      · exact h i hi
      · rw [List.getElem?_eq_none (by omega), List.getElem?_eq_none (by omega)]
    · intro h i _
      rw [h]
  rw [this]
end Go.Proofs.Ytplnkpbfnpajjaa.Sec
