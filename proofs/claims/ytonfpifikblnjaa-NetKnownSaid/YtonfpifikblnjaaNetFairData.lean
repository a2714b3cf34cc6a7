/- NetFair: what is sent, delivered, received, as lists; rows of strings. No function in sight. -/
import Derived.Test.YtonfpifikblnjaaNetWorks
namespace Go.Proofs.Ytonfpifikblnjaa.Net
open Go.RowKit

/-- The text of some letters, each behind the other. -/
def tx (ps : List Pk) : List UInt8 := ps.flatMap fun p => p.b ++ [59]
/-- Those for one end. -/
def flt (k : Nat) (ps : List Pk) : List Pk := ps.filter fun p => decide (p.to = (k : Int))
theorem tx_append (a b : List Pk) : tx (a ++ b) = tx a ++ tx b := List.flatMap_append ..
theorem flt_append (k : Nat) (a b : List Pk) : flt k (a ++ b) = flt k a ++ flt k b := List.filter_append ..
theorem bs_append (a b : List UInt8) : bs a ++ bs b = bs (a ++ b) := by
  apply ByteArray.ext
  rw [ByteArray.data_append]
  simp [bs]
/-- A row of strings. -/
def strs (n : Nat) (G : Nat → List UInt8) : List Value := (List.range n).map fun j => strV (G j)
def upd (f : Nat → List UInt8) (i : Nat) (l : List UInt8) : Nat → List UInt8 := fun j => if j = i then l else f j
theorem strs_get (n : Nat) (G : Nat → List UInt8) (j : Nat) (h : j < n) : (strs n G).toArray[j]? = some (strV (G j)) := by simp [strs, h]
theorem strs_set (n : Nat) (G : Nat → List UInt8) (j : Nat) (l : List UInt8) : (strs n G).toArray.setIfInBounds j (strV l) = (strs n (upd G j l)).toArray := by
  simp only [List.setIfInBounds_toArray]
  congr 1
  apply List.ext_getElem?
  intro i
  rw [List.getElem?_set]
  simp only [strs, List.length_map, List.length_range, List.getElem?_map]
  by_cases hi : i < n
  · rw [List.getElem?_range hi]
    by_cases e : j = i
    · subst e
      simp [hi, upd]
    · have e2 : ¬ i = j := fun h => e h.symm
      simp [e, upd, e2]
  · have : (List.range n)[i]? = none := by simp; omega
    rw [this]
    by_cases e : j = i
    · subst e; simp [hi]
    · simp [e]
theorem strs_congr {n : Nat} {F G : Nat → List UInt8} (h : ∀ j, j < n → F j = G j) : strs n F = strs n G := by
  unfold strs
  apply List.map_congr_left
  intro j hj
  rw [h j (by simpa using hj)]

/-- A net whose first j boxes have been emptied. -/
def Nt.upto (D : Nt) (j : Nat) : Nt := ⟨D.n, fun x => if 1 ≤ x ∧ x ≤ j then [] else D.row x⟩
theorem upto_zero (D : Nt) : D.upto 0 = D := by
  cases D
  unfold Nt.upto
  congr 1
  funext x
  rw [if_neg (by omega)]
theorem upto_receive (D : Nt) (j : Nat) (hj : j < D.n) (h1 : (D.row (j + 1)).length ≤ 1) : (D.upto j).receive (j : Int) = ((D.row (j + 1)).head?, D.upto (j + 1)) := by
  have hrow : (D.upto j).row (j + 1) = D.row (j + 1) := if_neg (by omega)
  have his : (D.upto j).is (j : Int) = true := by
    unfold Nt.is
    rw [decide_eq_true (by omega : (0 : Int) ≤ (j : Int)), decide_eq_true (by show (j : Int) < (D.n : Int); omega)]
    rfl
  have hw : (D.upto j).waits (j : Int) = ((D.row (j + 1)).length : Int) := by
    unfold Nt.waits
    rw [if_pos his, Int.toNat_natCast, hrow]
  unfold Nt.receive
  rw [hw]
  match hr : D.row (j + 1), h1 with
  | [], _ =>
    rw [if_pos (by simp)]
    congr 1
    unfold Nt.upto
    congr 1
    funext x
    by_cases e : x = j + 1
    · subst e; rw [if_neg (by omega), if_pos (by omega), hr]
    · by_cases h : 1 ≤ x ∧ x ≤ j
      · rw [if_pos h, if_pos (by omega)]
      · rw [if_neg h, if_neg (by omega)]
  | [p], _ =>
    rw [if_neg (by simp)]
    have hn : (D.upto j).nth (j + 1) 0 = p := by
      unfold Nt.nth
      rw [hrow, hr]
      rfl
    rw [Int.toNat_natCast, hn]
    congr 1
    unfold Nt.less Nt.set
    rw [hrow, hr]
    unfold Nt.upto
    congr 1
    funext x
    by_cases e : x = j + 1
    · subst e; rw [if_pos rfl, if_pos (by omega)]; rfl
    · rw [if_neg e]
      dsimp only
      by_cases h : 1 ≤ x ∧ x ≤ j
      · rw [if_pos h, if_pos (by omega)]
      · rw [if_neg h, if_neg (by omega)]
  | _ :: _ :: _, h => exact absurd h (by simp)
/-- The first letter on the road goes into its box. -/
theorem deliver_first (D : Nt) (h : D.OK) (he : ∀ j, j < D.n → D.row (j + 1) = []) : (D.deliver 0).2.n = D.n ∧ (D.deliver 0).2.row 0 = (D.row 0).drop 1 ∧ ∀ j, j < D.n → (D.deliver 0).2.row (j + 1) = flt j ((D.row 0).take 1) := by
  unfold Nt.deliver
  cases hr : D.row 0 with
  | nil =>
    have h5 : D.there 0 = 5 := by unfold Nt.there; rw [hr]; rfl
    rw [if_neg (by rw [h5]; decide)]
    exact ⟨rfl, hr, fun j hj => by rw [he j hj]; rfl⟩
  | cons p r =>
    have h0 : D.there 0 = 0 := by
      unfold Nt.there
      rw [hr, if_neg]
      simp only [List.length_cons]
      omega
    rw [if_pos h0]
    have hn : D.nth 0 (0 : Int).toNat = p := by unfold Nt.nth; rw [hr]; rfl
    rw [hn]
    obtain ⟨k, hk⟩ : ∃ k : Nat, p.to = (k : Int) := ⟨p.to.toNat, by have := h.to_ p (by rw [hr]; simp); omega⟩
    have hkn : k < D.n := by have := h.to_ p (by rw [hr]; simp); omega
    unfold Nt.boxed
    have hlen : ((D.less 0 (0 : Int).toNat).row (p.to.toNat + 1)).length < 32 := by
      rw [Nt.less_row, if_neg (by omega), hk, Int.toNat_natCast, he k hkn]
      decide
    rw [if_pos hlen]
    refine ⟨rfl, ?_, fun j hj => ?_⟩
    · rw [Nt.more_row, if_neg (by omega), Nt.less_row, if_pos rfl, hr]
      rfl
    · rw [Nt.more_row, hk, Int.toNat_natCast]
      by_cases e : j = k
      · subst e
        rw [if_pos rfl, Nt.less_row, if_neg (by omega), he j hj]
        simp [flt, hk]
      · rw [if_neg (by omega), Nt.less_row, if_neg (by omega), he j hj]
        have : ¬ (k : Int) = (j : Int) := by omega
        simp [flt, hk, this]
end Go.Proofs.Ytonfpifikblnjaa.Net
