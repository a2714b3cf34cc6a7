/- Four bytes of a number, the lowest first: of one rest they make like ones just if the numbers are like. No program in sight. -/
import Derived.Test.YtdabdneeckjdoaaCrcTool
namespace Go.Proofs.Ytdabdneeckjdoaa.Crc
open Go.RowKit

def leb (x : BitVec 32) (j : Nat) : UInt8 := UInt8.ofNat (x.toNat / 2 ^ (8 * j))
def le4 (x : BitVec 32) (k : Nat) : List UInt8 := (List.range k).map (leb x)
theorem le4_succ (x : BitVec 32) (k : Nat) : le4 x (k + 1) = le4 x k ++ [leb x k] := by simp [le4, List.range_succ]
theorem le4_length (x : BitVec 32) (k : Nat) : (le4 x k).length = k := by simp [le4]
theorem byte_bit (x : BitVec 32) (j i : Nat) : (byte (leb x j)).getLsbD i = (decide (i < 8) && x.getLsbD (8 * j + i)) := by
  unfold byte leb
  rw [BitVec.getLsbD_ofNat]
  have e : (UInt8.ofNat (x.toNat / 2 ^ (8 * j))).toNat = x.toNat / 2 ^ (8 * j) % 2 ^ 8 := by simp
  rw [e, Nat.testBit_mod_two_pow, Nat.testBit_div_two_pow]
  rw [show x.toNat.testBit (i + 8 * j) = x.getLsbD (8 * j + i) by rw [Nat.add_comm]; rfl]
  by_cases h : i < 8
  · simp [h, show i < 32 by omega]
  · simp [h]
theorem shl_bit (y : BitVec 32) (n i : Nat) : (y <<< n).getLsbD i = (decide (i < 32) && !decide (i < n) && y.getLsbD (i - n)) := BitVec.getLsbD_shiftLeft ..
theorem four (x : BitVec 32) : byte (leb x 0) ^^^ (byte (leb x 1) <<< 8) ^^^ ((byte (leb x 2) <<< 8) <<< 8) ^^^ (((byte (leb x 3) <<< 8) <<< 8) <<< 8) = x := by
  apply BitVec.eq_of_getLsbD_eq
  intro i hi
  simp only [BitVec.getLsbD_xor, shl_bit, byte_bit]
  by_cases h1 : i < 8
  · simp [h1, hi]
  · by_cases h2 : i < 16
    · have e1 : 8 * 1 + (i - 8) = i := by omega
      have e2 : i - 8 < 8 := by omega
      simp [h1, hi, e1, e2]
    · by_cases h3 : i < 24
      · have e1 : 8 * 2 + (i - 8 - 8) = i := by omega
        have e2 : i - 8 - 8 < 8 := by omega
        have e3 : ¬ i - 8 < 8 := by omega
        have e4 : i - 8 < 32 := by omega
        simp [h1, hi, e1, e2, e3, e4]
      · have e1 : 8 * 3 + (i - 8 - 8 - 8) = i := by omega
        have e2 : i - 8 - 8 - 8 < 8 := by omega
        have e3 : ¬ i - 8 < 8 := by omega
        have e4 : i - 8 < 32 := by omega
        have e5 : ¬ i - 8 - 8 < 8 := by omega
        have e6 : i - 8 - 8 < 32 := by omega
        simp [h1, hi, e1, e2, e3, e4, e5, e6]
theorem into4 (r x : BitVec 32) : into r (le4 x 4) = times h8 4 (r ^^^ x) := by
  have b1 : h8 (byte (leb x 1) <<< 8) = byte (leb x 1) := h8_shl _ (fun i hi => by rw [byte_bit]; simp; omega)
  have b2 : h8 ((byte (leb x 2) <<< 8) <<< 8) = byte (leb x 2) <<< 8 := h8_shl _ (fun i hi => by rw [shl_bit, byte_bit]; simp; omega)
  have b2' : h8 (byte (leb x 2) <<< 8) = byte (leb x 2) := h8_shl _ (fun i hi => by rw [byte_bit]; simp; omega)
  have b3 : h8 (((byte (leb x 3) <<< 8) <<< 8) <<< 8) = (byte (leb x 3) <<< 8) <<< 8 := h8_shl _ (fun i hi => by rw [shl_bit, shl_bit, byte_bit]; simp; omega)
  have b3' : h8 ((byte (leb x 3) <<< 8) <<< 8) = byte (leb x 3) <<< 8 := h8_shl _ (fun i hi => by rw [shl_bit, byte_bit]; simp; omega)
  have b3'' : h8 (byte (leb x 3) <<< 8) = byte (leb x 3) := h8_shl _ (fun i hi => by rw [byte_bit]; simp; omega)
  show h8 (h8 (h8 (h8 (r ^^^ byte (leb x 0)) ^^^ byte (leb x 1)) ^^^ byte (leb x 2)) ^^^ byte (leb x 3)) = h8 (h8 (h8 (h8 (r ^^^ x))))
  conv => rhs; rw [← four x]
  simp only [h8_xor, b1, b2, b2', b3, b3', b3'']
  simp only [BitVec.xor_assoc]
theorem times_h8_inj (n : Nat) (a b : BitVec 32) : times h8 n a = times h8 n b ↔ a = b := by
  refine ⟨fun h => ?_, fun h => by rw [h]⟩
  have e : ∀ n r, times d8 n (times h8 n r) = r := by
    intro n
    induction n with
    | zero => intro r; rfl
    | succ n ih => intro r; rw [times_succ' h8]; show times d8 n (d8 (h8 _)) = r; rw [show ∀ s, d8 (h8 s) = s from fun s => times_dbl_hv 8 s, ih]
  rw [← e n a, h, e]
theorem more4_inj (m x y : BitVec 32) : more m (le4 x 4) = more m (le4 y 4) ↔ x = y := by
  unfold more
  rw [into4, into4]
  refine ⟨fun h => ?_, fun h => by rw [h]⟩
  have h1 := congrArg (fun z => ~~~ z) h
  simp only [BitVec.not_not] at h1
  have h2 := (times_h8_inj 4 _ _).1 h1
  have h3 := congrArg (fun z => ~~~ m ^^^ z) h2
  simpa [← BitVec.xor_assoc] using h3

theorem beq_u (a b : BitVec 32) : (u a == u b) = decide (a = b) := by
  by_cases h : a = b
  · subst h; simp
  · have : ¬ u a = u b := fun e => h (u_inj.1 e)
    simp [h, this]
theorem more_like (m n : BitVec 32) (l : List UInt8) : (u (more m l) == u (more n l)) = (u m == u n) := by
  rw [beq_u, beq_u]; exact decide_eq_decide.2 (more_inj m n l)
theorem less_like (m n : BitVec 32) (l : List UInt8) : (u (less m l) == u (less n l)) = (u m == u n) := by
  rw [beq_u, beq_u]; exact decide_eq_decide.2 (less_inj m n l)
theorem more4_like (m x y : BitVec 32) : (u (more m (le4 x 4)) == u (more m (le4 y 4))) = (u x == u y) := by
  rw [beq_u, beq_u]; exact decide_eq_decide.2 (more4_inj m x y)
/-- A byte of a number, as the walk reckons it. -/
def lebv (x : BitVec 32) (j : Nat) : Int := ((leb x j).toNat : Int)
theorem leb_form (x : BitVec 32) (j : Nat) : u x / (2 : Int) ^ (8 * j) % 256 = lebv x j := by
  unfold u lebv leb
  rw [UInt8.toNat_ofNat']
  have : ((2 : Int) ^ (8 * j)) = ((2 ^ (8 * j) : Nat) : Int) := by simp
  rw [this]
  omega

end Go.Proofs.Ytdabdneeckjdoaa.Crc
