/- The numbers that the walks of the check of bytes show, as rests: each arithmetic form of the program and of the document's answer is the plain law's. No program in sight. -/
import Derived.WalkKit
import Derived.Test.YtdabdneeckjdoaaCrcMath
namespace Go.Proofs.Ytdabdneeckjdoaa.Crc
open Go.RowKit

/-- A rest as Go's number. (A plain name: the walk does not look into it.) -/
def u (r : BitVec 32) : Int := (r.toNat : Int)
theorem u_lo (r : BitVec 32) : 0 ≤ u r := by unfold u; omega
theorem u_hi (r : BitVec 32) : u r ≤ 4294967295 := by have := r.isLt; unfold u; omega
theorem u_inj {r s : BitVec 32} : u r = u s ↔ r = s := by unfold u; rw [Int.natCast_inj]; exact BitVec.toNat_inj
theorem u_of (n : Nat) (h : n < 4294967296) : (n : Int) = u (BitVec.ofNat 32 n) := by
  unfold u; rw [BitVec.toNat_ofNat]; congr 1; exact (Nat.mod_eq_of_lt h).symm
theorem xor_u (a b : BitVec 32) : bits .xor .u32 (u a) (u b) = u (a ^^^ b) := by
  unfold u; rw [u32_xor_nat _ _ a.isLt b.isLt, BitVec.toNat_xor]
theorem and_u (a b : BitVec 32) : bits .and .u32 (u a) (u b) = u (a &&& b) := by
  unfold u; rw [u32_and_nat _ _ a.isLt b.isLt, BitVec.toNat_and]
theorem or_u (a b : BitVec 32) : bits .or .u32 (u a) (u b) = u (a ||| b) := by
  unfold u; rw [u32_or_nat _ _ a.isLt b.isLt, BitVec.toNat_or]
theorem neg_u (a : BitVec 32) : IntKind.u32.wrap (-(u a)) = u (-a) := by
  unfold u; rw [IntKind.wrap_u32', BitVec.toNat_neg]; have := a.isLt; omega
theorem shr_u (a : BitVec 32) (n : Nat) : u a / 2 ^ n = u (a >>> n) := by
  unfold u; rw [BitVec.toNat_ushiftRight, Nat.shiftRight_eq_div_pow]; simp
theorem not_u (a : BitVec 32) : (4294967295 : Int) - u a = u (~~~ a) := by
  unfold u; rw [BitVec.toNat_not]; have := a.isLt; omega

theorem u_fell : (2197175160 : Int) = u fell := by decide
theorem u_one : (1 : Int) = u 1#32 := by decide
theorem half_u (a : BitVec 32) : u a / (2 : Int) = u (a >>> 1) := by have := shr_u a 1; simpa using this
theorem twice_u (a : BitVec 32) : u a * (2 : Int) % (4294967296 : Int) = u (a <<< 1) := by
  unfold u; rw [BitVec.toNat_shiftLeft, Nat.shiftLeft_eq]; omega
theorem negm_u (a : BitVec 32) : -(u a) % (4294967296 : Int) = u (-a) := by rw [← neg_u, IntKind.wrap_u32']
theorem odd_u (a : BitVec 32) : u a % 2 = if a.getLsbD 0 then 1 else 0 := by
  unfold u
  have h : a.getLsbD 0 = decide (a.toNat % 2 = 1) := by
    rw [BitVec.getLsbD, Nat.testBit_zero]
  rw [h]
  split
  · rename_i h; simp at h; omega
  · rename_i h; simp at h; omega
theorem low_bit (r : BitVec 32) : r &&& 1#32 = if r.getLsbD 0 then 1#32 else 0#32 := by
  apply BitVec.eq_of_getLsbD_eq
  intro i hi
  rw [BitVec.getLsbD_and]
  cases h : r.getLsbD 0
  · rcases i with _ | i
    · rw [h]; simp
    · simp
  · rcases i with _ | i
    · rw [h]; simp
    · simp
theorem top_bit (r : BitVec 32) : r >>> 31 = if r.msb then 1#32 else 0#32 := by
  apply BitVec.eq_of_getLsbD_eq
  intro i hi
  rw [BitVec.getLsbD_ushiftRight]
  cases h : r.msb
  · rcases i with _ | i
    · rw [BitVec.msb_eq_getLsbD_last] at h; simp only [Nat.add_zero]; exact h
    · have : r.getLsbD (31 + (i + 1)) = false := BitVec.getLsbD_of_ge _ _ (by omega)
      rw [this]; simp
  · rcases i with _ | i
    · rw [BitVec.msb_eq_getLsbD_last] at h; simp only [Nat.add_zero]; exact h
    · have : r.getLsbD (31 + (i + 1)) = false := BitVec.getLsbD_of_ge _ _ (by omega)
      rw [this]; simp
theorem halved_bv (r : BitVec 32) : (r >>> 1) ^^^ (fell &&& -(r &&& 1#32)) = hv r := by
  rw [low_bit]
  unfold hv
  cases r.getLsbD 0
  · simp
  · congr 1
theorem doubled_bv (r : BitVec 32) : ((r ^^^ (fell &&& -(r >>> 31))) <<< 1) ||| (r >>> 31) = dbl r := by
  rw [top_bit]
  unfold dbl
  cases r.msb
  · simp
  · have : fell &&& -(if true = true then 1#32 else 0#32) = fell := by decide
    rw [this]
    rfl
theorem halved_form (r : BitVec 32) : bits .xor .u32 (u r / 2) (bits .and .u32 2197175160 (-bits .and .u32 (u r) 1 % 4294967296)) = u (hv r) := by
  rw [u_fell, u_one, and_u, negm_u, and_u, half_u, xor_u, halved_bv]
theorem rhalved_no (r : BitVec 32) (h : (u r % 2 == 1) = false) : u r / 2 = u (hv r) := by
  rw [half_u]
  rw [odd_u] at h
  unfold hv
  cases e : r.getLsbD 0
  · simp
  · rw [e] at h; simp at h
theorem rhalved_yes (r : BitVec 32) (h : (u r % 2 == 1) = true) : bits .xor .u32 (u r / 2) 2197175160 = u (hv r) := by
  rw [half_u, u_fell, xor_u]
  rw [odd_u] at h
  unfold hv
  cases e : r.getLsbD 0
  · rw [e] at h; simp at h
  · simp
theorem u_top (r : BitVec 32) : u r / (2147483648 : Int) = u (r >>> 31) := by
  have := shr_u r 31
  rwa [show (2 : Int) ^ 31 = 2147483648 by decide] at this
theorem doubled_form (r : BitVec 32) : bits .or .u32 (bits .xor .u32 (u r) (bits .and .u32 2197175160 (-(u r / 2147483648) % 4294967296)) * 2 % 4294967296) (u r / 2147483648) = u (dbl r) := by
  rw [u_top, negm_u, u_fell, and_u, xor_u, twice_u, or_u, doubled_bv]
/-- The document's doubling: of the two that moving up may make. -/
theorem rdoubled_bv_yes (r : BitVec 32) (h : hv (r <<< 1) = r) : r <<< 1 = dbl r := by rw [← dbl_hv (r <<< 1), h]
theorem rdoubled_bv_no (r : BitVec 32) (h : hv (r <<< 1) ≠ r) : ((r ^^^ fell) <<< 1) ||| 1#32 = dbl r := by
  unfold dbl
  cases e : r.msb
  · exact absurd (hv_shl r e) h
  · rfl
theorem shl_or_one (a : BitVec 32) : u (a <<< 1) + (1 : Int) = u (a <<< 1 ||| 1#32) := by
  have h : (a <<< 1 ||| 1#32) = a <<< 1 + 1#32 := by
    rw [BitVec.add_eq_or_of_and_eq_zero]
    apply BitVec.eq_of_getLsbD_eq
    intro i hi
    rw [BitVec.getLsbD_and]
    rcases i with _ | i
    · simp
    · simp
  rw [h]
  unfold u
  have h2 : (a <<< 1).toNat % 2 = 0 := by rw [BitVec.toNat_shiftLeft, Nat.shiftLeft_eq]; omega
  have := (a <<< 1).isLt
  rw [BitVec.toNat_add, show (1#32).toNat = 1 from rfl]
  omega

theorem rdoubled_yes (r : BitVec 32) (h : (u (hv (r <<< 1)) == u r) = true) : u r * (2 : Int) % (4294967296 : Int) = u (dbl r) := by
  rw [twice_u, rdoubled_bv_yes r (u_inj.1 (by simpa using h))]
theorem rdoubled_no (r : BitVec 32) (h : (u (hv (r <<< 1)) == u r) = false) : bits .xor .u32 (u r) (2197175160 : Int) * (2 : Int) % (4294967296 : Int) + (1 : Int) = u (dbl r) := by
  rw [u_fell, xor_u, twice_u, shl_or_one, rdoubled_bv_no r (fun e => by rw [e] at h; simp at h)]

end Go.Proofs.Ytdabdneeckjdoaa.Crc
