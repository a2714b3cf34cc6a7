/- Plain law of the check of bytes: rests as bit vectors, halving and doubling, bytes going in and out, windows. No program in sight. -/
import Derived.WalkKit
import Derived.Deep.Draws
import Derived.WalkSpells
import Derived.WalkLawsBesides
import Derived.WalkMore
import Derived.ScopeJumps
import Derived.Lib.Hide
import Derived.Deep.QuietTactic
import Derived.BigQuiet
import Derived.Test.YtgdedgfohjplmaaProg
namespace Go.Proofs.Ytgdedgfohjplmaa.Crc

def fell : BitVec 32 := 0x82F63B78#32
/-- A rest, halved. -/
def hv (r : BitVec 32) : BitVec 32 := (r >>> 1) ^^^ (if r.getLsbD 0 then fell else 0#32)
/-- The rest that is halved to this one. -/
def dbl (r : BitVec 32) : BitVec 32 := if r.msb then ((r ^^^ fell) <<< 1) ||| 1#32 else r <<< 1

/-- Some number of times. -/
def times (f : BitVec 32 → BitVec 32) : Nat → BitVec 32 → BitVec 32
  | 0, r => r
  | n + 1, r => times f n (f r)
theorem times_succ' (f : BitVec 32 → BitVec 32) (n : Nat) (r : BitVec 32) : times f (n + 1) r = f (times f n r) := by
  induction n generalizing r with
  | zero => rfl
  | succ n ih => show times f (n + 1) (f r) = _; rw [ih]; rfl
theorem times_add (f : BitVec 32 → BitVec 32) (m n : Nat) (r : BitVec 32) : times f (m + n) r = times f m (times f n r) := by
  induction n generalizing r with
  | zero => rfl
  | succ n ih => show times f (m + n) (f r) = _; rw [ih]; rfl

def byte (c : UInt8) : BitVec 32 := BitVec.ofNat 32 c.toNat
def h8 (r : BitVec 32) : BitVec 32 := times hv 8 r
def d8 (r : BitVec 32) : BitVec 32 := times dbl 8 r
def step (r : BitVec 32) (c : UInt8) : BitVec 32 := h8 (r ^^^ byte c)
def unstep (c : UInt8) (r : BitVec 32) : BitVec 32 := d8 r ^^^ byte c
def into (r : BitVec 32) (l : List UInt8) : BitVec 32 := l.foldl step r
def outof (r : BitVec 32) (l : List UInt8) : BitVec 32 := l.foldr unstep r
def more (s : BitVec 32) (l : List UInt8) : BitVec 32 := ~~~ (into (~~~ s) l)
def less (s : BitVec 32) (l : List UInt8) : BitVec 32 := ~~~ (outof (~~~ s) l)
def sum (l : List UInt8) : BitVec 32 := more 0#32 l

theorem xor_ite (p q : Bool) : (if (p ^^ q) then fell else 0#32) = (if p then fell else 0#32) ^^^ (if q then fell else 0#32) := by
  cases p <;> cases q <;> simp
theorem hv_xor (a b : BitVec 32) : hv (a ^^^ b) = hv a ^^^ hv b := by
  unfold hv
  rw [BitVec.getLsbD_xor, xor_ite, BitVec.ushiftRight_xor_distrib]
  ac_rfl
theorem hv_zero : hv 0#32 = 0#32 := by decide

theorem fell_msb : fell.msb = true := by decide
theorem hv_msb (r : BitVec 32) : (hv r).msb = r.getLsbD 0 := by
  unfold hv
  rw [BitVec.msb_xor]
  have h : (r >>> 1).msb = false := by simp [BitVec.msb_ushiftRight]
  rw [h]
  cases r.getLsbD 0
  · simp
  · simp [fell_msb]
theorem shl_shr_lsb (r : BitVec 32) (h : r.getLsbD 0 = false) : (r >>> 1) <<< 1 = r := by
  apply BitVec.eq_of_getLsbD_eq
  intro i hi
  simp only [BitVec.getLsbD_shiftLeft, BitVec.getLsbD_ushiftRight]
  rcases i with _ | i
  · rw [h]; simp
  · simp [hi, Nat.add_comm]
theorem shl_shr_lsb1 (r : BitVec 32) (h : r.getLsbD 0 = true) : (r >>> 1) <<< 1 ||| 1#32 = r := by
  apply BitVec.eq_of_getLsbD_eq
  intro i hi
  simp only [BitVec.getLsbD_or, BitVec.getLsbD_shiftLeft, BitVec.getLsbD_ushiftRight]
  rcases i with _ | i
  · simp [h]
  · simp [hi, Nat.add_comm]
theorem dbl_hv (r : BitVec 32) : dbl (hv r) = r := by
  unfold dbl
  rw [hv_msb]
  cases h : r.getLsbD 0
  · simp only [Bool.false_eq_true, if_false]
    rw [show hv r = r >>> 1 by unfold hv; rw [h]; simp]
    exact shl_shr_lsb r h
  · simp only [if_true]
    rw [show hv r ^^^ fell = r >>> 1 by unfold hv; rw [h]; simp [BitVec.xor_assoc]]
    exact shl_shr_lsb1 r h
theorem shr_shl (r : BitVec 32) (h : r.msb = false) : (r <<< 1) >>> 1 = r := by
  apply BitVec.eq_of_getLsbD_eq
  intro i hi
  simp only [BitVec.getLsbD_shiftLeft, BitVec.getLsbD_ushiftRight]
  rcases Nat.lt_or_ge (i + 1) 32 with h1 | h1
  · simp [Nat.add_comm 1 i, h1]
  · have : i = 31 := by omega
    subst this
    have : r.getLsbD 31 = false := by rw [BitVec.msb_eq_getLsbD_last] at h; exact h
    rw [this]
    simp
theorem shr_shl1 (r : BitVec 32) (h : r.msb = false) : ((r <<< 1) ||| 1#32) >>> 1 = r := by
  have e := shr_shl r h
  rw [BitVec.ushiftRight_or_distrib, e]
  simp
theorem hv_dbl (r : BitVec 32) : hv (dbl r) = r := by
  unfold dbl
  cases h : r.msb
  · simp only [Bool.false_eq_true, if_false]
    unfold hv
    have h0 : (r <<< 1).getLsbD 0 = false := by simp
    rw [h0]
    simp [shr_shl r h]
  · simp only [if_true]
    have hm : (r ^^^ fell).msb = false := by rw [BitVec.msb_xor, h, fell_msb]; rfl
    unfold hv
    have h0 : (((r ^^^ fell) <<< 1) ||| 1#32).getLsbD 0 = true := by simp
    rw [h0, shr_shl1 _ hm]
    simp [BitVec.xor_assoc]

theorem times_xor (n : Nat) (a b : BitVec 32) : times hv n (a ^^^ b) = times hv n a ^^^ times hv n b := by
  induction n generalizing a b with
  | zero => rfl
  | succ n ih => simp only [times, hv_xor, ih]
theorem times_zero (n : Nat) : times hv n 0#32 = 0#32 := by
  induction n with
  | zero => rfl
  | succ n ih => simp only [times, hv_zero, ih]
theorem times_dbl_hv (n : Nat) (r : BitVec 32) : times dbl n (times hv n r) = r := by
  induction n generalizing r with
  | zero => rfl
  | succ n ih => rw [times_succ' hv]; show times dbl n (dbl (hv _)) = r; rw [dbl_hv, ih]
theorem times_hv_dbl (n : Nat) (r : BitVec 32) : times hv n (times dbl n r) = r := by
  induction n generalizing r with
  | zero => rfl
  | succ n ih => rw [times_succ' dbl]; show times hv n (hv (dbl _)) = r; rw [hv_dbl, ih]
theorem h8_xor (a b : BitVec 32) : h8 (a ^^^ b) = h8 a ^^^ h8 b := times_xor 8 a b
theorem xor_cancel (a b : BitVec 32) : (a ^^^ b) ^^^ b = a := by rw [BitVec.xor_assoc]; simp
theorem unstep_step (r : BitVec 32) (c : UInt8) : unstep c (step r c) = r := by
  unfold unstep step d8 h8
  rw [times_dbl_hv, xor_cancel]
theorem step_unstep (r : BitVec 32) (c : UInt8) : step (unstep c r) c = r := by
  unfold unstep step d8 h8
  rw [xor_cancel, times_hv_dbl]
theorem outof_into (r : BitVec 32) (l : List UInt8) : outof (into r l) l = r := by
  induction l generalizing r with
  | nil => rfl
  | cons c l ih => show unstep c (outof (into (step r c) l) l) = r; rw [ih, unstep_step]
theorem into_outof (r : BitVec 32) (l : List UInt8) : into (outof r l) l = r := by
  induction l generalizing r with
  | nil => rfl
  | cons c l ih => show into (step (unstep c (outof r l)) c) l = r; rw [step_unstep, ih]
theorem less_more (s : BitVec 32) (l : List UInt8) : less (more s l) l = s := by
  unfold less more; rw [BitVec.not_not, outof_into, BitVec.not_not]
theorem more_less (s : BitVec 32) (l : List UInt8) : more (less s l) l = s := by
  unfold less more; rw [BitVec.not_not, into_outof, BitVec.not_not]
theorem into_append (r : BitVec 32) (a b : List UInt8) : into r (a ++ b) = into (into r a) b := List.foldl_append ..
theorem outof_append (r : BitVec 32) (a b : List UInt8) : outof r (a ++ b) = outof (outof r b) a := List.foldr_append ..
theorem more_append (s : BitVec 32) (a b : List UInt8) : more s (a ++ b) = more (more s a) b := by
  unfold more; rw [into_append, BitVec.not_not]
theorem less_append (s : BitVec 32) (a b : List UInt8) : less s (a ++ b) = less (less s b) a := by
  unfold less; rw [outof_append, BitVec.not_not]
theorem more_inj (a b : BitVec 32) (l : List UInt8) : more a l = more b l ↔ a = b :=
  ⟨fun h => by have := congrArg (less · l) h; simpa [less_more] using this, fun h => by rw [h]⟩
theorem less_inj (a b : BitVec 32) (l : List UInt8) : less a l = less b l ↔ a = b :=
  ⟨fun h => by have := congrArg (more · l) h; simpa [more_less] using this, fun h => by rw [h]⟩

/-- Noughts going in. -/
def noughts (n : Nat) : List UInt8 := List.replicate n 0
theorem byte_zero : byte 0 = 0#32 := rfl
theorem into_noughts (n : Nat) (r : BitVec 32) : into r (noughts n) = times h8 n r := by
  induction n generalizing r with
  | zero => rfl
  | succ n ih =>
    show into (step r 0) (noughts n) = times h8 n (h8 r)
    rw [ih]
    unfold step
    rw [byte_zero, BitVec.xor_zero]
/-- What goes in is the same in the sum of two rests. -/
theorem into_xor (r s : BitVec 32) (l : List UInt8) : into (r ^^^ s) l = into r l ^^^ into s (noughts l.length) := by
  induction l generalizing r s with
  | nil => rfl
  | cons c l ih =>
    show into (step (r ^^^ s) c) l = into (step r c) l ^^^ into (step s 0) (noughts l.length)
    rw [← ih]
    congr 1
    unfold step
    rw [byte_zero, BitVec.xor_zero, ← h8_xor]
    congr 1
    ac_rfl
theorem times_h8_xor (n : Nat) (a b : BitVec 32) : times h8 n (a ^^^ b) = times h8 n a ^^^ times h8 n b := by
  induction n generalizing a b with
  | zero => rfl
  | succ n ih => simp only [times, h8_xor, ih]
theorem times_h8_zero (n : Nat) : times h8 n 0#32 = 0#32 := by
  induction n with
  | zero => rfl
  | succ n ih => simp only [times]; rw [show h8 0#32 = 0#32 from times_zero 8, ih]

theorem not_eq_xor (a : BitVec 32) : ~~~ a = a ^^^ BitVec.allOnes 32 := BitVec.xor_allOnes.symm
/-- A window's Sum, told by two others. -/
theorem slide (r : BitVec 32) (l : List UInt8) : ~~~ (into (BitVec.allOnes 32) l) = ~~~ (into r l) ^^^ into (~~~ r) (noughts l.length) := by
  have h := into_xor r (~~~ r) l
  rw [show r ^^^ ~~~ r = BitVec.allOnes 32 by rw [not_eq_xor, ← BitVec.xor_assoc]; simp] at h
  rw [h, not_eq_xor, not_eq_xor (into r l)]
  ac_rfl
theorem not_zero32 : ~~~ (0#32) = BitVec.allOnes 32 := by decide
theorem not_ones32 : ~~~ (BitVec.allOnes 32) = 0#32 := by decide

/-- What the beginning leaves, whatever the window. -/
def still (w : Nat) : BitVec 32 := into (BitVec.allOnes 32) (noughts w)
theorem still_eq (l : List UInt8) : sum l ^^^ more (BitVec.allOnes 32) l = still l.length := by
  have h := into_xor 0#32 (BitVec.allOnes 32) l
  rw [BitVec.zero_xor] at h
  unfold sum more still
  rw [not_zero32, not_ones32, h, not_eq_xor, not_eq_xor (into 0#32 l)]
  have : ∀ a b c : BitVec 32, ((a ^^^ b) ^^^ c) ^^^ (a ^^^ c) = b := by
    intro a b c
    calc ((a ^^^ b) ^^^ c) ^^^ (a ^^^ c) = b ^^^ (a ^^^ a) ^^^ (c ^^^ c) := by ac_rfl
      _ = b := by simp
  exact this _ _ _
/-- The window's rest, begun with 0. -/
theorem rest_eq (l : List UInt8) : ~~~ (sum l ^^^ still l.length) = into 0#32 l := by
  have h := into_xor 0#32 (BitVec.allOnes 32) l
  rw [BitVec.zero_xor] at h
  unfold sum more still
  rw [not_zero32, h, not_eq_xor, not_eq_xor]
  have : ∀ a b c : BitVec 32, ((a ^^^ b) ^^^ c) ^^^ b ^^^ c = a := by
    intro a b c
    calc ((a ^^^ b) ^^^ c) ^^^ b ^^^ c = a ^^^ (b ^^^ b) ^^^ (c ^^^ c) := by ac_rfl
      _ = a := by simp
  exact this _ _ _
/-- The next window's Sum. -/
theorem next_eq (a c : UInt8) (l : List UInt8) :
    ~~~ (step (into 0#32 (a :: l)) c) ^^^ still (l.length + 1) ^^^ times h8 (l.length + 2) (byte a) = sum (l ++ [c]) := by
  have h1 : step (into 0#32 (a :: l)) c = into (h8 (byte a)) (l ++ [c]) := by
    rw [into_append]
    show step (into (step 0#32 a) l) c = step (into (h8 (byte a)) l) c
    unfold step
    rw [BitVec.zero_xor]
  have h2 : into (h8 (byte a)) (l ++ [c]) = into 0#32 (l ++ [c]) ^^^ times h8 (l.length + 2) (byte a) := by
    have := into_xor 0#32 (h8 (byte a)) (l ++ [c])
    rw [BitVec.zero_xor] at this
    rw [this, into_noughts]
    simp [times]
  have h3 := into_xor 0#32 (BitVec.allOnes 32) (l ++ [c])
  rw [BitVec.zero_xor] at h3
  unfold sum more still
  rw [h1, h2, not_zero32, h3, not_eq_xor, not_eq_xor, show (l ++ [c]).length = l.length + 1 by simp]
  have : ∀ a b c d : BitVec 32, ((a ^^^ b) ^^^ c) ^^^ d ^^^ b = (a ^^^ d) ^^^ c := by
    intro a b c d
    calc ((a ^^^ b) ^^^ c) ^^^ d ^^^ b = (a ^^^ d) ^^^ c ^^^ (b ^^^ b) := by ac_rfl
      _ = _ := by simp
  exact this _ _ _ _

/-- Bits that are moved down out of eight noughts: nothing falls out. -/
theorem hv_shl (y : BitVec 32) (h : y.msb = false) : hv (y <<< 1) = y := by
  unfold hv
  have h0 : (y <<< 1).getLsbD 0 = false := by simp
  rw [h0, shr_shl y h]
  simp
theorem shl_msb (y : BitVec 32) (n : Nat) (h : ∀ i, 24 ≤ i → y.getLsbD i = false) (hn : n < 8) : (y <<< n).msb = false := by
  rw [BitVec.msb_eq_getLsbD_last, BitVec.getLsbD_shiftLeft, h _ (by omega)]
  simp
theorem h8_shl (y : BitVec 32) (h : ∀ i, 24 ≤ i → y.getLsbD i = false) : h8 (y <<< 8) = y := by
  have key : ∀ k, k ≤ 8 → times hv k (y <<< k) = y := by
    intro k
    induction k with
    | zero => intro _; simp [times]
    | succ k ih =>
      intro hk
      show times hv k (hv (y <<< (k + 1))) = y
      rw [BitVec.shiftLeft_add, hv_shl _ (shl_msb y k h (by omega)), ih (by omega)]
  exact key 8 (by omega)

end Go.Proofs.Ytgdedgfohjplmaa.Crc

/- The numbers that the walks of the check of bytes show, as rests: each arithmetic form of the program and of the document's answer is the plain law's. No program in sight. -/
namespace Go.Proofs.Ytgdedgfohjplmaa.Crc
open Go.RowKit

/-- A rest as Go's number. (A plain name: the walk does not look into it.) -/
def u (r : BitVec 32) : Int := (r.toNat : Int)
theorem u_lo (r : BitVec 32) : 0 ≤ u r := by unfold u; omega
theorem u_hi (r : BitVec 32) : u r ≤ 4294967295 := by have := r.isLt; unfold u; omega
theorem u_inj {r s : BitVec 32} : u r = u s ↔ r = s := by unfold u; rw [Int.natCast_inj]; exact BitVec.toNat_inj
theorem u_of (n : Nat) (h : n < 4294967296) : (n : Int) = u (BitVec.ofNat 32 n) := by
  unfold u; rw [BitVec.toNat_ofNat]; congr 1; exact (Nat.mod_eq_of_lt h).symm
theorem xor_u (a b : BitVec 32) : bits .xor .u32 (u a) (u b) = u (a ^^^ b) := by
  unfold u; rw [u32_xor_nat _ _ a.isLt b.isLt, BitVec.toNat_xor]
theorem and_u (a b : BitVec 32) : bits .and .u32 (u a) (u b) = u (a &&& b) := by
  unfold u; rw [u32_and_nat _ _ a.isLt b.isLt, BitVec.toNat_and]
theorem or_u (a b : BitVec 32) : bits .or .u32 (u a) (u b) = u (a ||| b) := by
  unfold u; rw [u32_or_nat _ _ a.isLt b.isLt, BitVec.toNat_or]
theorem neg_u (a : BitVec 32) : IntKind.u32.wrap (-(u a)) = u (-a) := by
  unfold u; rw [IntKind.wrap_u32', BitVec.toNat_neg]; have := a.isLt; omega
theorem shr_u (a : BitVec 32) (n : Nat) : u a / 2 ^ n = u (a >>> n) := by
  unfold u; rw [BitVec.toNat_ushiftRight, Nat.shiftRight_eq_div_pow]; simp
theorem not_u (a : BitVec 32) : (4294967295 : Int) - u a = u (~~~ a) := by
  unfold u; rw [BitVec.toNat_not]; have := a.isLt; omega

theorem u_fell : (2197175160 : Int) = u fell := by decide
theorem u_one : (1 : Int) = u 1#32 := by decide
theorem half_u (a : BitVec 32) : u a / (2 : Int) = u (a >>> 1) := by have := shr_u a 1; simpa using this
theorem twice_u (a : BitVec 32) : u a * (2 : Int) % (4294967296 : Int) = u (a <<< 1) := by
  unfold u; rw [BitVec.toNat_shiftLeft, Nat.shiftLeft_eq]; omega
theorem negm_u (a : BitVec 32) : -(u a) % (4294967296 : Int) = u (-a) := by rw [← neg_u, IntKind.wrap_u32']
theorem odd_u (a : BitVec 32) : u a % 2 = if a.getLsbD 0 then 1 else 0 := by
  unfold u
  have h : a.getLsbD 0 = decide (a.toNat % 2 = 1) := by
    rw [BitVec.getLsbD, Nat.testBit_zero]
  rw [h]
  split
  · rename_i h; simp at h; omega
  · rename_i h; simp at h; omega
theorem low_bit (r : BitVec 32) : r &&& 1#32 = if r.getLsbD 0 then 1#32 else 0#32 := by
  apply BitVec.eq_of_getLsbD_eq
  intro i hi
  rw [BitVec.getLsbD_and]
  cases h : r.getLsbD 0
  · rcases i with _ | i
    · rw [h]; simp
    · simp
  · rcases i with _ | i
    · rw [h]; simp
    · simp
theorem top_bit (r : BitVec 32) : r >>> 31 = if r.msb then 1#32 else 0#32 := by
  apply BitVec.eq_of_getLsbD_eq
  intro i hi
  rw [BitVec.getLsbD_ushiftRight]
  cases h : r.msb
  · rcases i with _ | i
    · rw [BitVec.msb_eq_getLsbD_last] at h; simp only [Nat.add_zero]; exact h
    · have : r.getLsbD (31 + (i + 1)) = false := BitVec.getLsbD_of_ge _ _ (by omega)
      rw [this]; simp
  · rcases i with _ | i
    · rw [BitVec.msb_eq_getLsbD_last] at h; simp only [Nat.add_zero]; exact h
    · have : r.getLsbD (31 + (i + 1)) = false := BitVec.getLsbD_of_ge _ _ (by omega)
      rw [this]; simp
theorem halved_bv (r : BitVec 32) : (r >>> 1) ^^^ (fell &&& -(r &&& 1#32)) = hv r := by
  rw [low_bit]
  unfold hv
  cases r.getLsbD 0
  · simp
  · congr 1
theorem doubled_bv (r : BitVec 32) : ((r ^^^ (fell &&& -(r >>> 31))) <<< 1) ||| (r >>> 31) = dbl r := by
  rw [top_bit]
  unfold dbl
  cases r.msb
  · simp
  · have : fell &&& -(if true = true then 1#32 else 0#32) = fell := by decide
    rw [this]
    rfl
theorem halved_form (r : BitVec 32) : bits .xor .u32 (u r / 2) (bits .and .u32 2197175160 (-bits .and .u32 (u r) 1 % 4294967296)) = u (hv r) := by
  rw [u_fell, u_one, and_u, negm_u, and_u, half_u, xor_u, halved_bv]
theorem rhalved_no (r : BitVec 32) (h : (u r % 2 == 1) = false) : u r / 2 = u (hv r) := by
  rw [half_u]
  rw [odd_u] at h
  unfold hv
  cases e : r.getLsbD 0
  · simp
  · rw [e] at h; simp at h
theorem rhalved_yes (r : BitVec 32) (h : (u r % 2 == 1) = true) : bits .xor .u32 (u r / 2) 2197175160 = u (hv r) := by
  rw [half_u, u_fell, xor_u]
  rw [odd_u] at h
  unfold hv
  cases e : r.getLsbD 0
  · rw [e] at h; simp at h
  · simp
theorem u_top (r : BitVec 32) : u r / (2147483648 : Int) = u (r >>> 31) := by
  have := shr_u r 31
  rwa [show (2 : Int) ^ 31 = 2147483648 by decide] at this
theorem doubled_form (r : BitVec 32) : bits .or .u32 (bits .xor .u32 (u r) (bits .and .u32 2197175160 (-(u r / 2147483648) % 4294967296)) * 2 % 4294967296) (u r / 2147483648) = u (dbl r) := by
  rw [u_top, negm_u, u_fell, and_u, xor_u, twice_u, or_u, doubled_bv]
/-- The document's doubling: of the two that moving up may make. -/
theorem rdoubled_bv_yes (r : BitVec 32) (h : hv (r <<< 1) = r) : r <<< 1 = dbl r := by rw [← dbl_hv (r <<< 1), h]
theorem rdoubled_bv_no (r : BitVec 32) (h : hv (r <<< 1) ≠ r) : ((r ^^^ fell) <<< 1) ||| 1#32 = dbl r := by
  unfold dbl
  cases e : r.msb
  · exact absurd (hv_shl r e) h
  · rfl
theorem shl_or_one (a : BitVec 32) : u (a <<< 1) + (1 : Int) = u (a <<< 1 ||| 1#32) := by
  have h : (a <<< 1 ||| 1#32) = a <<< 1 + 1#32 := by
    rw [BitVec.add_eq_or_of_and_eq_zero]
    apply BitVec.eq_of_getLsbD_eq
    intro i hi
    rw [BitVec.getLsbD_and]
    rcases i with _ | i
    · simp
    · simp
  rw [h]
  unfold u
  have h2 : (a <<< 1).toNat % 2 = 0 := by rw [BitVec.toNat_shiftLeft, Nat.shiftLeft_eq]; omega
  have := (a <<< 1).isLt
  rw [BitVec.toNat_add, show (1#32).toNat = 1 from rfl]
  omega

theorem rdoubled_yes (r : BitVec 32) (h : (u (hv (r <<< 1)) == u r) = true) : u r * (2 : Int) % (4294967296 : Int) = u (dbl r) := by
  rw [twice_u, rdoubled_bv_yes r (u_inj.1 (by simpa using h))]
theorem rdoubled_no (r : BitVec 32) (h : (u (hv (r <<< 1)) == u r) = false) : bits .xor .u32 (u r) (2197175160 : Int) * (2 : Int) % (4294967296 : Int) + (1 : Int) = u (dbl r) := by
  rw [u_fell, xor_u, twice_u, shl_or_one, rdoubled_bv_no r (fun e => by rw [e] at h; simp at h)]

end Go.Proofs.Ytgdedgfohjplmaa.Crc

/- A row of bytes that is read: words for memory. No program in sight. -/
namespace Go.Proofs.Ytgdedgfohjplmaa.Crc
open Go.RowKit

/-- Byte i of a row, as Go's number. (A plain name: the walk does not look into it.) -/
def at8 (l : List UInt8) (i : Nat) : Int := ((l.getD i 0).toNat : Int)
theorem at8_lo (l : List UInt8) (i : Nat) : 0 ≤ at8 l i := by unfold at8; omega
theorem at8_hi (l : List UInt8) (i : Nat) : at8 l i ≤ 255 := by unfold at8; have := (l.getD i 0).toNat_lt; omega
theorem at8_u (l : List UInt8) (i : Nat) : at8 l i = u (byte (l.getD i 0)) := by
  unfold at8 byte; exact u_of _ (by have := (l.getD i 0).toNat_lt; omega)

/-- The slice at A (of as many bytes as l) reads as l, below block B. -/
def Row8 (w : World) (B : Nat) (A : Option Addr) (l : List UInt8) : Prop :=
  l = [] ∨ ∃ b off, A = some ⟨b, off, none⟩ ∧ b < B ∧ ∀ i, i < l.length → w.cell? ⟨b, off + i, none⟩ = some (.int .u8 (at8 l i))

section
variable {w w' : World} {B B' : Nat} {A : Option Addr} {l : List UInt8}
theorem Row8.nil : Row8 w B A [] := .inl rfl
theorem Row8.at_ (h : Row8 w B A l) (h0 : 0 < l.length) : ∃ b off, A = some ⟨b, off, none⟩ ∧ b < B ∧ ∀ i, i < l.length → w.cell? ⟨b, off + i, none⟩ = some (.int .u8 (at8 l i)) := by
  rcases h with rfl | h
  · exact absurd h0 (by simp)
  · exact h
theorem Row8.keep (h : Row8 w B A l) (hk : ∀ p : Addr, p.block < B → w'.cell? p = w.cell? p) : Row8 w' B A l := by
  rcases h with h | ⟨b, off, e, hb, hc⟩
  · exact .inl h
  · exact .inr ⟨b, off, e, hb, fun i hi => (hk _ hb).trans (hc i hi)⟩
theorem Row8.more (h : Row8 w B A l) (hB : B ≤ B') : Row8 w B' A l := by
  rcases h with h | ⟨b, off, e, hb, hc⟩
  · exact .inl h
  · exact .inr ⟨b, off, e, by omega, hc⟩
theorem Row8.below (h : Row8 w B A l) (hb : Below B w w') : Row8 w' B A l := h.keep fun _ hp => hb.cell hp
theorem Row8.alloc (h : Row8 w B A l) (hB : B ≤ w.heap.size) (o : Obj) : Row8 (w.alloc o) B A l := h.keep fun p hp => World.cell?_alloc_lt w o p (by omega)
end

theorem getD_at (l : List UInt8) (k : Nat) (h : k < l.length) : l.getD k 0 = l[k] := by simp [h]
/-- Byte i of a row, as a rest. (Plain names again: the walk does not look into them.) -/
def by8 (l : List UInt8) (i : Nat) : BitVec 32 := byte (l.getD i 0)
/-- A rest, when the first k bytes have gone in; when all bytes from k on have been taken out. -/
def ink (r : BitVec 32) (l : List UInt8) (k : Nat) : BitVec 32 := into r (l.take k)
def outk (r : BitVec 32) (l : List UInt8) (k : Nat) : BitVec 32 := outof r (l.drop k)
theorem ink_zero (r : BitVec 32) (l : List UInt8) : ink r l 0 = r := rfl
theorem ink_full (r : BitVec 32) (l : List UInt8) : ink r l l.length = into r l := by unfold ink; rw [List.take_length]
theorem ink_succ (r : BitVec 32) (l : List UInt8) (k : Nat) (h : k < l.length) : h8 (ink r l k ^^^ by8 l k) = ink r l (k + 1) := by
  unfold ink by8
  rw [List.take_succ_eq_append_getElem h, into_append, getD_at l k h]
  rfl
theorem outk_zero (r : BitVec 32) (l : List UInt8) : outk r l 0 = outof r l := rfl
theorem outk_full (r : BitVec 32) (l : List UInt8) : outk r l l.length = r := by unfold outk; rw [List.drop_length]; rfl
theorem outk_succ (r : BitVec 32) (l : List UInt8) (k : Nat) (h : k < l.length) : d8 (outk r l (k + 1)) ^^^ by8 l k = outk r l k := by
  unfold outk by8
  rw [List.drop_eq_getElem_cons h, getD_at l k h]
  rfl
theorem at8_by8 (l : List UInt8) (i : Nat) : at8 l i = u (by8 l i) := at8_u l i
theorem xor_at8 (r : BitVec 32) (l : List UInt8) (i : Nat) : bits .xor .u32 (u r) (at8 l i) = u (r ^^^ by8 l i) := by rw [at8_by8, xor_u]
theorem u32_signed : IntKind.u32.signed = false := rfl
theorem not_max_u (r : BitVec 32) : bits .xor .u32 IntKind.u32.max (u r) = u (~~~ r) := by
  rw [show IntKind.u32.max = u (BitVec.allOnes 32) by decide, xor_u, BitVec.xor_comm, BitVec.xor_allOnes]

/-- A stretch of a row: its bytes lie where it begins. -/
theorem Row8.part {w : World} {B b off : Nat} {l : List UInt8} (hb : b < B) (hc : ∀ i, i < l.length → w.cell? ⟨b, off + i, none⟩ = some (.int .u8 (at8 l i))) (k m : Nat) :
    Row8 w B (some ⟨b, off + k, none⟩) ((l.drop k).take m) := by
  refine .inr ⟨b, off + k, rfl, hb, fun i hi => ?_⟩
  have hl : i < m ∧ k + i < l.length := by
    rw [List.length_take, List.length_drop] at hi; omega
  rw [show off + k + i = off + (k + i) by omega, hc _ hl.2]
  unfold at8
  rw [getD_at _ _ hl.2, getD_at _ _ hi]
  simp
theorem Row8.head {w : World} {B b off : Nat} {l : List UInt8} (hb : b < B) (hc : ∀ i, i < l.length → w.cell? ⟨b, off + i, none⟩ = some (.int .u8 (at8 l i))) (m : Nat) :
    Row8 w B (some ⟨b, off, none⟩) (l.take m) := by
  have := Row8.part hb hc 0 m
  rwa [List.drop_zero, Nat.add_zero] at this

end Go.Proofs.Ytgdedgfohjplmaa.Crc

/- The walks of the small functions of the check of bytes: halved, doubled (the program's and the document's), eight: for the seat of the journal. -/
namespace Go.Proofs.Ytgdedgfohjplmaa.Crc
open Go.RowKit

theorem ret_int {k : IntKind} {a b : Int} (h : a = b) : Ending.returned (.int k a) = .returned (.int k b) := by rw [h]

theorem halved_any (r : BitVec 32) (w : World) :
    Calls Try.prog 68 #[.int .u32 (u r)] w fun e w' => e = .returned (.int .u32 (u (hv r))) ∧ w = w' := by
  have h0 := u_lo r
  have h1 := u_hi r
  go_enter Try.func68, Try.ntmps68
  go_wp2
  go_ret
  exact ⟨ret_int (halved_form r), rfl⟩
theorem eight_h (r : BitVec 32) (w : World) :
    Calls Try.prog 67 #[.func (.func 68) #[] #[], .int .u32 (u r)] w fun e w' => e = .returned (.int .u32 (u (h8 r))) ∧ w = w' := by
  have h0 := u_lo r
  have h1 := u_hi r
  go_enter Try.func67, Try.ntmps67
  go_wp2
  refine wp_scope_jumps 0 (fun a' w' => w = w' ∧ ∃ (m : Nat) (s : BitVec 32) (u6 u7 u8 u9 u10 u11 u12 : Value), a' = { tmps := #[.func (.func 68) #[] #[], .int .u32 (u s), undef, undef, .int .u32 0, .int .i64 m, u6, u7, u8, u9, u10, u11, u12, undef], defers := [] } ∧ times hv m s = h8 r ∧ 1 ≤ m ∧ m ≤ 7) (fun a' _ => (intOf (a'.tmps.getD 5 undef)).toNat) rfl ?_ ?_
  · go_wp2
    go_step3
    go_wp2_with (go_at_call 68; refine (halved_any _ _).mono ?_; rintro e w' ⟨rfl, rfl⟩)
    go_step3
    exact ⟨rfl, rfl, 7, hv r, _, _, _, _, _, _, _, rfl, rfl, by omega, by omega⟩
  · rintro a' w' ⟨rfl, m, s, u6, u7, u8, u9, u10, u11, u12, rfl, hs, hm, hm7⟩
    have Hs := Lib.hid hs
    clear hs
    by_cases h : 2 ≤ m
    · go_wp2_with (go_at_call 68; refine (halved_any _ _).mono ?_; rintro e w' ⟨rfl, rfl⟩)
      go_step3
      have e : (m : Int) - 1 = ((m - 1 : Nat) : Int) := by omega
      rw [e]
      refine ⟨rfl, ⟨rfl, m - 1, hv s, _, _, _, _, _, _, _, rfl, ?_, by omega, by omega⟩, ?_⟩
      · rw [← Hs.out]; obtain ⟨k, rfl⟩ : ∃ k, m = k + 1 := ⟨m - 1, by omega⟩; rfl
      · simp [intOf]; omega
    · obtain rfl : m = 1 := by omega
      go_wp2_with (go_at_call 68; refine (halved_any _ _).mono ?_; rintro e w' ⟨rfl, rfl⟩)
      simp only [Exit.jump]
      go_ret
      exact ⟨ret_int (by rw [← Hs.out]; rfl), rfl⟩
end Go.Proofs.Ytgdedgfohjplmaa.Crc

/- The walks of the program's and the document's More, Sum, and of the document's Less. -/
namespace Go.Proofs.Ytgdedgfohjplmaa.Crc
open Go.RowKit
attribute [local go_sem] u32_signed not_max_u xor_u xor_at8

theorem more_any (s : BitVec 32) (A : Option Addr) (l : List UInt8) (cap B : Nat) (w : World) (hl : l.length ≤ 9223372036854775807) (h : Row8 w B A l) :
    Calls Try.prog 66 #[.int .u32 (u s), .slice A l.length cap] w fun e w' => e = .returned (.int .u32 (u (more s l))) ∧ w = w' := by
  have H := Lib.hid h
  clear h
  go_enter Try.func66, Try.ntmps66
  go_wp2
  go_loop [5, 12] (fun r i => ∃ k : Nat, k ≤ l.length ∧ i = .int .i64 k ∧ r = .int .u32 (u (ink (~~~ s) l k))) (fun _ i => l.length - (intOf i).toNat)
  case atStart => exact ⟨0, Nat.zero_le _, rfl, rfl⟩
  case round =>
    obtain ⟨k, hk, rfl, rfl⟩ := hrel
    by_cases hlt : k < l.length
    · obtain ⟨b, off, rfl, _, hc⟩ := H.out.at_ (by omega)
      have hck := hc k hlt
      have hb0 := at8_lo l k
      have hb1 := at8_hi l k
      clear hc H
      go_wp2_with (go_at_call 67; refine (eight_h _ _).mono ?_; rintro e w' ⟨rfl, rfl⟩)
      go_round
      case rel => exact ⟨k + 1, by omega, by go_num, by rw [ink_succ _ _ _ hlt]⟩
      case measure => simp [intOf]; omega
    · obtain rfl : k = l.length := by omega
      go_wp2
      go_ret
      exact ⟨ret_int (by rw [ink_full]; rfl), rfl⟩
theorem sum_any (A : Option Addr) (l : List UInt8) (cap B : Nat) (w : World) (hl : l.length ≤ 9223372036854775807) (h : Row8 w B A l) :
    Calls Try.prog 65 #[.slice A l.length cap] w fun e w' => e = .returned (.int .u32 (u (sum l))) ∧ w = w' := by
  have H := Lib.hid h
  clear h
  go_enter Try.func65, Try.ntmps65
  go_wp2_with fail
  refine (more_any 0#32 A l cap B _ hl H.out).mono ?_
  rintro e w' ⟨rfl, rfl⟩
  go_wp2_with fail
  go_ret
  exact ⟨rfl, rfl⟩
end Go.Proofs.Ytgdedgfohjplmaa.Crc
