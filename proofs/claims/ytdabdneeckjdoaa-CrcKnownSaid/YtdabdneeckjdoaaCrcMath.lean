/- Plain law of the check of bytes: rests as bit vectors, halving and doubling, bytes going in and out, windows. No program in sight. -/
namespace Go.Proofs.Ytdabdneeckjdoaa.Crc

def fell : BitVec 32 := 0x82F63B78#32
/-- A rest, halved. -/
def hv (r : BitVec 32) : BitVec 32 := (r >>> 1) ^^^ (if r.getLsbD 0 then fell else 0#32)
/-- The rest that is halved to this one. -/
def dbl (r : BitVec 32) : BitVec 32 := if r.msb then ((r ^^^ fell) <<< 1) ||| 1#32 else r <<< 1

/-- Some number of times. -/
def times (f : BitVec 32 → BitVec 32) : Nat → BitVec 32 → BitVec 32
  | 0, r => r
  | n + 1, r => times f n (f r)
theorem times_succ' (f : BitVec 32 → BitVec 32) (n : Nat) (r : BitVec 32) : times f (n + 1) r = f (times f n r) := by
  induction n generalizing r with
  | zero => rfl
  | succ n ih => show times f (n + 1) (f r) = _; rw [ih]; rfl
theorem times_add (f : BitVec 32 → BitVec 32) (m n : Nat) (r : BitVec 32) : times f (m + n) r = times f m (times f n r) := by
  induction n generalizing r with
  | zero => rfl
  | succ n ih => show times f (m + n) (f r) = _; rw [ih]; rfl

def byte (c : UInt8) : BitVec 32 := BitVec.ofNat 32 c.toNat
def h8 (r : BitVec 32) : BitVec 32 := times hv 8 r
def d8 (r : BitVec 32) : BitVec 32 := times dbl 8 r
def step (r : BitVec 32) (c : UInt8) : BitVec 32 := h8 (r ^^^ byte c)
def unstep (c : UInt8) (r : BitVec 32) : BitVec 32 := d8 r ^^^ byte c
def into (r : BitVec 32) (l : List UInt8) : BitVec 32 := l.foldl step r
def outof (r : BitVec 32) (l : List UInt8) : BitVec 32 := l.foldr unstep r
def more (s : BitVec 32) (l : List UInt8) : BitVec 32 := ~~~ (into (~~~ s) l)
def less (s : BitVec 32) (l : List UInt8) : BitVec 32 := ~~~ (outof (~~~ s) l)
def sum (l : List UInt8) : BitVec 32 := more 0#32 l

theorem xor_ite (p q : Bool) : (if (p ^^ q) then fell else 0#32) = (if p then fell else 0#32) ^^^ (if q then fell else 0#32) := by
  cases p <;> cases q <;> simp
theorem hv_xor (a b : BitVec 32) : hv (a ^^^ b) = hv a ^^^ hv b := by
  unfold hv
  rw [BitVec.getLsbD_xor, xor_ite, BitVec.ushiftRight_xor_distrib]
  ac_rfl
theorem hv_zero : hv 0#32 = 0#32 := by decide

theorem fell_msb : fell.msb = true := by decide
theorem hv_msb (r : BitVec 32) : (hv r).msb = r.getLsbD 0 := by
  unfold hv
  rw [BitVec.msb_xor]
  have h : (r >>> 1).msb = false := by simp [BitVec.msb_ushiftRight]
  rw [h]
  cases r.getLsbD 0
  · simp
  · simp [fell_msb]
theorem shl_shr_lsb (r : BitVec 32) (h : r.getLsbD 0 = false) : (r >>> 1) <<< 1 = r := by
  apply BitVec.eq_of_getLsbD_eq
  intro i hi
  simp only [BitVec.getLsbD_shiftLeft, BitVec.getLsbD_ushiftRight]
  rcases i with _ | i
  · rw [h]; simp
  · simp [hi, Nat.add_comm]
theorem shl_shr_lsb1 (r : BitVec 32) (h : r.getLsbD 0 = true) : (r >>> 1) <<< 1 ||| 1#32 = r := by
  apply BitVec.eq_of_getLsbD_eq
  intro i hi
  simp only [BitVec.getLsbD_or, BitVec.getLsbD_shiftLeft, BitVec.getLsbD_ushiftRight]
  rcases i with _ | i
  · simp [h]
  · simp [hi, Nat.add_comm]
theorem dbl_hv (r : BitVec 32) : dbl (hv r) = r := by
  unfold dbl
  rw [hv_msb]
  cases h : r.getLsbD 0
  · simp only [Bool.false_eq_true, if_false]
    rw [show hv r = r >>> 1 by unfold hv; rw [h]; simp]
    exact shl_shr_lsb r h
  · simp only [if_true]
    rw [show hv r ^^^ fell = r >>> 1 by unfold hv; rw [h]; simp [BitVec.xor_assoc]]
    exact shl_shr_lsb1 r h
theorem shr_shl (r : BitVec 32) (h : r.msb = false) : (r <<< 1) >>> 1 = r := by
  apply BitVec.eq_of_getLsbD_eq
  intro i hi
  simp only [BitVec.getLsbD_shiftLeft, BitVec.getLsbD_ushiftRight]
  rcases Nat.lt_or_ge (i + 1) 32 with h1 | h1
  · simp [Nat.add_comm 1 i, h1]
  · have : i = 31 := by omega
    subst this
    have : r.getLsbD 31 = false := by rw [BitVec.msb_eq_getLsbD_last] at h; exact h
    rw [this]
    simp
theorem shr_shl1 (r : BitVec 32) (h : r.msb = false) : ((r <<< 1) ||| 1#32) >>> 1 = r := by
  have e := shr_shl r h
  rw [BitVec.ushiftRight_or_distrib, e]
  simp
theorem hv_dbl (r : BitVec 32) : hv (dbl r) = r := by
  unfold dbl
  cases h : r.msb
  · simp only [Bool.false_eq_true, if_false]
    unfold hv
    have h0 : (r <<< 1).getLsbD 0 = false := by simp
    rw [h0]
    simp [shr_shl r h]
  · simp only [if_true]
    have hm : (r ^^^ fell).msb = false := by rw [BitVec.msb_xor, h, fell_msb]; rfl
    unfold hv
    have h0 : (((r ^^^ fell) <<< 1) ||| 1#32).getLsbD 0 = true := by simp
    rw [h0, shr_shl1 _ hm]
    simp [BitVec.xor_assoc]

theorem times_xor (n : Nat) (a b : BitVec 32) : times hv n (a ^^^ b) = times hv n a ^^^ times hv n b := by
  induction n generalizing a b with
  | zero => rfl
  | succ n ih => simp only [times, hv_xor, ih]
theorem times_zero (n : Nat) : times hv n 0#32 = 0#32 := by
  induction n with
  | zero => rfl
  | succ n ih => simp only [times, hv_zero, ih]
theorem times_dbl_hv (n : Nat) (r : BitVec 32) : times dbl n (times hv n r) = r := by
  induction n generalizing r with
  | zero => rfl
  | succ n ih => rw [times_succ' hv]; show times dbl n (dbl (hv _)) = r; rw [dbl_hv, ih]
theorem times_hv_dbl (n : Nat) (r : BitVec 32) : times hv n (times dbl n r) = r := by
  induction n generalizing r with
  | zero => rfl
  | succ n ih => rw [times_succ' dbl]; show times hv n (hv (dbl _)) = r; rw [hv_dbl, ih]
theorem h8_xor (a b : BitVec 32) : h8 (a ^^^ b) = h8 a ^^^ h8 b := times_xor 8 a b
theorem xor_cancel (a b : BitVec 32) : (a ^^^ b) ^^^ b = a := by rw [BitVec.xor_assoc]; simp
theorem unstep_step (r : BitVec 32) (c : UInt8) : unstep c (step r c) = r := by
  unfold unstep step d8 h8
  rw [times_dbl_hv, xor_cancel]
theorem step_unstep (r : BitVec 32) (c : UInt8) : step (unstep c r) c = r := by
  unfold unstep step d8 h8
  rw [xor_cancel, times_hv_dbl]
theorem outof_into (r : BitVec 32) (l : List UInt8) : outof (into r l) l = r := by
  induction l generalizing r with
  | nil => rfl
  | cons c l ih => show unstep c (outof (into (step r c) l) l) = r; rw [ih, unstep_step]
theorem into_outof (r : BitVec 32) (l : List UInt8) : into (outof r l) l = r := by
  induction l generalizing r with
  | nil => rfl
  | cons c l ih => show into (step (unstep c (outof r l)) c) l = r; rw [step_unstep, ih]
theorem less_more (s : BitVec 32) (l : List UInt8) : less (more s l) l = s := by
  unfold less more; rw [BitVec.not_not, outof_into, BitVec.not_not]
theorem more_less (s : BitVec 32) (l : List UInt8) : more (less s l) l = s := by
  unfold less more; rw [BitVec.not_not, into_outof, BitVec.not_not]
theorem into_append (r : BitVec 32) (a b : List UInt8) : into r (a ++ b) = into (into r a) b := List.foldl_append ..
theorem outof_append (r : BitVec 32) (a b : List UInt8) : outof r (a ++ b) = outof (outof r b) a := List.foldr_append ..
theorem more_append (s : BitVec 32) (a b : List UInt8) : more s (a ++ b) = more (more s a) b := by
  unfold more; rw [into_append, BitVec.not_not]
theorem less_append (s : BitVec 32) (a b : List UInt8) : less s (a ++ b) = less (less s b) a := by
  unfold less; rw [outof_append, BitVec.not_not]
theorem more_inj (a b : BitVec 32) (l : List UInt8) : more a l = more b l ↔ a = b :=
  ⟨fun h => by have := congrArg (less · l) h; simpa [less_more] using this, fun h => by rw [h]⟩
theorem less_inj (a b : BitVec 32) (l : List UInt8) : less a l = less b l ↔ a = b :=
  ⟨fun h => by have := congrArg (more · l) h; simpa [more_less] using this, fun h => by rw [h]⟩

/-- Noughts going in. -/
def noughts (n : Nat) : List UInt8 := List.replicate n 0
theorem byte_zero : byte 0 = 0#32 := rfl
theorem into_noughts (n : Nat) (r : BitVec 32) : into r (noughts n) = times h8 n r := by
  induction n generalizing r with
  | zero => rfl
  | succ n ih =>
    show into (step r 0) (noughts n) = times h8 n (h8 r)
    rw [ih]
    unfold step
    rw [byte_zero, BitVec.xor_zero]
/-- What goes in is the same in the sum of two rests. -/
theorem into_xor (r s : BitVec 32) (l : List UInt8) : into (r ^^^ s) l = into r l ^^^ into s (noughts l.length) := by
  induction l generalizing r s with
  | nil => rfl
  | cons c l ih =>
    show into (step (r ^^^ s) c) l = into (step r c) l ^^^ into (step s 0) (noughts l.length)
    rw [← ih]
    congr 1
    unfold step
    rw [byte_zero, BitVec.xor_zero, ← h8_xor]
    congr 1
    ac_rfl
theorem times_h8_xor (n : Nat) (a b : BitVec 32) : times h8 n (a ^^^ b) = times h8 n a ^^^ times h8 n b := by
  induction n generalizing a b with
  | zero => rfl
  | succ n ih => simp only [times, h8_xor, ih]
theorem times_h8_zero (n : Nat) : times h8 n 0#32 = 0#32 := by
  induction n with
  | zero => rfl
  | succ n ih => simp only [times]; rw [show h8 0#32 = 0#32 from times_zero 8, ih]

theorem not_eq_xor (a : BitVec 32) : ~~~ a = a ^^^ BitVec.allOnes 32 := BitVec.xor_allOnes.symm
/-- A window's Sum, told by two others. -/
theorem slide (r : BitVec 32) (l : List UInt8) : ~~~ (into (BitVec.allOnes 32) l) = ~~~ (into r l) ^^^ into (~~~ r) (noughts l.length) := by
  have h := into_xor r (~~~ r) l
  rw [show r ^^^ ~~~ r = BitVec.allOnes 32 by rw [not_eq_xor, ← BitVec.xor_assoc]; simp] at h
  rw [h, not_eq_xor, not_eq_xor (into r l)]
  ac_rfl
theorem not_zero32 : ~~~ (0#32) = BitVec.allOnes 32 := by decide
theorem not_ones32 : ~~~ (BitVec.allOnes 32) = 0#32 := by decide

/-- What the beginning leaves, whatever the window. -/
def still (w : Nat) : BitVec 32 := into (BitVec.allOnes 32) (noughts w)
theorem still_eq (l : List UInt8) : sum l ^^^ more (BitVec.allOnes 32) l = still l.length := by
  have h := into_xor 0#32 (BitVec.allOnes 32) l
  rw [BitVec.zero_xor] at h
  unfold sum more still
  rw [not_zero32, not_ones32, h, not_eq_xor, not_eq_xor (into 0#32 l)]
  have : ∀ a b c : BitVec 32, ((a ^^^ b) ^^^ c) ^^^ (a ^^^ c) = b := by
    intro a b c
    calc ((a ^^^ b) ^^^ c) ^^^ (a ^^^ c) = b ^^^ (a ^^^ a) ^^^ (c ^^^ c) := by ac_rfl
      _ = b := by simp
  exact this _ _ _
/-- The window's rest, begun with 0. -/
theorem rest_eq (l : List UInt8) : ~~~ (sum l ^^^ still l.length) = into 0#32 l := by
  have h := into_xor 0#32 (BitVec.allOnes 32) l
  rw [BitVec.zero_xor] at h
  unfold sum more still
  rw [not_zero32, h, not_eq_xor, not_eq_xor]
  have : ∀ a b c : BitVec 32, ((a ^^^ b) ^^^ c) ^^^ b ^^^ c = a := by
    intro a b c
    calc ((a ^^^ b) ^^^ c) ^^^ b ^^^ c = a ^^^ (b ^^^ b) ^^^ (c ^^^ c) := by ac_rfl
      _ = a := by simp
  exact this _ _ _
/-- The next window's Sum. -/
theorem next_eq (a c : UInt8) (l : List UInt8) :
    ~~~ (step (into 0#32 (a :: l)) c) ^^^ still (l.length + 1) ^^^ times h8 (l.length + 2) (byte a) = sum (l ++ [c]) := by
  have h1 : step (into 0#32 (a :: l)) c = into (h8 (byte a)) (l ++ [c]) := by
    rw [into_append]
    show step (into (step 0#32 a) l) c = step (into (h8 (byte a)) l) c
    unfold step
    rw [BitVec.zero_xor]
  have h2 : into (h8 (byte a)) (l ++ [c]) = into 0#32 (l ++ [c]) ^^^ times h8 (l.length + 2) (byte a) := by
    have := into_xor 0#32 (h8 (byte a)) (l ++ [c])
    rw [BitVec.zero_xor] at this
    rw [this, into_noughts]
    simp [times]
  have h3 := into_xor 0#32 (BitVec.allOnes 32) (l ++ [c])
  rw [BitVec.zero_xor] at h3
  unfold sum more still
  rw [h1, h2, not_zero32, h3, not_eq_xor, not_eq_xor, show (l ++ [c]).length = l.length + 1 by simp]
  have : ∀ a b c d : BitVec 32, ((a ^^^ b) ^^^ c) ^^^ d ^^^ b = (a ^^^ d) ^^^ c := by
    intro a b c d
    calc ((a ^^^ b) ^^^ c) ^^^ d ^^^ b = (a ^^^ d) ^^^ c ^^^ (b ^^^ b) := by ac_rfl
      _ = _ := by simp
  exact this _ _ _ _

/-- Bits that are moved down out of eight noughts: nothing falls out. -/
theorem hv_shl (y : BitVec 32) (h : y.msb = false) : hv (y <<< 1) = y := by
  unfold hv
  have h0 : (y <<< 1).getLsbD 0 = false := by simp
  rw [h0, shr_shl y h]
  simp
theorem shl_msb (y : BitVec 32) (n : Nat) (h : ∀ i, 24 ≤ i → y.getLsbD i = false) (hn : n < 8) : (y <<< n).msb = false := by
  rw [BitVec.msb_eq_getLsbD_last, BitVec.getLsbD_shiftLeft, h _ (by omega)]
  simp
theorem h8_shl (y : BitVec 32) (h : ∀ i, 24 ≤ i → y.getLsbD i = false) : h8 (y <<< 8) = y := by
  have key : ∀ k, k ≤ 8 → times hv k (y <<< k) = y := by
    intro k
    induction k with
    | zero => intro _; simp [times]
    | succ k ih =>
      intro hk
      show times hv k (hv (y <<< (k + 1))) = y
      rw [BitVec.shiftLeft_add, hv_shl _ (shl_msb y k h (by omega)), ih (by omega)]
  exact key 8 (by omega)

end Go.Proofs.Ytdabdneeckjdoaa.Crc
