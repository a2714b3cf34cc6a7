/- A part of the proof of JournalKnown: Ztk CrcMath CrcBits CrcRow JcrcFns JcrcMore KCrc SecMap SecOps SecPut SecDisk SecSet SecOn SecNew SecRead SecCopy SecWOps SecWLay SecWrite SecWrote. -/
import Derived.Deep.RegionHeld
import Derived.RowKit
import Derived.Test.YtgdedgfohjplmaaGreatProg
import Derived.WalkKit
import Derived.Deep.Draws
import Derived.WalkSpells
import Derived.WalkLawsBesides
import Derived.WalkMore
import Derived.ScopeJumps
import Derived.Lib.Hide
import Derived.Deep.QuietTactic
import Derived.BigQuiet
import Derived.Below
import Derived.Maps.OwnSet
import Derived.Maps.Ext
import Derived.ChangeKeysEq
import Derived.Deep.MidRow
import Derived.Carry
import Derived.Maps.Range
import Derived.Maps.RangeWalk
import Derived.OwnWalk
import Derived.Lib.SlMapMerge
import Derived.Laws.IdiomRangeMap
import Derived.Laws.Externs
import Derived.Shelf.SlMaps.Clone
import Derived.Great.BuildSlice
import Derived.Maps.AppendAt
import Derived.Deep.RegionLaw
import Derived.OrdersHeld
import Derived.Deep.RegionHeld3
set_option maxRecDepth 100000
set_option maxHeartbeats 40000000
namespace Go.Proofs.YtgdedgfohjplmaaGreat
open Go
theorem zpt : (∀ (a : Act) (d : Tmp) (v : Value), a.put (some d) v = ⟨a.tmps.setIfInBounds d v, a.defers⟩) ∧ (∀ (a : Act) (v : Value), a.put none v = a) ∧ (∀ (l : List Value) (i : Nat) (v : Value), l.toArray.setIfInBounds i v = (l.set i v).toArray) ∧ (∀ (x : Value) (l : List Value) (v : Value), (x :: l).set 0 v = v :: l) ∧ ∀ (x : Value) (l : List Value) (i : Nat) (v : Value), (x :: l).set (i + 1) v = x :: l.set i v :=
  ⟨fun _ _ _ => rfl, fun _ _ => rfl, fun l i v => List.setIfInBounds_toArray l i v, fun _ _ _ => rfl, fun _ _ _ _ => rfl⟩
theorem zc4 {w : World} {g : Nat} {C : Array Value} {t : TypeId} {fr : Nat × Nat} (h : w.heap[g]? = some (.cells C t fr)) : w.cell? ⟨g, 0, none⟩ = C[0]? ∧ w.cell? ⟨g, 1, none⟩ = C[1]? ∧ w.cell? ⟨g, 2, none⟩ = C[2]? ∧ w.cell? ⟨g, 3, none⟩ = C[3]? := by
  refine ⟨?_, ?_, ?_, ?_⟩ <;> simp [World.cell?, h]
theorem z9 {w : World} {g : Nat} {t : TypeId} {fr : Nat × Nat} {x0 x1 x2 x3 x4 x5 x6 x7 x8 : Value} (h : w.heap[g]? = some (.cells #[x0, x1, x2, x3, x4, x5, x6, x7, x8] t fr)) : w.cell? ⟨g, 0, none⟩ = some x0 ∧ w.cell? ⟨g, 1, none⟩ = some x1 ∧ w.cell? ⟨g, 2, none⟩ = some x2 ∧ w.cell? ⟨g, 3, none⟩ = some x3 ∧ w.cell? ⟨g, 4, none⟩ = some x4 ∧ w.cell? ⟨g, 5, none⟩ = some x5 ∧ w.cell? ⟨g, 6, none⟩ = some x6 ∧ w.cell? ⟨g, 7, none⟩ = some x7 ∧ w.cell? ⟨g, 8, none⟩ = some x8 := by
  refine ⟨?_, ?_, ?_, ?_, ?_, ?_, ?_, ?_, ?_⟩ <;> simp [World.cell?, h]
theorem z6 {w : World} {g : Nat} {t : TypeId} {fr : Nat × Nat} {x0 x1 x2 x3 x4 x5 : Value} (h : w.heap[g]? = some (.cells #[x0, x1, x2, x3, x4, x5] t fr)) : w.cell? ⟨g, 0, none⟩ = some x0 ∧ w.cell? ⟨g, 1, none⟩ = some x1 ∧ w.cell? ⟨g, 2, none⟩ = some x2 ∧ w.cell? ⟨g, 3, none⟩ = some x3 ∧ w.cell? ⟨g, 4, none⟩ = some x4 ∧ w.cell? ⟨g, 5, none⟩ = some x5 := by
  refine ⟨?_, ?_, ?_, ?_, ?_, ?_⟩ <;> simp [World.cell?, h]
section
variable {P : Program} {ops : Array Oper} {Q : Exit → Act → World → Prop} {md : Region.Mode} {S : World → Prop} {fuel : Nat} {listed : Array Bool} {a a' : Act} {w : World} {d : Option Tmp} {op : Op} {ty : TypeId} {ps : String} {af : Array Edge} {gd : Option (Nat × Bool)} {v : Value}
theorem ztk (i : Nat) (hi : ops[i]? = some ⟨d, op, ty, ps, af, gd⟩) (h : wpAnyH P md ops Q S fuel (listed.setIfInBounds i true) a' w) (hs : Region.noSelect ops = true := by kernel_rfl) (hf : Region.free md ops listed i = true := by kernel_rfl) (hr : (Region.ready md ops listed).contains i = true := by kernel_rfl)
    (hw : Region.wanted ⟨d, op, ty, ps, af, gd⟩ (yielded ops a.tmps) = true := by rfl) (hS : S w := by assumption) (hy : ∀ w, S w → (execOp a.eval ⟨d, op, ty, ps, af, gd⟩).run P w = .ok (.value v) w := by (intro wS hSw; (try dsimp only at hSw); go_simp; (first | done | with_reducible rfl)))
    (hQ : ∀ c a w, Q (.panic c) (a.put d v) w → Q (.panic c) a w := by exact fun _ _ _ h => h) (ha : a.put d v = a' := by ((try simp only [zpt]); rfl)) : wpAnyH P md ops Q S (fuel + 1) listed a w := by
  subst ha
  exact wpAnyH_take hi hs hf hr hQ (.inl ⟨hw, hy⟩) hS h
theorem ztu (i : Nat) (hi : ops[i]? = some ⟨d, op, ty, ps, af, gd⟩) (h : wpAnyH P md ops Q S fuel (listed.setIfInBounds i true) a' w) (hs : Region.noSelect ops = true := by kernel_rfl) (hf : Region.free md ops listed i = true := by kernel_rfl) (hr : (Region.ready md ops listed).contains i = true := by kernel_rfl)
    (hw : Region.wanted ⟨d, op, ty, ps, af, gd⟩ (yielded ops a.tmps) = false := by rfl) (hS : S w := by assumption)
    (hQ : ∀ c a w, Q (.panic c) (a.put d undef) w → Q (.panic c) a w := by exact fun _ _ _ h => h) (ha : a.put d undef = a' := by ((try simp only [zpt]); rfl)) : wpAnyH P md ops Q S (fuel + 1) listed a w := by
  subst ha
  exact wpAnyH_take hi hs hf hr hQ (.inr ⟨hw, rfl⟩) hS h
theorem zrd (i : Nat) (hi : ops[i]? = some ⟨d, op, ty, ps, af, gd⟩)
    (h : ∀ K' : Act → World → Prop, Shut (∀ a w, S w → (S w → wpAnyH P md ops Q S fuel (listed.setIfInBounds i true) a w) → K' a w) → if Region.wanted ⟨d, op, ty, ps, af, gd⟩ (yielded ops a.tmps) = true then Oper.wp P ⟨d, op, ty, ps, af, gd⟩ a w K' Q else K' (a.put d undef) w)
    (hr : Region.ready md ops listed = [i] := by kernel_rfl) : wpAnyH P md ops Q S (fuel + 1) listed a w := wpAnyH_ready hr (by simp) (AllReadyH.cons hi h AllReadyH.nil)
theorem zrd2 {d2 : Option Tmp} {op2 : Op} {ty2 : TypeId} {ps2 : String} {af2 : Array Edge} {gd2 : Option (Nat × Bool)} (i j : Nat) (hi : ops[i]? = some ⟨d, op, ty, ps, af, gd⟩) (hj : ops[j]? = some ⟨d2, op2, ty2, ps2, af2, gd2⟩)
    (h : ∀ K' : Act → World → Prop, Shut (∀ a w, S w → (S w → wpAnyH P md ops Q S fuel (listed.setIfInBounds i true) a w) → K' a w) → if Region.wanted ⟨d, op, ty, ps, af, gd⟩ (yielded ops a.tmps) = true then Oper.wp P ⟨d, op, ty, ps, af, gd⟩ a w K' Q else K' (a.put d undef) w)
    (h2 : ∀ K' : Act → World → Prop, Shut (∀ a w, S w → (S w → wpAnyH P md ops Q S fuel (listed.setIfInBounds j true) a w) → K' a w) → if Region.wanted ⟨d2, op2, ty2, ps2, af2, gd2⟩ (yielded ops a.tmps) = true then Oper.wp P ⟨d2, op2, ty2, ps2, af2, gd2⟩ a w K' Q else K' (a.put d2 undef) w)
    (hr : Region.ready md ops listed = [i, j] := by kernel_rfl) : wpAnyH P md ops Q S (fuel + 1) listed a w := wpAnyH_ready hr (by simp) (AllReadyH.cons hi h (AllReadyH.cons hj h2 AllReadyH.nil))
end
end Go.Proofs.YtgdedgfohjplmaaGreat
namespace Go.Proofs.YtgdedgfohjplmaaGreat.Crc
def fell : BitVec 32 := 0x82F63B78#32
def hv (r : BitVec 32) : BitVec 32 := (r >>> 1) ^^^ (if r.getLsbD 0 then fell else 0#32)
def dbl (r : BitVec 32) : BitVec 32 := if r.msb then ((r ^^^ fell) <<< 1) ||| 1#32 else r <<< 1
def times (f : BitVec 32 → BitVec 32) : Nat → BitVec 32 → BitVec 32
 | 0, r => r
 | n + 1, r => times f n (f r)
theorem times_succ' (f : BitVec 32 → BitVec 32) (n : Nat) (r : BitVec 32) : times f (n + 1) r = f (times f n r) := by
 induction n generalizing r with
 | zero => rfl
 | succ n ih => show times f (n + 1) (f r) = _; rw [ih]; rfl
def byte (c : UInt8) : BitVec 32 := BitVec.ofNat 32 c.toNat
def h8 (r : BitVec 32) : BitVec 32 := times hv 8 r
def d8 (r : BitVec 32) : BitVec 32 := times dbl 8 r
def step (r : BitVec 32) (c : UInt8) : BitVec 32 := h8 (r ^^^ byte c)
def unstep (c : UInt8) (r : BitVec 32) : BitVec 32 := d8 r ^^^ byte c
def into (r : BitVec 32) (l : List UInt8) : BitVec 32 := l.foldl step r
def outof (r : BitVec 32) (l : List UInt8) : BitVec 32 := l.foldr unstep r
def more (s : BitVec 32) (l : List UInt8) : BitVec 32 := ~~~ (into (~~~ s) l)
def less (s : BitVec 32) (l : List UInt8) : BitVec 32 := ~~~ (outof (~~~ s) l)
def sum (l : List UInt8) : BitVec 32 := more 0#32 l
theorem into_append (r : BitVec 32) (a b : List UInt8) : into r (a ++ b) = into (into r a) b := List.foldl_append ..
def noughts (n : Nat) : List UInt8 := List.replicate n 0
end Go.Proofs.YtgdedgfohjplmaaGreat.Crc
namespace Go.Proofs.YtgdedgfohjplmaaGreat.Crc
open Go.RowKit
def u (r : BitVec 32) : Int := (r.toNat : Int)
theorem u_lo (r : BitVec 32) : 0 ≤ u r := by unfold u; omega
theorem u_hi (r : BitVec 32) : u r ≤ 4294967295 := by have := r.isLt; unfold u; omega
theorem u_of (n : Nat) (h : n < 4294967296) : (n : Int) = u (BitVec.ofNat 32 n) := by
 unfold u; rw [BitVec.toNat_ofNat]; congr 1; exact (Nat.mod_eq_of_lt h).symm
theorem xor_u (a b : BitVec 32) : bits .xor .u32 (u a) (u b) = u (a ^^^ b) := by
 unfold u; rw [u32_xor_nat _ _ a.isLt b.isLt, BitVec.toNat_xor]
theorem and_u (a b : BitVec 32) : bits .and .u32 (u a) (u b) = u (a &&& b) := by
 unfold u; rw [u32_and_nat _ _ a.isLt b.isLt, BitVec.toNat_and]
theorem neg_u (a : BitVec 32) : IntKind.u32.wrap (-(u a)) = u (-a) := by
 unfold u; rw [IntKind.wrap_u32', BitVec.toNat_neg]; have := a.isLt; omega
theorem shr_u (a : BitVec 32) (n : Nat) : u a / 2 ^ n = u (a >>> n) := by
 unfold u; rw [BitVec.toNat_ushiftRight, Nat.shiftRight_eq_div_pow]; simp
theorem u_fell : (2197175160 : Int) = u fell := by decide
theorem u_one : (1 : Int) = u 1#32 := by decide
theorem half_u (a : BitVec 32) : u a / (2 : Int) = u (a >>> 1) := by have := shr_u a 1; simpa using this
theorem negm_u (a : BitVec 32) : -(u a) % (4294967296 : Int) = u (-a) := by rw [← neg_u, IntKind.wrap_u32']
theorem odd_u (a : BitVec 32) : u a % 2 = if a.getLsbD 0 then 1 else 0 := by
 unfold u
 have h : a.getLsbD 0 = decide (a.toNat % 2 = 1) := by
  rw [BitVec.getLsbD, Nat.testBit_zero]
 rw [h]
 split
 ·rename_i h; simp at h; omega
 ·rename_i h; simp at h; omega
theorem low_bit (r : BitVec 32) : r &&& 1#32 = if r.getLsbD 0 then 1#32 else 0#32 := by
 apply BitVec.eq_of_getLsbD_eq
 intro i hi
 rw [BitVec.getLsbD_and]
 cases h : r.getLsbD 0
 ·rcases i with _ | i
  ·rw [h]; simp
  ·simp
 ·rcases i with _ | i
  ·rw [h]; simp
  ·simp
theorem halved_bv (r : BitVec 32) : (r >>> 1) ^^^ (fell &&& -(r &&& 1#32)) = hv r := by
 rw [low_bit]
 unfold hv
 cases r.getLsbD 0
 ·simp
 ·congr 1
theorem halved_form (r : BitVec 32) : bits .xor .u32 (u r / 2) (bits .and .u32 2197175160 (-bits .and .u32 (u r) 1 % 4294967296)) = u (hv r) := by
 rw [u_fell, u_one, and_u, negm_u, and_u, half_u, xor_u, halved_bv]
theorem rhalved_no (r : BitVec 32) (h : (u r % 2 == 1) = false) : u r / 2 = u (hv r) := by
 rw [half_u]
 rw [odd_u] at h
 unfold hv
 cases e : r.getLsbD 0
 ·simp
 ·rw [e] at h; simp at h
theorem rhalved_yes (r : BitVec 32) (h : (u r % 2 == 1) = true) : bits .xor .u32 (u r / 2) 2197175160 = u (hv r) := by
 rw [half_u, u_fell, xor_u]
 rw [odd_u] at h
 unfold hv
 cases e : r.getLsbD 0
 ·rw [e] at h; simp at h
 ·simp
def at8 (l : List UInt8) (i : Nat) : Int := ((l.getD i 0).toNat : Int)
theorem at8_lo (l : List UInt8) (i : Nat) : 0 ≤ at8 l i := by unfold at8; omega
theorem at8_hi (l : List UInt8) (i : Nat) : at8 l i ≤ 255 := by unfold at8; have := (l.getD i 0).toNat_lt; omega
theorem at8_u (l : List UInt8) (i : Nat) : at8 l i = u (byte (l.getD i 0)) := by
 unfold at8 byte; exact u_of _ (by have := (l.getD i 0).toNat_lt; omega)
def Row8 (w : World) (B : Nat) (A : Option Addr) (l : List UInt8) : Prop :=
 l = [] ∨ ∃ b off, A = some ⟨b, off, none⟩ ∧ b < B ∧ ∀ i, i < l.length → w.cell? ⟨b, off + i, none⟩ = some (.int .u8 (at8 l i))
section
variable {w w' : World} {B B' : Nat} {A : Option Addr} {l : List UInt8}
theorem Row8.nil : Row8 w B A [] := .inl rfl
theorem Row8.at_ (h : Row8 w B A l) (h0 : 0 < l.length) : ∃ b off, A = some ⟨b, off, none⟩ ∧ b < B ∧ ∀ i, i < l.length → w.cell? ⟨b, off + i, none⟩ = some (.int .u8 (at8 l i)) := by
 rcases h with rfl | h
 ·exact absurd h0 (by simp)
 ·exact h
theorem Row8.keep (h : Row8 w B A l) (hk : ∀ p : Addr, p.block < B → w'.cell? p = w.cell? p) : Row8 w' B A l := by
 rcases h with h | ⟨b, off, e, hb, hc⟩
 ·exact .inl h
 ·exact .inr ⟨b, off, e, hb, fun i hi => (hk _ hb).trans (hc i hi)⟩
theorem Row8.more (h : Row8 w B A l) (hB : B ≤ B') : Row8 w B' A l := by
 rcases h with h | ⟨b, off, e, hb, hc⟩
 ·exact .inl h
 ·exact .inr ⟨b, off, e, by omega, hc⟩
theorem Row8.below (h : Row8 w B A l) (hb : Below B w w') : Row8 w' B A l := h.keep fun _ hp => hb.cell hp
theorem Row8.alloc (h : Row8 w B A l) (hB : B ≤ w.heap.size) (o : Obj) : Row8 (w.alloc o) B A l := h.keep fun p hp => World.cell?_alloc_lt w o p (by omega)
end
theorem getD_at (l : List UInt8) (k : Nat) (h : k < l.length) : l.getD k 0 = l[k] := by simp [h]
def by8 (l : List UInt8) (i : Nat) : BitVec 32 := byte (l.getD i 0)
def ink (r : BitVec 32) (l : List UInt8) (k : Nat) : BitVec 32 := into r (l.take k)
theorem ink_full (r : BitVec 32) (l : List UInt8) : ink r l l.length = into r l := by unfold ink; rw [List.take_length]
theorem ink_succ (r : BitVec 32) (l : List UInt8) (k : Nat) (h : k < l.length) : h8 (ink r l k ^^^ by8 l k) = ink r l (k + 1) := by
 unfold ink by8
 rw [List.take_succ_eq_append_getElem h, into_append, getD_at l k h]
 rfl
theorem at8_by8 (l : List UInt8) (i : Nat) : at8 l i = u (by8 l i) := at8_u l i
theorem xor_at8 (r : BitVec 32) (l : List UInt8) (i : Nat) : bits .xor .u32 (u r) (at8 l i) = u (r ^^^ by8 l i) := by rw [at8_by8, xor_u]
theorem u32_signed : IntKind.u32.signed = false := rfl
theorem not_max_u (r : BitVec 32) : bits .xor .u32 IntKind.u32.max (u r) = u (~~~ r) := by
 rw [show IntKind.u32.max = u (BitVec.allOnes 32) by decide, xor_u, BitVec.xor_comm, BitVec.xor_allOnes]
theorem Row8.part {w : World} {B b off : Nat} {l : List UInt8} (hb : b < B) (hc : ∀ i, i < l.length → w.cell? ⟨b, off + i, none⟩ = some (.int .u8 (at8 l i))) (k m : Nat) :
  Row8 w B (some ⟨b, off + k, none⟩) ((l.drop k).take m) := by
 refine .inr ⟨b, off + k, rfl, hb, fun i hi => ?_⟩
 have hl : i < m ∧ k + i < l.length := by
  rw [List.length_take, List.length_drop] at hi; omega
 rw [show off + k + i = off + (k + i) by omega, hc _ hl.2]
 unfold at8
 rw [getD_at _ _ hl.2, getD_at _ _ hi]
 simp
theorem Row8.head {w : World} {B b off : Nat} {l : List UInt8} (hb : b < B) (hc : ∀ i, i < l.length → w.cell? ⟨b, off + i, none⟩ = some (.int .u8 (at8 l i))) (m : Nat) :
  Row8 w B (some ⟨b, off, none⟩) (l.take m) := by
 have := Row8.part hb hc 0 m
 rwa [List.drop_zero, Nat.add_zero] at this
theorem ret_int {k : IntKind} {a b : Int} (h : a = b) : Ending.returned (.int k a) = .returned (.int k b) := by rw [h]
theorem halved_any (r : BitVec 32) (w : World) :
  Calls Tryz.prog 103 #[.int .u32 (u r)] w fun e w' => e = .returned (.int .u32 (u (hv r))) ∧ w = w' := by
 have h0 := u_lo r
 have h1 := u_hi r
 go_enter Tryz.func103, Tryz.ntmps103
 go_wp2
 go_ret
 exact ⟨ret_int (halved_form r), rfl⟩
theorem eight_h (r : BitVec 32) (w : World) :
  Calls Tryz.prog 102 #[.func (.func 103) #[] #[], .int .u32 (u r)] w fun e w' => e = .returned (.int .u32 (u (h8 r))) ∧ w = w' := by
 have h0 := u_lo r
 have h1 := u_hi r
 go_enter Tryz.func102, Tryz.ntmps102
 go_wp2
 refine wp_scope_jumps 0 (fun a' w' => w = w' ∧ ∃ (m : Nat) (s : BitVec 32) (u6 u7 u8 u9 u10 u11 u12 : Value), a' = { tmps := #[.func (.func 103) #[] #[], .int .u32 (u s), undef, undef, .int .u32 0, .int .i64 m, u6, u7, u8, u9, u10, u11, u12, undef], defers := [] } ∧ times hv m s = h8 r ∧ 1 ≤ m ∧ m ≤ 7) (fun a' _ => (intOf (a'.tmps.getD 5 undef)).toNat) rfl ?_ ?_
 ·go_wp2
  go_step3
  go_wp2_with (go_at_call 103; refine (halved_any _ _).mono ?_; rintro e w' ⟨rfl, rfl⟩)
  go_step3
  exact ⟨rfl, rfl, 7, hv r, _, _, _, _, _, _, _, rfl, rfl, by omega, by omega⟩
 ·rintro a' w' ⟨rfl, m, s, u6, u7, u8, u9, u10, u11, u12, rfl, hs, hm, hm7⟩
  have Hs := Lib.hid hs
  clear hs
  by_cases h : 2 ≤ m
  ·go_wp2_with (go_at_call 103; refine (halved_any _ _).mono ?_; rintro e w' ⟨rfl, rfl⟩)
   go_step3
   have e : (m : Int) - 1 = ((m - 1 : Nat) : Int) := by omega
   rw [e]
   refine ⟨rfl, ⟨rfl, m - 1, hv s, _, _, _, _, _, _, _, rfl, ?_, by omega, by omega⟩, ?_⟩
   ·rw [← Hs.out]; obtain ⟨k, rfl⟩ : ∃ k, m = k + 1 := ⟨m - 1, by omega⟩; rfl
   ·simp [intOf]; omega
  ·obtain rfl : m = 1 := by omega
   go_wp2_with (go_at_call 103; refine (halved_any _ _).mono ?_; rintro e w' ⟨rfl, rfl⟩)
   simp only [Exit.jump]
   go_ret
   exact ⟨ret_int (by rw [← Hs.out]; rfl), rfl⟩
attribute [local go_sem] u32_signed not_max_u xor_u xor_at8
theorem more_any (s : BitVec 32) (A : Option Addr) (l : List UInt8) (cap B : Nat) (w : World) (hl : l.length ≤ 9223372036854775807) (h : Row8 w B A l) :
  Calls Tryz.prog 101 #[.int .u32 (u s), .slice A l.length cap] w fun e w' => e = .returned (.int .u32 (u (more s l))) ∧ w = w' := by
 have H := Lib.hid h
 clear h
 go_enter Tryz.func101, Tryz.ntmps101
 go_wp2
 go_loop [5, 12] (fun r i => ∃ k : Nat, k ≤ l.length ∧ i = .int .i64 k ∧ r = .int .u32 (u (ink (~~~ s) l k))) (fun _ i => l.length - (intOf i).toNat)
 case atStart => exact ⟨0, Nat.zero_le _, rfl, rfl⟩
 case round =>
  obtain ⟨k, hk, rfl, rfl⟩ := hrel
  by_cases hlt : k < l.length
  ·obtain ⟨b, off, rfl, _, hc⟩ := H.out.at_ (by omega)
   have hck := hc k hlt
   have hb0 := at8_lo l k
   have hb1 := at8_hi l k
   clear hc H
   go_wp2_with (go_at_call 102; refine (eight_h _ _).mono ?_; rintro e w' ⟨rfl, rfl⟩)
   go_round
   case rel => exact ⟨k + 1, by omega, by go_num, by rw [ink_succ _ _ _ hlt]⟩
   case measure => simp [intOf]; omega
  ·obtain rfl : k = l.length := by omega
   go_wp2
   go_ret
   exact ⟨ret_int (by rw [ink_full]; rfl), rfl⟩
theorem sum_any (A : Option Addr) (l : List UInt8) (cap B : Nat) (w : World) (hl : l.length ≤ 9223372036854775807) (h : Row8 w B A l) :
  Calls Tryz.prog 99 #[.slice A l.length cap] w fun e w' => e = .returned (.int .u32 (u (sum l))) ∧ w = w' := by
 have H := Lib.hid h
 clear h
 go_enter Tryz.func99, Tryz.ntmps99
 go_wp2_with fail
 refine (more_any 0#32 A l cap B _ hl H.out).mono ?_
 rintro e w' ⟨rfl, rfl⟩
 go_wp2_with fail
 go_ret
 exact ⟨rfl, rfl⟩
end Go.Proofs.YtgdedgfohjplmaaGreat.Crc
namespace Go.Proofs.YtgdedgfohjplmaaGreat.Crc
open Go.RowKit
attribute [local go_sem] u32_signed not_max_u xor_u xor_at8
theorem rhalved_any (r : BitVec 32) (w : World) :
  Calls Tryz.prog 91 #[.int .u32 (u r)] w fun e w' => e = .returned (.int .u32 (u (hv r))) ∧ w = w' := by
 have h0 := u_lo r
 have h1 := u_hi r
 go_enter Tryz.func91, Tryz.ntmps91
 go_wp2
 ·go_ret
  exact ⟨ret_int (rhalved_yes r ‹_›), rfl⟩
 ·go_ret
  exact ⟨ret_int (rhalved_no r ‹_›), rfl⟩
theorem rmore_any (s : BitVec 32) (A : Option Addr) (l : List UInt8) (cap B : Nat) (w : World) (hl : l.length ≤ 9223372036854775807) (h : Row8 w B A l) :
  Calls Tryz.prog 64 #[.int .u32 (u s), .slice A l.length cap] w fun e w' => e = .returned (.int .u32 (u (more s l))) ∧ w = w' := by
 have H := Lib.hid h
 clear h
 go_enter Tryz.func64, Tryz.ntmps64
 go_wp2
 go_loop [5, 6] (fun r i => ∃ k : Nat, k ≤ l.length ∧ i = .int .i64 k ∧ r = .int .u32 (u (ink (~~~ s) l k))) (fun _ i => l.length - (intOf i).toNat)
 case atStart => exact ⟨0, Nat.zero_le _, rfl, rfl⟩
 case round =>
  obtain ⟨k, hk, rfl, rfl⟩ := hrel
  by_cases hlt : k < l.length
  ·obtain ⟨b, off, rfl, _, hc⟩ := H.out.at_ (by omega)
   have hck := hc k hlt
   have hb0 := at8_lo l k
   have hb1 := at8_hi l k
   clear hc H
   go_wp2
   go_loop [5, 7] (fun r i => ∃ j : Nat, j ≤ 8 ∧ i = .int .i64 j ∧ r = .int .u32 (u (times hv j (ink (~~~ s) l k ^^^ by8 l k)))) (fun _ i => 8 - (intOf i).toNat)
   case atStart => exact ⟨0, Nat.zero_le _, rfl, rfl⟩
   case round =>
    obtain ⟨j, hj, rfl, rfl⟩ := hrel
    by_cases hj8 : j < 8
    ·go_wp2_with (go_at_call 91; refine (rhalved_any _ _).mono ?_; rintro e w' ⟨rfl, rfl⟩)
     go_round
     case rel => exact ⟨j + 1, by omega, by go_num, by rw [times_succ']⟩
     case measure => simp [intOf]; omega
    ·obtain rfl : j = 8 := by omega
     go_wp2
     go_round
     case rel => exact ⟨k + 1, by omega, by go_num, by rw [← ink_succ _ _ _ hlt]; rfl⟩
     case measure => simp [intOf]; omega
  ·obtain rfl : k = l.length := by omega
   go_wp2
   go_ret
   exact ⟨ret_int (by rw [ink_full]; rfl), rfl⟩
theorem rsum_any (A : Option Addr) (l : List UInt8) (cap B : Nat) (w : World) (hl : l.length ≤ 9223372036854775807) (h : Row8 w B A l) :
  Calls Tryz.prog 33 #[.slice A l.length cap] w fun e w' => e = .returned (.int .u32 (u (sum l))) ∧ w = w' := by
 have H := Lib.hid h
 clear h
 go_enter Tryz.func33, Tryz.ntmps33
 go_wp2_with fail
 refine (rmore_any 0#32 A l cap B _ hl H.out).mono ?_
 rintro e w' ⟨rfl, rfl⟩
 go_wp2_with fail
 go_ret
 exact ⟨rfl, rfl⟩
end Go.Proofs.YtgdedgfohjplmaaGreat.Crc
namespace Go.Proofs.YtgdedgfohjplmaaGreat.Sec
open Go.RowKit Go.Maps
def u8s (l : List UInt8) : List Value := l.map fun c => .int .u8 (c.toNat : Int)
theorem u8s_length (l : List UInt8) : (u8s l).length = l.length := by simp [u8s]
theorem u8s_inj : ∀ {a b : List UInt8}, u8s a = u8s b → a = b
 | [], [], _ => rfl
 | [], _ :: _, h => by simp [u8s] at h
 | _ :: _, [], h => by simp [u8s] at h
 | x :: a, y :: b, h => by
  simp only [u8s, List.map_cons, List.cons.injEq, Value.int.injEq, true_and] at h
  have hx : x = y := UInt8.toNat_inj.1 (by omega)
  rw [hx, u8s_inj h.2]
def secV (l : List UInt8) : Value := .agg (u8s l).toArray
theorem secV_inj {a b : List UInt8} (h : secV a = secV b) : a = b := by
 unfold secV at h
 injection h with h
 exact u8s_inj (by simpa using h)
def noughts : List UInt8 := List.replicate 128 0
theorem noughts_length : noughts.length = 128 := by simp [noughts]
open Classical in
noncomputable def secR (v : Value) : Option (DataW Unit × List MemPlace) :=
 if h : ∃ l : List UInt8, l.length = 128 ∧ v = secV l then some (.lit (.string h.choose), []) else none
theorem secR_mk {l : List UInt8} (hl : l.length = 128) : secR (secV l) = some (.lit (.string l), []) := by
 have h : ∃ l' : List UInt8, l'.length = 128 ∧ secV l = secV l' := ⟨l, hl, rfl⟩
 unfold secR
 rw [dif_pos h, ← secV_inj h.choose_spec.2]
theorem secR_inv {v : Value} {z : DataW Unit × List MemPlace} (h : secR v = some z) : ∃ l : List UInt8, l.length = 128 ∧ v = secV l ∧ z = (.lit (.string l), []) := by
 unfold secR at h
 split at h
 ·rename_i hx
  cases h
  exact ⟨_, hx.choose_spec.1, hx.choose_spec.2, rfl⟩
 ·cases h
abbrev intKeyed : Keyed Tryz.prog 3 := int_keyed Tryz.underlying3
def key (i : Nat) : Lit := .int .i64 (i : Int)
theorem key_inj {i j : Nat} (h : key i = key j) : i = j := by
 unfold key at h
 injection h with _ h
 omega
theorem keyOf_nat {i : Nat} (hi : i ≤ 9223372036854775807) : keyOf Tryz.prog 3 (.int .i64 (i : Int)) = some (key i) :=
 keyOf_int_mk Tryz.underlying3 (by simp [Lit.wf, IntKind.min, IntKind.max, IntKind.bits, IntKind.signed]; omega)
theorem len_le : ∀ (N : Nat) (l : List Nat), l.Nodup → (∀ x ∈ l, x < N) → l.length ≤ N
 | 0, l, _, h => by
  cases l with
  | nil => simp
  | cons a l => exact absurd (h a (by simp)) (by omega)
 | N + 1, l, hd, h => by
  by_cases hm : N ∈ l
  ·have h1 := len_le N (l.erase N) (hd.erase N) (fun x hx => by
    have := (hd.mem_erase_iff).1 hx
    have := h x this.2
    omega)
   rw [List.length_erase_of_mem hm] at h1
   omega
  ·have := len_le N l hd (fun x hx => by
    have h1 := h x hx
    have : x ≠ N := fun e => hm (e ▸ hx)
    omega)
   omega
theorem size_le {w : World} {b n N : Nat} {D : DataW Unit} (h : w.ownsMap Tryz.prog 3 secR b n D) (hk : ∀ k, has D k = true → ∃ i, i < N ∧ k = key i) : Maps.size D ≤ N := by
 obtain ⟨es, rfl, hs, hks⟩ := h.canon intKeyed
 have hidx : ∀ p ∈ es, ∃ i, i < N ∧ p.1 = key i := fun p hp => hk p.1 (by
  rw [has_eq, List.any_eq_true]
  exact ⟨p, hp, WideAt.sameKey_self (hks p hp)⟩)
 let idx : Lit → Nat := fun l => match l with | .int _ z => z.toNat | _ => 0
 have hk0 : ∀ i, idx (key i) = i := fun i => by simp [idx, key]
 have hnd : (es.map fun p => idx p.1).Nodup := by
  have ap := apart_of_rising hs
  rw [List.nodup_iff_pairwise_ne, List.pairwise_map]
  refine List.Pairwise.imp_of_mem ?_ ap
  intro p q hp hq hne e
  obtain ⟨i, _, ei⟩ := hidx p hp
  obtain ⟨j, _, ej⟩ := hidx q hq
  rw [ei, ej, hk0, hk0] at e
  exact hne (by rw [ei, ej, e])
 have := len_le N _ hnd (fun x hx => by
  obtain ⟨p, hp, rfl⟩ := List.mem_map.1 hx
  obtain ⟨i, hi, ei⟩ := hidx p hp
  rw [ei, hk0]
  exact hi)
 simpa [size_eq] using this
def SecMap (w : World) (b N : Nat) (f : Nat → List UInt8) : Prop :=
 ∃ (n : Nat) (D : DataW Unit), n ≤ N ∧ w.ownsMap Tryz.prog 3 secR b n D ∧ (∀ k, has D k = true → ∃ i, i < N ∧ k = key i) ∧ ∀ i, i < N → D.atKey (key i) (.lit (.string noughts)) = .lit (.string (f i))
theorem tight {w : World} {b n N : Nat} {D : DataW Unit} (h : w.ownsMap Tryz.prog 3 secR b n D) (hs : Maps.size D ≤ N) : w.ownsMap Tryz.prog 3 secR b N D := by
 obtain ⟨es, clock, hb, F, _, rfl⟩ := h
 exact ⟨es, clock, hb, F, by simpa [Maps.size, length_sorted] using hs, rfl⟩
theorem SecMap.lt {w : World} {b N : Nat} {f : Nat → List UInt8} (h : SecMap w b N f) : b < w.heap.size := by
 obtain ⟨n, D, _, h, _⟩ := h
 exact h.lt
theorem SecMap.kept {w w' : World} {b N : Nat} {f : Nat → List UInt8} {row : Option Nat} (h : SecMap w b N f) (hg : w.grownBy w' row) (hne : some b ≠ row) : SecMap w' b N f := by
 obtain ⟨n, D, hn, h, hk, hf⟩ := h
 exact ⟨n, D, hn, h.kept hg hne, hk, hf⟩
theorem SecMap.made (w : World) (N : Nat) : SecMap (w.alloc (.map #[] 0)) w.heap.size N (fun _ => noughts) :=
 ⟨0, .map [], Nat.zero_le _, World.ownsMap_made w _ _ _, fun k h => by simp [has_eq] at h, fun i _ => by simp [DataW.atKey]⟩
def upd (f : Nat → List UInt8) (i : Nat) (l : List UInt8) : Nat → List UInt8 := fun k => if k = i then l else f k
theorem SecMap.put {w' : World} {b N i : Nat} {f : Nat → List UInt8} {l : List UInt8} {D : DataW Unit} {n : Nat} (hi : i < N) (hk : ∀ k, has D k = true → ∃ i, i < N ∧ k = key i) (hf : ∀ i, i < N → D.atKey (key i) (.lit (.string noughts)) = .lit (.string (f i))) (hm : IsMap D) (_ : n ≤ N)
  (h : w'.ownsMap Tryz.prog 3 secR b (n + 1) (D.put (key i) (.lit (.string l)))) : SecMap w' b N (upd f i l) := by
 have hk' : ∀ k, has (D.put (key i) (.lit (.string l))) k = true → ∃ i, i < N ∧ k = key i := fun k hh => by
  by_cases e : k = key i
  ·exact ⟨i, hi, e⟩
  ·rw [has_put_other e] at hh
   exact hk k hh
 refine ⟨N, _, Nat.le_refl _, tight h (size_le h hk'), hk', fun j hj => ?_⟩
 unfold upd
 by_cases e : j = i
 ·subst e
  rw [if_pos rfl, atKey_put_same hm (show WideAt.IsKeyLit (key j) from trivial)]
 ·rw [if_neg e, atKey_put_other (fun x => e (key_inj x)), hf j hj]
theorem SecMap.del {w' : World} {b N i : Nat} {f : Nat → List UInt8} {D : DataW Unit} {n : Nat} (hn : n ≤ N) (hk : ∀ k, has D k = true → ∃ i, i < N ∧ k = key i) (hf : ∀ i, i < N → D.atKey (key i) (.lit (.string noughts)) = .lit (.string (f i)))
  (h : w'.ownsMap Tryz.prog 3 secR b n (D.del (key i))) : SecMap w' b N (upd f i noughts) := by
 refine ⟨n, _, hn, h, fun k hh => ?_, fun j hj => ?_⟩
 ·by_cases e : k = key i
  ·rw [e, has_del_same] at hh
   cases hh
  ·rw [has_del_other e] at hh
   exact hk k hh
 ·unfold upd
  by_cases e : j = i
  ·subst e
   rw [if_pos rfl, atKey_del_same]
  ·rw [if_neg e, atKey_del_other (fun x => e (key_inj x)), hf j hj]
end Go.Proofs.YtgdedgfohjplmaaGreat.Sec
namespace Go.Proofs.YtgdedgfohjplmaaGreat.Sec
open Go.RowKit Go.Maps
theorem info_u8 : (Tryz.prog.info? 5).map (fun i => (i.zero, i.size, i.bytes)) = some (some (.int .u8 0), 1, 1) := by kernel_rfl
theorem cells_u8 : Tryz.prog.cellsOf 5 = 1 := by kernel_rfl
theorem u8s_get (l : List UInt8) (i : Nat) (h : i < l.length) : (u8s l).toArray[i]? = some (.int .u8 (l[i].toNat : Int)) := by
 simp [u8s, h]
theorem run_part_u8 (w : World) (l : List UInt8) (i : Nat) (h : i < l.length) : (part 5 (u8s l).toArray i).run Tryz.prog w = .ok (.int .u8 (l[i].toNat : Int)) w := by
 have hu := Tryz.underlying5
 simp [part, isAgg, run_underlying hu, Result.andThen, u8s_get l i h]
theorem run_eqItems_u8 (d : Nat) (w : World) (a b : List UInt8) (hab : a.length = b.length) : ∀ is : List Nat, (∀ i ∈ is, i < a.length) →
  (Op.eqItems (d + 1) 5 1 (u8s a).toArray (u8s b).toArray is).run Tryz.prog w = .ok (is.all fun i => a[i]? == b[i]?) w
 | [], _ => by simp [Op.eqItems]
 | i :: is, h => by
  have hi := h i (by simp)
  have hi' : i < b.length := by omega
  have hu := Tryz.underlying5
  simp only [Op.eqItems, Sem.run_bind, Nat.mul_one, run_part_u8 w a i hi, run_part_u8 w b i hi', Result.andThen_ok]
  have he : (Op.equalIn (d + 1) 5 (.int .u8 (a[i].toNat : Int)) (.int .u8 (b[i].toNat : Int))).run Tryz.prog w = .ok (a[i] == b[i]) w := by
   rw [run_equalIn_int w d _ .u8 .u8 _ _ hu]
   congr 1
   rw [Bool.eq_iff_iff, beq_iff_eq, beq_iff_eq]
   constructor
   ·intro x
    exact UInt8.toNat_inj.1 (by omega)
   ·intro x
    rw [x]
  rw [he]
  simp only [Result.andThen_ok]
  have ih := run_eqItems_u8 d w a b hab is (fun j hj => h j (by simp [hj]))
  cases hc : (a[i] == b[i])
  ·have h1 : (some a[i] == some b[i]) = false := by simpa using hc
   simp [h1, List.getElem?_eq_getElem hi, List.getElem?_eq_getElem hi']
  ·simp only [Bool.not_true, Bool.false_eq_true, if_false, List.all_cons, List.getElem?_eq_getElem hi, List.getElem?_eq_getElem hi']
   rw [ih]
   have : (some a[i] == some b[i]) = true := by simpa using hc
   rw [this, Bool.true_and]
theorem run_eql_sec (w : World) (a b : List UInt8) (ha : a.length = 128) (hb : b.length = 128) : (binOp .eql 110 (secV a) (secV b)).run Tryz.prog w = .ok (.bool (decide (a = b))) w := by
 unfold secV
 obtain ⟨i0, hi0, _⟩ := Option.map_eq_some_iff.1 info_u8
 rw [run_eql_struct, run_equalIn_array w 9999 _ _ Tryz.underlying110 hi0, cells_u8, run_eqItems_u8 9998 w a b (by omega) _ (by simp [ha])]
 simp only [Result.andThen]
 congr 2
 have : (List.range 128).all (fun i => a[i]? == b[i]?) = decide (a = b) := by
  rw [Bool.eq_iff_iff]
  simp only [List.all_eq_true, List.mem_range, beq_iff_eq, decide_eq_true_eq]
  constructor
  ·intro h
   apply List.ext_getElem?
   intro i
   by_cases hi : i < 128
   ·exact h i hi
   ·rw [List.getElem?_eq_none (by omega), List.getElem?_eq_none (by omega)]
  ·intro h i _
   rw [h]
 rw [this]
def wrA (i : Nat) (l : List UInt8) : Array Value := (Value.int .i64 (i : Int) :: u8s l).toArray
theorem zero_sec (w : World) : (zeroValue 110).run Tryz.prog w = .ok (.agg (u8s noughts).toArray) w := by kernel_rfl
theorem guard_sec : Tryz.prog.eqGuardType Tryz.prog.depth 110 = false := by kernel_rfl
theorem size_sec : (Tryz.prog.info? 110).map (·.size) = some 128 := by kernel_rfl
theorem cell_new (w : World) (C : Array Value) (t : TypeId) (j : Nat) : (w.alloc (.cells C t)).cell? ⟨w.heap.size, j, none⟩ = C[j]? := by
 have hb : (w.alloc (.cells C t)).heap[w.heap.size]? = some (.cells C t) := (MapKept.heap_alloc w _).1
 simp only [World.cell?, hb]
 rfl
theorem wr_cell0 (w : World) (i : Nat) (l : List UInt8) : (w.alloc (.cells (wrA i l) 112)).cell? ⟨w.heap.size, 0, none⟩ = some (.int .i64 (i : Int)) := by
 rw [cell_new]; simp [wrA]
theorem wr_range (w : World) (i : Nat) (l : List UInt8) : (w.alloc (.cells (wrA i l) 112)).rangeAt w.heap.size 1 (u8s l) := fun j v hv => by
 rw [cell_new, Nat.add_comm]
 simp [wrA]
 exact hv
theorem wpList_load_sec {ops : Array Oper} {rest : List Oper} {op : Oper} {a : Act} {w : World} {Q : Exit → Act → World → Prop} (hgd : op.guard = none) (x : Operand) (ho : op.op = .load 110 x)
  (b o : Nat) (hx : a.eval x = .pointer (some ⟨b, o, none⟩)) (l : List UInt8) (hl : l.length = 128) (hc : w.rangeAt b o (u8s l))
  (h : wpList Tryz.prog ops Q rest (a.put op.dst (secV l)) w) : wpList Tryz.prog ops Q (op :: rest) a w :=
 wpList_load_mid hgd _ x ho b o hx (u8s l) _ hc Tryz.underlying110 rfl (by rw [size_sec, u8s_length, hl]) h
theorem put_at (m N i : Nat) (f : Nat → List UInt8) (l : List UInt8) (w : World) (hi : i < N) (hN : N ≤ 16384) (hl : l.length = 128) (h : SecMap w m N f) :
  Calls Tryz.prog 73 #[.map (some m), .agg (wrA i l)] w fun e w' => e = .returned (.tuple #[]) ∧ SecMap w' m N (upd f i l) ∧ w.grownBy w' (some m) := by
 obtain ⟨n, D, hn, hown, hk, hf⟩ := h
 have hzs := zero_sec
 have hgu : ∀ w' x y, (eqGuard .eql 110 x y (secV l) (.agg (u8s noughts).toArray)).run Tryz.prog w' = .ok () w' := fun w' x y => run_eqGuard_agg w' _ _ x y _ _ guard_sec
 have HR := Lib.hid (wr_range w i l)
 have HL := Lib.hid hl
 have hc0 := wr_cell0 w i l
 have hkey := keyOf_nat (i := i) (by omega)
 have hma := hown.canon intKeyed
 have hma' : IsMap D := let ⟨es, e, _⟩ := hma; ⟨es, e⟩
 have hown0 := hown.alloc (.cells (wrA i l) 112)
 have hg0 := World.grownBy_alloc w (.cells (wrA i l) 112) none
 by_cases hz : l = noughts
 ·have heq : ∀ w', (binOp .eql 110 (secV l) (.agg (u8s noughts).toArray)).run Tryz.prog w' = .ok (.bool true) w' := fun w' => by rw [show Value.agg (u8s noughts).toArray = secV noughts from rfl, run_eql_sec w' l noughts hl noughts_length, decide_eq_true hz]
  have HZ := Lib.hid hz
  clear hma hz
  go_enter Tryz.func73, Tryz.ntmps73
  go_wp2_with (first
   | (at_delete; refine wpList_delete_own _ rfl _ _ 55 3 rfl 110 intKeyed Tryz.underlying55 secR m n D rfl hown0 _ _ rfl hkey ?_; intro w1 hown1 hturn1; go_frame)
   | (refine wpList_load_sec rfl _ rfl w.heap.size 1 rfl l HL.out HR.out ?_; go_frame)
   | go_in)
  refine bodyPost_ret (results_none rfl _ _ _) rfl ?_
  refine ⟨rfl, ?_, (hg0.but _).andThen hturn1.grown (fun j hj => .inr hj)⟩
  rw [HZ.out]
  exact SecMap.del hn hk hf hown1
 ·have heq : ∀ w', (binOp .eql 110 (secV l) (.agg (u8s noughts).toArray)).run Tryz.prog w' = .ok (.bool false) w' := fun w' => by rw [show Value.agg (u8s noughts).toArray = secV noughts from rfl, run_eql_sec w' l noughts hl noughts_length, decide_eq_false hz]
  have HZ := Lib.hid hz
  have hroom : n < maxLen := by unfold maxLen; omega
  clear hz
  go_enter Tryz.func73, Tryz.ntmps73
  go_wp2_with (first
   | (at_mapUpdate; refine wpList_mapUpdate_own _ rfl _ _ _ 55 rfl 3 110 intKeyed Tryz.underlying55 secR m _ _ rfl hown0 hroom _ _ _ rfl rfl hkey _ _ (secR_mk HL.out) ?_; intro w2 hown2 hg2; go_frame)
   | (refine wpList_load_sec rfl _ rfl w.heap.size 1 rfl l HL.out HR.out ?_; go_frame)
   | go_in)
  go_end0
  exact ⟨rfl, SecMap.put hi hk hf hma' hn hown2, (hg0.but _).andThen hg2 (fun j hj => .inr hj)⟩
structure Dsk where
 n : Nat
 base : Nat → List UInt8
 now : Nat → List UInt8
 wr : List (Nat × List UInt8)
 armed : Option Nat
 off : Bool
def rows (wr : List (Nat × List UInt8)) : List Value := wr.flatMap fun p => (wrA p.1 p.2).toList
def ArmedAt (w : World) (S : Nat → Prop) (pa : Option Addr) : Option Nat → Prop
 | none => pa = none
 | some k => ∃ b, pa = some ⟨b, 0, none⟩ ∧ S b ∧ w.heap[b]? = some (.cells #[.int .i64 (k : Int)] 3) ∧ k ≤ 9223372036854775807
def DiskAt (w : World) (S : Nat → Prop) (d : Nat) (D : Dsk) : Prop :=
 D.n ≤ 16384 ∧ (∀ p ∈ D.wr, p.1 < D.n ∧ p.2.length = 128) ∧ ∃ mb mn sv pa, w.heap[d]? = some (.cells #[.int .i64 (D.n : Int), .map (some mb), .map (some mn), sv, .pointer pa, .bool D.off] 59) ∧
  S d ∧ S mb ∧ S mn ∧ mb ≠ mn ∧ SecMap w mb D.n D.base ∧ SecMap w mn D.n D.now ∧ w.ownsRow 0 112 129 sv D.wr.length (rows D.wr) ∧ (∀ g, sv.ownBlock = some g → S g) ∧ ArmedAt w S pa D.armed
structure Off (S : Nat → Prop) (w w' : World) : Prop where
 os : w'.os = w.os
 tape : w'.tape = w.tape
 output : w'.output = w.output
 size : w.heap.size ≤ w'.heap.size
 block : ∀ k, k < w.heap.size → ¬ S k → w'.heap[k]? = w.heap[k]?
theorem Off.refl (S : Nat → Prop) (w : World) : Off S w w := ⟨rfl, rfl, rfl, Nat.le_refl _, fun _ _ _ => rfl⟩
theorem Off.trans {S : Nat → Prop} {a b c : World} (h : Off S a b) (k : Off S b c) : Off S a c :=
 ⟨k.os.trans h.os, k.tape.trans h.tape, k.output.trans h.output, Nat.le_trans h.size k.size, fun j hj hs => (k.block j (Nat.lt_of_lt_of_le hj h.size) hs).trans (h.block j hj hs)⟩
theorem Off.mono {S T : Nat → Prop} {a b : World} (h : Off S a b) (hs : ∀ k, k < a.heap.size → S k → T k) : Off T a b := ⟨h.os, h.tape, h.output, h.size, fun k hk ht => h.block k hk (fun x => ht (hs k hk x))⟩
theorem Off.of_grown {S : Nat → Prop} {a b : World} {row : Option Nat} (h : a.grownBy b row) (hs : ∀ k, row = some k → S k) : Off S a b := ⟨h.os, h.tape, h.output, h.size, fun k hk ht => h.block k hk (fun e => ht (hs k e.symm))⟩
theorem Off.below {S : Nat → Prop} {a b : World} {B : Nat} (h : Off S a b) (hB : B ≤ a.heap.size) (hs : ∀ k, k < B → ¬ S k) : Below B a b := ⟨h.os, h.tape, h.output, h.size, fun k hk => h.block k (by omega) (hs k hk)⟩
theorem Off.none {a b : World} (h : Off (fun _ => False) a b) : a.grownBy b none := ⟨h.os, h.tape, h.output, h.size, fun k hk _ => h.block k hk (fun x => x)⟩
theorem cell_blk {w : World} {b : Nat} {C : Array Value} {t : TypeId} (h : w.heap[b]? = some (.cells C t)) (j : Nat) : w.cell? ⟨b, j, none⟩ = C[j]? := by
 simp only [World.cell?, h]
 rfl
def askedN (D : Dsk) (i : Int) : Int := if D.off = true then 20 else if i < 0 ∨ (D.n : Int) ≤ i then 2 else 0
theorem sectors_at (S : Nat → Prop) (d : Nat) (D : Dsk) (w : World) (h : DiskAt w S d D) :
  Calls Tryz.prog 21 #[.pointer (some ⟨d, 0, none⟩)] w fun e w' => e = .returned (.int .i64 (D.n : Int)) ∧ w = w' := by
 obtain ⟨h1, _, mb, mn, sv, pa, hd, _⟩ := h
 have c0 : w.cell? ⟨d, 0, none⟩ = some (.int .i64 (D.n : Int)) := cell_blk hd 0
 clear hd
 go_enter Tryz.func21, Tryz.ntmps21
 go_wp2
 go_ret
 exact ⟨rfl, rfl⟩
theorem writes_at (S : Nat → Prop) (d : Nat) (D : Dsk) (w : World) (h : DiskAt w S d D) :
  Calls Tryz.prog 53 #[.pointer (some ⟨d, 0, none⟩)] w fun e w' => e = .returned (.int .i64 (D.wr.length : Int)) ∧ w = w' := by
 obtain ⟨_, _, mb, mn, sv, pa, hd, _, _, _, _, _, _, hrow, _⟩ := h
 obtain ⟨A, cap, rfl⟩ : ∃ A cap, sv = .slice A D.wr.length cap := by
  obtain ⟨_, ⟨rfl, e⟩ | ⟨g, cap, _, rfl, _⟩⟩ := hrow
  ·exact ⟨none, 0, by rw [e]⟩
  ·exact ⟨_, cap, rfl⟩
 have c3 : w.cell? ⟨d, 3, none⟩ = some (.slice A D.wr.length cap) := cell_blk hd 3
 clear hd hrow
 go_enter Tryz.func53, Tryz.ntmps53
 go_wp2
 go_ret
 exact ⟨rfl, rfl⟩
theorem off_at (S : Nat → Prop) (d : Nat) (D : Dsk) (w : World) (h : DiskAt w S d D) :
  Calls Tryz.prog 22 #[.pointer (some ⟨d, 0, none⟩)] w fun e w' => e = .returned (.bool D.off) ∧ w = w' := by
 obtain ⟨_, _, mb, mn, sv, pa, hd, _⟩ := h
 have c5 : w.cell? ⟨d, 5, none⟩ = some (.bool D.off) := cell_blk hd 5
 clear hd
 go_enter Tryz.func22, Tryz.ntmps22
 go_wp2
 go_ret
 exact ⟨rfl, rfl⟩
theorem asked_at (S : Nat → Prop) (d : Nat) (D : Dsk) (i : Int) (w : World) (h : DiskAt w S d D) :
  Calls Tryz.prog 72 #[.pointer (some ⟨d, 0, none⟩), .int .i64 i] w fun e w' => e = .returned (.int .i64 (askedN D i)) ∧ w = w' := by
 obtain ⟨h1, _, mb, mn, sv, pa, hd, _⟩ := h
 have c0 : w.cell? ⟨d, 0, none⟩ = some (.int .i64 (D.n : Int)) := cell_blk hd 0
 have c5 : w.cell? ⟨d, 5, none⟩ = some (.bool D.off) := cell_blk hd 5
 clear hd
 unfold askedN
 cases hoff : D.off
 ·rw [hoff] at c5
  by_cases h0 : i < 0
  ·have d0 : decide (i < 0) = true := by simp [h0]
   rw [if_neg (by simp), if_pos (.inl h0)]
   clear h0
   go_enter Tryz.func72, Tryz.ntmps72
   go_wp2
   go_ret
   exact ⟨rfl, rfl⟩
  ·have d0 : decide (i < 0) = false := by simp; omega
   by_cases h2 : (D.n : Int) ≤ i
   ·have d1 : decide ((D.n : Int) ≤ i) = true := by simp [h2]
    rw [if_neg (by simp), if_pos (.inr h2)]
    clear h0 h2
    go_enter Tryz.func72, Tryz.ntmps72
    go_wp2
    go_ret
    exact ⟨rfl, rfl⟩
   ·have d1 : decide ((D.n : Int) ≤ i) = false := by simp; omega
    rw [if_neg (by simp), if_neg (by omega)]
    clear h0 h2
    go_enter Tryz.func72, Tryz.ntmps72
    go_wp2
    go_ret
    exact ⟨rfl, rfl⟩
 ·rw [hoff] at c5
  rw [if_pos rfl]
  go_enter Tryz.func72, Tryz.ntmps72
  go_wp2
  go_ret
  exact ⟨rfl, rfl⟩
theorem SecMap.ne {w : World} {m N d : Nat} {f : Nat → List UInt8} {C : Array Value} {t : TypeId} (h : SecMap w m N f) (hd : w.heap[d]? = some (.cells C t)) : m ≠ d := by
 rintro rfl
 obtain ⟨_, _, _, ⟨es, clock, hb, _⟩, _⟩ := h
 rw [hd] at hb
 cases hb
theorem row_ne {w : World} {B d n : Nat} {sv : Value} {xs : List Value} {C : Array Value} {t e : TypeId} (h : w.ownsRow B e 129 sv n xs) (hd : w.heap[d]? = some (.cells C t)) (hne : t ≠ e) : sv.ownBlock ≠ some d := by
 obtain ⟨_, ⟨rfl, _⟩ | ⟨g, cap, cur, rfl, _, hb, _⟩⟩ := h
 ·simp [Value.ownBlock]
 ·intro x
  simp [Value.ownBlock] at x
  subst x
  rw [hd] at hb
  injection hb with hb
  injection hb with _ hb
  exact hne hb
theorem row_kept {w w' : World} {B d n : Nat} {sv : Value} {xs : List Value} {e : TypeId} (h : w.ownsRow B e 129 sv n xs) (hg : w.grownBy w' (some d)) (hne : sv.ownBlock ≠ some d) : w'.ownsRow B e 129 sv n xs := by
 refine ⟨h.1, ?_⟩
 rcases h.2 with h2 | ⟨g, cap, cur, rfl, h3, hb, h4⟩
 ·exact .inl h2
 ·have : g ≠ d := fun x => hne (by simp [Value.ownBlock, x])
  exact .inr ⟨g, cap, cur, rfl, h3, (hg.block g (Array.getElem?_eq_some_iff.1 hb).1 (fun x => this (Option.some.inj x))).trans hb, h4⟩
theorem ArmedAt.kept {w w' : World} {S : Nat → Prop} {d : Nat} {pa : Option Addr} {k : Option Nat} {C : Array Value} {t : TypeId} (h : ArmedAt w S pa k) (hd : w.heap[d]? = some (.cells C t)) (ht : t ≠ 3) (hg : w.grownBy w' (some d)) : ArmedAt w' S pa k := by
 cases k with
 | none => exact h
 | some k =>
  obtain ⟨b, e, hB, hb, hk⟩ := h
  have : b ≠ d := by
   rintro rfl
   rw [hd] at hb
   injection hb with hb
   injection hb with _ hb
   exact ht hb
  exact ⟨b, e, hB, (hg.block b (Array.getElem?_eq_some_iff.1 hb).1 (fun x => this (Option.some.inj x))).trans hb, hk⟩
theorem grown_set (w : World) (d j : Nat) (v : Value) : w.grownBy (w.setCell ⟨d, j, none⟩ v) (some d) :=
 ⟨rfl, rfl, rfl, by simp, fun i _ hi => heap_setCell_other w _ i v (fun x => hi (by rw [x]))⟩
theorem grown_trans {a b c : World} {d : Nat} (h : a.grownBy b (some d)) (k : b.grownBy c (some d)) : a.grownBy c (some d) := h.andThen k (fun _ hj => .inr hj)
theorem grown_off {a b : World} {d : Nat} {S : Nat → Prop} (h : a.grownBy b (some d)) (hS : S d) : Off S a b := Off.of_grown h (fun k e => by cases e; exact hS)
theorem grown_below {a b : World} {d B : Nat} (h : a.grownBy b (some d)) (hB : B ≤ d) (hs : B ≤ a.heap.size) : Below B a b :=
 ⟨h.os, h.tape, h.output, h.size, fun k hk => h.block k (by omega) (fun x => by injection x with x; omega)⟩
theorem frozen_blk {w : World} {b : Nat} {C : Array Value} {t : TypeId} (h : w.heap[b]? = some (.cells C t)) (j : Nat) : w.frozen? ⟨b, j, none⟩ = false := by
 simp only [World.frozen?, h]
 simp
theorem crash_at (S : Nat → Prop) (d : Nat) (D : Dsk) (w : World) (h : DiskAt w S d D) :
  Calls Tryz.prog 6 #[.pointer (some ⟨d, 0, none⟩)] w fun e w' => e = .returned (.tuple #[]) ∧ DiskAt w' S d { D with armed := none, off := true } ∧ Off S w w' := by
 obtain ⟨h1, h2, mb, mn, sv, pa, hd, hB, hmb, hmn, hne, hsb, hsn, hrow, hos, ha⟩ := h
 have c4 : w.cell? ⟨d, 4, none⟩ = some (.pointer pa) := cell_blk hd 4
 have c5 : w.cell? ⟨d, 5, none⟩ = some (.bool D.off) := cell_blk hd 5
 have z4 := frozen_blk hd 4
 have z5 := frozen_blk hd 5
 have HD := Lib.hid hd
 clear hd
 go_enter Tryz.func6, Tryz.ntmps6
 go_wp2
 go_end0
 have hg := grown_trans (grown_set w d 4 (.pointer none)) (grown_set _ d 5 (.bool true))
 have hd1 := heap_setCell_same w d 4 _ _ (.pointer none) HD.out
 have hd2 := heap_setCell_same _ d 5 _ _ (.bool true) hd1
 refine ⟨rfl, ⟨h1, h2, mb, mn, sv, none, by simpa using hd2, hB, hmb, hmn, hne, hsb.kept hg ?_, hsn.kept hg ?_, row_kept hrow hg (row_ne hrow HD.out (by decide)), hos, rfl⟩, grown_off hg hB⟩
 ·exact fun x => hsb.ne HD.out (Option.some.inj x)
 ·exact fun x => hsn.ne HD.out (Option.some.inj x)
theorem row_grown {w w' : World} {B n : Nat} {sv : Value} {xs : List Value} {e : TypeId} (h : w.ownsRow B e 129 sv n xs) (hg : w.grownBy w' none) : w'.ownsRow B e 129 sv n xs := by
 refine ⟨h.1, ?_⟩
 rcases h.2 with h2 | ⟨g, cap, cur, rfl, h3, hb, h4⟩
 ·exact .inl h2
 ·exact .inr ⟨g, cap, cur, rfl, h3, (hg.block g (Array.getElem?_eq_some_iff.1 hb).1 (by simp)).trans hb, h4⟩
theorem ArmedAt.grown {w w' : World} {S : Nat → Prop} {pa : Option Addr} {k : Option Nat} (h : ArmedAt w S pa k) (hg : w.grownBy w' none) : ArmedAt w' S pa k := by
 cases k with
 | none => exact h
 | some k =>
  obtain ⟨b, e, hB, hb, hk⟩ := h
  exact ⟨b, e, hB, (hg.block b (Array.getElem?_eq_some_iff.1 hb).1 (by simp)).trans hb, hk⟩
theorem DiskAt.grown {w w' : World} {S : Nat → Prop} {d : Nat} {D : Dsk} (h : DiskAt w S d D) (hg : w.grownBy w' none) : DiskAt w' S d D := by
 obtain ⟨h1, h2, mb, mn, sv, pa, hd, hB, hmb, hmn, hne, hsb, hsn, hrow, hos, ha⟩ := h
 exact ⟨h1, h2, mb, mn, sv, pa, (hg.block d (Array.getElem?_eq_some_iff.1 hd).1 (by simp)).trans hd, hB, hmb, hmn, hne, hsb.kept hg (by simp), hsn.kept hg (by simp), row_grown hrow hg, hos, ha.grown hg⟩
theorem DiskAt.lt {w : World} {S : Nat → Prop} {d : Nat} {D : Dsk} (h : DiskAt w S d D) : d < w.heap.size := by
 obtain ⟨h1, h2, mb, mn, sv, pa, hd, _⟩ := h
 exact (Array.getElem?_eq_some_iff.1 hd).1
theorem on_at (S : Nat → Prop) (d : Nat) (D : Dsk) (w : World) (h : DiskAt w S d D) :
  Calls Tryz.prog 44 #[.pointer (some ⟨d, 0, none⟩)] w fun e w' => e = .returned (.tuple #[]) ∧ DiskAt w' S d { D with armed := none, off := false } ∧ Off S w w' := by
 obtain ⟨h1, h2, mb, mn, sv, pa, hd, hB, hmb, hmn, hne, hsb, hsn, hrow, hos, ha⟩ := h
 have c4 : w.cell? ⟨d, 4, none⟩ = some (.pointer pa) := cell_blk hd 4
 have c5 : w.cell? ⟨d, 5, none⟩ = some (.bool D.off) := cell_blk hd 5
 have z4 := frozen_blk hd 4
 have z5 := frozen_blk hd 5
 have HD := Lib.hid hd
 clear hd
 go_enter Tryz.func44, Tryz.ntmps44
 go_wp2
 go_end0
 have hg := grown_trans (grown_set w d 4 (.pointer none)) (grown_set _ d 5 (.bool false))
 have hd1 := heap_setCell_same w d 4 _ _ (.pointer none) HD.out
 have hd2 := heap_setCell_same _ d 5 _ _ (.bool false) hd1
 refine ⟨rfl, ⟨h1, h2, mb, mn, sv, none, by simpa using hd2, hB, hmb, hmn, hne, hsb.kept hg ?_, hsn.kept hg ?_, row_kept hrow hg (row_ne hrow HD.out (by decide)), hos, rfl⟩, grown_off hg hB⟩
 ·exact fun x => hsb.ne HD.out (Option.some.inj x)
 ·exact fun x => hsn.ne HD.out (Option.some.inj x)
theorem fail_at (S : Nat → Prop) (d : Nat) (D : Dsk) (i : Int) (hi : i ≤ 9223372036854775807) (w : World) (hS : ∀ b, w.heap.size ≤ b → S b) (h : DiskAt w S d D) :
  Calls Tryz.prog 41 #[.pointer (some ⟨d, 0, none⟩), .int .i64 i] w fun e w' => e = .returned (.tuple #[]) ∧ DiskAt w' S d { D with armed := if 0 ≤ i then some i.toNat else none } ∧ Off S w w' := by
 have hlt0 := h.lt
 have hg0 := World.grownBy_alloc w (.cells #[.int .i64 i] 3) none
 have h' := h.grown hg0
 obtain ⟨h1, h2, mb, mn, sv, pa, hd, hB, hmb, hmn, hne, hsb, hsn, hrow, hos, ha⟩ := h'
 have hnew : (w.alloc (.cells #[.int .i64 i] 3)).heap[w.heap.size]? = some (.cells #[.int .i64 i] 3) := (MapKept.heap_alloc w _).1
 have HNEW := Lib.hid hnew
 have HD := Lib.hid hd
 have cn := cell_new w #[.int .i64 i] 3 0
 have c4 : (w.alloc (.cells #[.int .i64 i] 3)).cell? ⟨d, 4, none⟩ = some (.pointer pa) := cell_blk hd 4
 have z4 := frozen_blk hd 4
 have hdn : d ≠ w.heap.size := by omega
 clear hd hnew
 have fin : ∀ (v : Option Addr) (k : Option Nat) (w' : World), (w.alloc (.cells #[.int .i64 i] 3)).grownBy w' (some d) → w'.heap[d]? = some (.cells #[.int .i64 (D.n : Int), .map (some mb), .map (some mn), sv, .pointer v, .bool D.off] 59) → ArmedAt w' S v k →
   DiskAt w' S d { D with armed := k } ∧ Off S w w' := by
  intro v k w' hg hd' ha'
  refine ⟨⟨h1, h2, mb, mn, sv, v, hd', hB, hmb, hmn, hne, hsb.kept hg ?_, hsn.kept hg ?_, row_kept hrow hg (row_ne hrow HD.out (by decide)), hos, ha'⟩, (Off.of_grown hg0 (by simp)).trans (grown_off hg hB)⟩
  ·exact fun x => hsb.ne HD.out (Option.some.inj x)
  ·exact fun x => hsn.ne HD.out (Option.some.inj x)
 have HF := Lib.hid fin
 clear fin hsb hsn hrow ha h2
 have hd1 := heap_setCell_same _ d 4 _ _ (.pointer none) HD.out
 have HD1 := Lib.hid hd1
 have z5 := frozen_blk hd1 4
 have c5 := cell_blk hd1 4
 have cn5 : ((w.alloc (.cells #[.int .i64 i] 3)).setCell ⟨d, 4, none⟩ (.pointer none)).cell? ⟨w.heap.size, 0, none⟩ = some (.int .i64 i) :=
  cell_blk ((heap_setCell_other _ ⟨d, 4, none⟩ w.heap.size (.pointer none) (Ne.symm hdn)).trans HNEW.out) 0
 clear hd1
 have hcm : ∀ v, (w.alloc (.cells #[.int .i64 i] 3)).setCell ⟨d, 4, none⟩ v = (w.setCell ⟨d, 4, none⟩ v).alloc (.cells #[.int .i64 i] 3) := fun v => World.setCell_alloc_past (w := w) _ d 4 v hlt0
 have hcm2 : ∀ v v', ((w.alloc (.cells #[.int .i64 i] 3)).setCell ⟨d, 4, none⟩ v).setCell ⟨d, 4, none⟩ v' = ((w.setCell ⟨d, 4, none⟩ v).setCell ⟨d, 4, none⟩ v').alloc (.cells #[.int .i64 i] 3) := fun v v' => by
  rw [hcm]
  exact World.setCell_alloc_past (w := w.setCell ⟨d, 4, none⟩ v) _ d 4 v' (by simpa using hlt0)
 rw [hcm] at z5 c5 cn5
 have HCM := Lib.hid hcm
 have HCM2 := Lib.hid hcm2
 clear hcm hcm2
 by_cases h0 : 0 ≤ i
 ·have d0 : decide (0 ≤ i) = true := by simp [h0]
  rw [if_pos h0]
  have H0 := Lib.hid h0
  clear h0
  go_enter Tryz.func41, Tryz.ntmps41
  go_wp2
  go_end0
  rw [← HCM2.out]
  refine ⟨rfl, HF.out (some ⟨w.heap.size, 0, none⟩) _ _ (grown_trans (grown_set _ d 4 _) (grown_set _ d 4 _)) (by simpa using heap_setCell_same _ d 4 _ _ (.pointer (some ⟨w.heap.size, 0, none⟩)) HD1.out) ⟨_, rfl, hS _ (Nat.le_refl _), ?_, by have := H0.out; omega⟩⟩
  rw [Int.toNat_of_nonneg H0.out]
  exact ((heap_setCell_other _ ⟨d, 4, none⟩ w.heap.size _ (Ne.symm hdn)).trans ((heap_setCell_other _ ⟨d, 4, none⟩ w.heap.size _ (Ne.symm hdn)))).trans HNEW.out
 ·have d0 : decide (0 ≤ i) = false := by simp; omega
  rw [if_neg h0]
  clear h0
  go_enter Tryz.func41, Tryz.ntmps41
  go_wp2
  go_end0
  rw [← HCM.out]
  exact ⟨rfl, HF.out none none _ (grown_set _ d 4 _) (by simpa using HD1.out) rfl⟩
def freshDisk (n : Nat) : Dsk := ⟨n, fun _ => noughts, fun _ => noughts, [], none, false⟩
theorem new_at (i : Int) (w : World) :
  Calls Tryz.prog 5 #[.int .i64 i] w fun e w' => ∃ d, e = .returned (.pointer (some ⟨d, 0, none⟩)) ∧ DiskAt w' (fun b => w.heap.size ≤ b) d (freshDisk (max 0 (min 16384 i)).toNat) ∧ Off (fun _ => False) w w' := by
 obtain ⟨n, hn⟩ : ∃ n : Nat, (n : Int) = max 0 (min 16384 i) := ⟨(max 0 (min 16384 i)).toNat, by omega⟩
 obtain ⟨m, hm⟩ : ∃ m : Int, m = min 16384 i := ⟨_, rfl⟩
 have hmn : ∀ (w : World) (ts : Array TypeId) (t : TypeId), (Builtin.min_ ts t #[.int .i64 16384, .int .i64 i]).run Tryz.prog w = .ok (.int .i64 m) w := fun w ts t => by
  rw [run_min_int2]
  congr 2
  split <;> omega
 have hmx : ∀ (w : World) (ts : Array TypeId) (t : TypeId), (Builtin.max_ ts t #[.int .i64 0, .int .i64 m]).run Tryz.prog w = .ok (.int .i64 (n : Int)) w := fun w ts t => by
  rw [run_max_int2]
  congr 2
  split <;> omega
 have hmk : ∀ w : World, (Instr.makeMap 55 none).run Tryz.prog w = .ok (.map (some w.heap.size)) (w.alloc (.map #[] 0)) := fun _ => rfl
 have hn2 : n ≤ 16384 := by omega
 rw [← hn, Int.toNat_natCast]
 clear hn hm
 go_enter Tryz.func5, Tryz.ntmps5
 go_wp2
 go_ret
 have s1 : (w.alloc (.map #[] 0)).heap.size = w.heap.size + 1 := World.size_alloc ..
 have s2 : ((w.alloc (.map #[] 0)).alloc (.map #[] 0)).heap.size = w.heap.size + 2 := by rw [World.size_alloc, s1]
 have m1 := ((SecMap.made w n).kept (World.grownBy_alloc _ (.map #[] 0) none) (by simp)).kept (World.grownBy_alloc _ (.cells #[.int .i64 (n : Int), .map (some w.heap.size), .map (some (w.heap.size + 1)), .slice none 0 0, .pointer none, .bool false] 59) none) (by simp)
 have m2 := (SecMap.made (w.alloc (.map #[] 0)) n).kept (World.grownBy_alloc _ (.cells #[.int .i64 (n : Int), .map (some w.heap.size), .map (some (w.heap.size + 1)), .slice none 0 0, .pointer none, .bool false] 59) none) (by simp)
 have hd := (MapKept.heap_alloc ((w.alloc (.map #[] 0)).alloc (.map #[] 0)) (.cells #[.int .i64 (n : Int), .map (some w.heap.size), .map (some (w.heap.size + 1)), .slice none 0 0, .pointer none, .bool false] 59)).1
 rw [s1] at m2
 rw [s2] at hd
 exact ⟨w.heap.size + 2, rfl, ⟨hn2, by simp [freshDisk], w.heap.size, w.heap.size + 1, .slice none 0 0, none, hd, by show _ ≤ _; omega, by show _ ≤ _; omega, by show _ ≤ _; omega, by omega, m1, m2, ⟨rfl, .inl ⟨rfl, rfl⟩⟩, by simp [Value.ownBlock], rfl⟩,
  ((Off.of_grown (World.grownBy_alloc w _ none) (by simp)).trans (Off.of_grown (World.grownBy_alloc _ _ none) (by simp))).trans (Off.of_grown (World.grownBy_alloc _ _ none) (by simp))⟩
theorem look_at {w : World} {b N i : Nat} {f : Nat → List UInt8} (h : SecMap w b N f) (hi : i < N) (hN : N ≤ 16384) :
  (f i).length = 128 ∧ (Instr.lookup 55 (.map (some b)) (.int .i64 (i : Int)) false).run Tryz.prog w = .ok (secV (f i)) w := by
 obtain ⟨n, D, hn, hown, hk, hf⟩ := h
 obtain ⟨v, ps, hrun, hv⟩ := hown.lookup intKeyed Tryz.underlying55 (zero_sec w) (secR_mk noughts_length) (keyOf_nat (i := i) (by omega))
 rw [hf i hi] at hv
 obtain ⟨l, hl, rfl, e⟩ := secR_inv hv
 have e1 : f i = l := by
  injection e with e1 _
  injection e1 with e1
  injection e1
 rw [e1]
 exact ⟨hl, hrun⟩
theorem wpList_store_sec {ops : Array Oper} {rest : List Oper} {op : Oper} {a : Act} {w : World} {Q : Exit → Act → World → Prop} (hgd : op.guard = none) (x y : Operand) (ho : op.op = .store 110 x y)
  (b o : Nat) (l : List UInt8) (hl : l.length = 128) (hx : a.eval x = .pointer (some ⟨b, o, none⟩)) (hy : a.eval y = secV l) (ht : w.there b o 128)
  (h : wpList Tryz.prog ops Q rest (a.put op.dst undef) (w.setCells b o (u8s l))) : wpList Tryz.prog ops Q (op :: rest) a w :=
 wpList_store_mid hgd _ x y ho b o (u8s l).toArray hx hy (by simpa [u8s_length, hl] using ht) (by rw [size_sec]; simp [u8s_length, hl])
  (by simp [u8s]; intro i hi; rfl) (by simpa using h)
theorem there_new (w : World) (C : Array Value) (t : TypeId) (n : Nat) (hn : n ≤ C.size) : (w.alloc (.cells C t)).there w.heap.size 0 n := fun j hj => by
 rw [Nat.zero_add, cell_new]
 exact ⟨by simp; omega, frozen_blk (MapKept.heap_alloc w _).1 j⟩
theorem read_ok (S : Nat → Prop) (d i : Nat) (D : Dsk) (w : World) (h : DiskAt w S d D) (hi : i < D.n) (ho : D.off = false) :
  Calls Tryz.prog 58 #[.pointer (some ⟨d, 0, none⟩), .int .i64 (i : Int)] w fun e w' => e = .returned (.tuple #[.slice (some ⟨w.heap.size, 0, none⟩) 128 128, .int .i64 0]) ∧ w' = (w.alloc (.cells (u8s noughts).toArray 110)).setCells w.heap.size 0 (u8s (D.now i)) := by
 have hask := asked_at S d D (i : Int) w h
 rw [show askedN D (i : Int) = 0 by unfold askedN; rw [if_neg (by simp [ho]), if_neg (by omega)]] at hask
 obtain ⟨h1, _, mb, mn, sv, pa, hd, _, _, _, _, _, hsn, _⟩ := h
 obtain ⟨hl, hlk⟩ := look_at hsn hi h1
 have c2 : w.cell? ⟨d, 2, none⟩ = some (.map (some mn)) := cell_blk hd 2
 have hzs := zero_sec
 have HL := Lib.hid hl
 have HT := Lib.hid (there_new w (u8s noughts).toArray 110 128 (by simp [u8s_length, noughts_length]))
 have HA := Lib.hid hask
 clear hd hask hl hsn
 go_enter Tryz.func58, Tryz.ntmps58
 go_wp2_with fail
 refine HA.out.mono ?_
 rintro e w' ⟨rfl, rfl⟩
 go_wp2_with (first
  | (refine wpList_store_sec rfl _ _ rfl w.heap.size 0 (D.now i) HL.out rfl rfl HT.out ?_; go_frame)
  | go_in)
 go_ret2
 exact ⟨rfl, rfl⟩
theorem grown_cells (w : World) (b : Nat) : ∀ (vs : List Value) (o : Nat), w.grownBy (w.setCells b o vs) (some b)
 | [], _ => ⟨rfl, rfl, rfl, Nat.le_refl _, fun _ _ _ => rfl⟩
 | v :: r, o => grown_trans (grown_set w b o v) (grown_cells _ b r (o + 1))
theorem grown_new (w : World) (o : Obj) (vs : List Value) (k : Nat) : w.grownBy ((w.alloc o).setCells w.heap.size k vs) none := by
 have h1 := World.grownBy_alloc w o none
 have h2 := grown_cells (w.alloc o) w.heap.size vs k
 exact ⟨h2.os.trans h1.os, h2.tape.trans h1.tape, h2.output.trans h1.output, Nat.le_trans h1.size h2.size, fun j hj _ => (h2.block j (by rw [World.size_alloc]; omega) (fun e => by injection e with e; omega)).trans (h1.block j hj (by simp))⟩
theorem range_new (w : World) (C : Array Value) (t : TypeId) (vs : List Value) (h : vs.length ≤ C.size) : ((w.alloc (.cells C t)).setCells w.heap.size 0 vs).rangeAt w.heap.size 0 vs :=
 World.rangeAt_setCells_same _ _ _ _ (there_new w C t _ h)
theorem copy_at (bd bs N : Nat) (g : Nat → List UInt8) (w : World) (hN : N ≤ 16384) (hd : w.ownsMap Tryz.prog 3 secR bd 0 (.map [])) (hs : SecMap w bs N g) (hne : bd ≠ bs) :
  Calls Tryz.prog 78 #[.map (some bd), .map (some bs)] w fun e w' => e = .returned (.tuple #[]) ∧ SecMap w' bd N g ∧ w.grownBy w' (some bd) := by
 obtain ⟨ns, Ds, hns, hs, hk, hf⟩ := hs
 have hsz := size_le hs hk
 have hbd := hd.lt
 have hbs := hs.lt
 have hzs := zero_sec
 have hroom : Maps.size Ds ≤ maxLen := by unfold maxLen; omega
 have HSZ := Lib.hid hsz
 have HF := Lib.hid hf
 have HK := Lib.hid hk
 clear hf hk hsz
 go_enter Tryz.func78, Tryz.ntmps78
 go_wp2_with (first
  | (at_range; refine wpList_range_own _ rfl _ 55 rfl 3 110 intKeyed Tryz.underlying55 secR bs ns _ rfl hs ?_; intro w0 hrg0 hg0 hs0)
  | go_in)
 go_frame
 go_loopw [8] (fun _ wr => ∃ (left : Lit → Bool) (cnt : Nat) (Dout : DataW Unit), wr.ranges Tryz.prog 3 secR bs w.heap.size ns Ds left cnt ∧ cnt ≤ Maps.size Ds ∧
   wr.ownsMap Tryz.prog 3 secR bd (Maps.size Ds - cnt) Dout ∧ Merged Dout (.map []) Ds left ∧ w.grownBy wr (some bd))
  (fun _ wr => wr.rangeLeft bs w.heap.size)
 case atStart =>
  exact ⟨_, _, .map [], hrg0, Nat.le_refl _, (hd.kept hg0 (by simp)).mono (by omega), merged_start _ Ds, hg0.but _⟩
 case round =>
  obtain ⟨left, cnt, Dout, hrg, hcs, hout, hM, hgw⟩ := hrel
  go_wp2_with (first
   | (at_next; refine wpList_next_ranges _ rfl _ rfl 3 intKeyed secR id id (fun key _ _ => ⟨key, rfl⟩) (fun v _ _ => ⟨v, rfl⟩) bs w.heap.size ns _ _ _ rfl hrg ?_ ?_)
   | go_in)
  ·intro hc0 hl0
   go_wp2
   go_end0
   subst hc0
   refine ⟨rfl, ⟨_, Dout, ?_, hout, ?_, ?_⟩, hgw⟩
   ·have := HSZ.out
    omega
   ·intro k hh
    rw [hM.1 k, hl0 k] at hh
    exact HK.out k (by simpa [has_eq] using hh)
   ·intro i hi
    rw [hM.2, hl0]
    cases hh : has Ds (key i)
    ·have := HF.out i hi
     have hA : ∀ z, Ds.atKey (key i) z = z := by
      intro z
      obtain ⟨es, rfl, _⟩ := hrg.owns.canon intKeyed
      rw [has_eq, List.any_eq_false] at hh
      simp only [DataW.atKey]
      rw [List.find?_eq_none.2 (fun p hp => by simpa using hh p hp)]
     rw [hA] at this
     rw [← this]
     simp [DataW.atKey]
    ·simpa using HF.out i hi
  ·intro x c kl yd yp w1 cnt1 hkey hlx hv hat hrg1 hlt hg1 hs1 hen
   have hout1 := hout.kept hg1 (fun e => by have := Option.some.inj e; omega)
   obtain ⟨l, hl, ev, ez⟩ := secR_inv hv
   subst ev
   cases ez
   have HL := Lib.hid hl
   have ht := there_new w1 (u8s noughts).toArray 110 128 (by simp [u8s_length, noughts_length])
   have hgn := grown_new w1 (.cells (u8s noughts).toArray 110) (u8s l) 0
   have hr := range_new w1 (u8s noughts).toArray 110 (u8s l) (by simp [u8s_length, noughts_length, hl])
   rw [hs1] at ht hgn hr
   have HT := Lib.hid ht
   have HR := Lib.hid hr
   have hout2 := hout1.kept hgn (by simp)
   have hrg2 := hrg1.kept hgn (by simp) (by simp)
   have HRG2 := Lib.hid hrg2
   have HGN := Lib.hid hgn
   clear hl hrg2 hgn ht hr
   go_wp2_with (first
    | (at_mapUpdate; refine wpList_mapUpdate_own _ rfl _ _ _ 55 rfl 3 110 intKeyed Tryz.underlying55 secR bd _ _ rfl hout2 (by omega) _ _ _ rfl rfl hkey _ _ hv ?_; intro w2 hout3 hg2; go_frame)
    | (refine wpList_store_sec rfl _ _ rfl wr.heap.size 0 l HL.out rfl rfl HT.out ?_; go_frame)
    | (refine wpList_load_sec rfl _ rfl wr.heap.size 0 rfl l HL.out HR.out ?_; go_frame)
    | go_in)
   have hrg3 := HRG2.out.kept hg2 (fun e => hne (Option.some.inj e).symm) (fun e => by have := Option.some.inj e; omega)
   go_roundw
   case rel =>
    exact ⟨_, cnt1, _, hrg3, by omega, hout3.mono (by omega), merged_step hM hout.isMap (intKeyed.key hkey) hat, ((hgw.andThen hg1 (fun j hj => .inl (by cases hj; exact Nat.le_refl _))).andThen (HGN.out.but _) (fun j hj => .inr hj)).andThen hg2 (fun j hj => .inr hj)⟩
   case measure => rw [hrg3.left_eq, hrg.left_eq]; exact hlt
theorem run_eql_map (w : World) (t k e : TypeId) (p : Option Nat) (h : Tryz.prog.underlying t = some (.map k e)) :
  (binOp .eql t (.map p) (.map none)).run Tryz.prog w = .ok (.bool p.isNone) w := Go.Proofs.run_eql_map_nil_sl w t k e p h
theorem clone_at (b N : Nat) (f : Nat → List UInt8) (w : World) (h : SecMap w b N f) :
  Calls Tryz.prog 79 #[.map (some b)] w fun e w' => e = .returned (.map (some w.heap.size)) ∧ SecMap w' w.heap.size N f ∧ w.grownBy w' none := by
 obtain ⟨n, D, hn, hown, hk, hf⟩ := h
 have hlt := hown.lt
 obtain ⟨es, clock, hb, F, hs, hD⟩ := hown
 have hq := fun w => run_eql_map w 55 _ _ (some b) Tryz.underlying55
 have fin : SecMap (w.alloc (.map es clock)) w.heap.size N f := ⟨n, D, hn, ⟨es, clock, (MapKept.heap_alloc w _).1, F, hs, hD⟩, hk, hf⟩
 have FIN := Lib.hid fin
 clear fin hk hf F hs hD
 go_enter Tryz.func79, Tryz.ntmps79
 go_wp2
 rw [run_callFunc_extern Tryz.func96 (by kernel_rfl) (by kernel_rfl) (by kernel_rfl) (e := Extern.MapsClone.clone) (by kernel_rfl), Go.Proofs.run_maps_clone_sl w 55 hb]
 simp only [Result.andThen]
 rw [Oper.upon_value]
 go_wp2
 rw [Go.Proofs.run_typeAssert_map_sl _ 55 20 _ _ _ Tryz.underlying55]
 simp only [Result.andThen]
 rw [Oper.upon_value]
 go_wp2
 go_ret
 exact ⟨rfl, FIN.out, World.grownBy_alloc w _ none⟩
theorem zero_wr (w : World) : (zeroValue 112).run Tryz.prog w = .ok (.agg (wrA 0 noughts)) w := by kernel_rfl
theorem size_wr : (Tryz.prog.info? 112).map (·.size) = some 129 := by kernel_rfl
theorem build_wr (w : World) (i : Nat) : (Instr.build 112 #[(0, .int .i64 (i : Int))]).run Tryz.prog w = .ok (.agg (wrA i noughts)) w := by kernel_rfl
theorem info_wr : (Tryz.prog.info? 112).map (fun i => (i.zero, i.size, i.bytes)) = some (some (.agg (wrA 0 noughts)), 129, 136) := by kernel_rfl
theorem wrA_size (i : Nat) (l : List UInt8) : (wrA i l).size = l.length + 1 := by simp [wrA, u8s_length]
theorem wrA_list (i : Nat) (l : List UInt8) : (wrA i l).toList = .int .i64 (i : Int) :: u8s l := by simp [wrA]
theorem wrA_one (i : Nat) (l : List UInt8) : ∀ v ∈ (wrA i l).toList, v.oneCell' = true := by
 intro v hv
 rw [wrA_list] at hv
 rcases List.mem_cons.1 hv with rfl | hv
 ·rfl
 ·simp only [u8s, List.mem_map] at hv
  obtain ⟨c, _, rfl⟩ := hv
  rfl
theorem u8s_one (l : List UInt8) : ∀ v ∈ u8s l, v.oneCell' = true := by
 intro v hv
 simp only [u8s, List.mem_map] at hv
 obtain ⟨c, _, rfl⟩ := hv
 rfl
theorem fill_one (cs A : Array Value) (n : Nat) (hn : 0 < n) (h1 : cs.size = n) (h2 : A.size = n) : Instr.fill (fun i => some (i * n, n)) A [(0, .agg cs)] = some cs := by
 have := Great.fill_whole hn [.agg cs] A (by simpa [Value.cells] using h1) (by simpa using h2.symm)
 simpa [Value.cells] using this
theorem run_one_wr (w : World) (i : Nat) (l : List UInt8) (hl : l.length = 128) : (Instr.buildSlice 56 1 #[(0, .agg (wrA i l))]).run Tryz.prog w = .ok (.slice (some ⟨w.heap.size, 0, none⟩) 1 1) (w.alloc (.cells (wrA i l) 112)) := by
 obtain ⟨i0, hi0, he⟩ := Option.map_eq_some_iff.1 info_wr
 simp only [Prod.mk.injEq] at he
 refine run_buildSlice w _ _ 1 _ _ i0 _ Tryz.underlying56 hi0 he.1 (by rw [he.2.1]; decide) (by rw [he.2.1]; decide) ?_
 rw [he.2.1]
 exact fill_one _ _ 129 (by decide) (by rw [wrA_size, hl]) (by simp)
section
variable {P : Program} {ops : Array Oper} {o : Oper} {a : Act} {w : World} {K : Act → World → Prop} {Q : Exit → Act → World → Prop} {E : Prop}
theorem step_append_own (hg : o.guard = none) (s x : Operand) (t e : TypeId) (hop : o.op = Op.call { callee := Callee.builtin Builtin.append, args := #[s, x], argTypes := #[t, t] })
  (i : TypeInfo) (z : Value) (size bytes : Nat) (ht : P.underlying t = some (.slice e)) (hi : P.info? e = some i) (hz : i.zero = some z) (hsize : i.size = size) (hby : i.bytes = bytes) (hzs : z.cells.size = size) (hsz : 0 < size)
  (base : Nat) (v : Value) (n : Nat) (xs : List Value) (hown : w.ownsRow base e size v n xs) (hs : a.eval s = v)
  (ad : Addr) (m c : Nat) (news : List Value) (hx : a.eval x = .slice (some ad) m c) (hl : news.length = m * size) (hnews : ∀ j u, news[j]? = some u → w.cell? (ad.add j) = some u) (h1 : ∀ u ∈ news, u.oneCell' = true)
  (h63 : n + m ≤ maxLen) (hbytes : (n + m) * bytes ≤ 140737488355328) (hbase : base ≤ w.heap.size)
  (hK : ∀ v' w', w'.ownsRow base e size v' (n + m) (xs ++ news) → w.grownBy w' v.ownBlock → (v'.ownBlock = v.ownBlock ∨ v'.ownBlock = some w.heap.size) → K (a.put o.dst v') w') :
  if Region.wanted o (yielded ops a.tmps) = true then Oper.wp P o a w K Q else E := by
 have hw : Region.wanted o (yielded ops a.tmps) = true := by simp [Region.wanted, hg]
 rw [if_pos hw]
 obtain ⟨v', w', hrun, hown', hgr, _, hob⟩ := run_append_own_at (P := P) w base t o.type e i z size bytes ht hi hz hsize hby hzs hsz v n xs hown ad m c news hl hnews h1 h63 hbytes hbase
 unfold Oper.wp
 simp [execOp, hop, resolve, invoke, builtin, hs, hx, hrun, Result.andThen]
 exact hK v' w' hown' hgr hob
theorem step_wp (hg : o.guard = none) (h : Oper.wp P o a w K Q) : if Region.wanted o (yielded ops a.tmps) = true then Oper.wp P o a w K Q else E := by
 have hw : Region.wanted o (yielded ops a.tmps) = true := by simp [Region.wanted, hg]
 rw [if_pos hw]
 exact h
end
def RowB (w : World) (S : Nat → Prop) (A : Option Addr) (l : List UInt8) : Prop := l = [] ∨ ∃ b off, A = some ⟨b, off, none⟩ ∧ ¬ S b ∧ w.rangeAt b off (u8s l)
theorem RowB.off {w w' : World} {S : Nat → Prop} {A : Option Addr} {l : List UInt8} (h : RowB w S A l) (hb : Off S w w') : RowB w' S A l := by
 rcases h with h | ⟨b, off, e, hS, hr⟩
 ·exact .inl h
 ·refine .inr ⟨b, off, e, hS, fun j v hv => ?_⟩
  have := hr j v hv
  exact (World.cell?_of_block (a := ⟨b, off + j, none⟩) (hb.block b (World.block_lt_of_cell? w _ this) hS)).trans this
theorem RowB.grown {w w' : World} {S : Nat → Prop} {A : Option Addr} {l : List UInt8} (h : RowB w S A l) (hg : w.grownBy w' none) : RowB w' S A l := by
 rcases h with h | ⟨b, off, e, hB, hr⟩
 ·exact .inl h
 ·refine .inr ⟨b, off, e, hB, fun j v hv => ?_⟩
  exact hg.cell (hr j v hv) (by simp)
def pad (l : List UInt8) : List UInt8 := l ++ List.replicate (128 - l.length) 0
theorem pad_length (l : List UInt8) (h : l.length ≤ 128) : (pad l).length = 128 := by simp [pad]; omega
def wr0 (w : World) (i : Nat) : World := (w.alloc (.cells (wrA 0 noughts) 112)).setCells w.heap.size 0 (wrA i noughts).toList
theorem wr0_there (w : World) (i : Nat) : (wr0 w i).there w.heap.size 0 129 := by
 refine World.there_setCells ?_ _ _ _
 exact there_new w _ _ _ (by rw [wrA_size, noughts_length]; omega)
theorem wr0_size (w : World) (i : Nat) : (wr0 w i).heap.size = w.heap.size + 1 := by
 unfold wr0
 have h1 := grown_cells (w.alloc (.cells (wrA 0 noughts) 112)) w.heap.size (wrA i noughts).toList 0
 have h2 : ∀ (vs : List Value) (o : Nat) (w : World) (b : Nat), (w.setCells b o vs).heap.size = w.heap.size := by
  intro vs
  induction vs with
  | nil => intro _ _ _; rfl
  | cons v r ih => intro o w b; simp [World.setCells, ih]
 rw [h2, World.size_alloc]
theorem laid_size (w : World) (i : Nat) (l : List UInt8) : ((wr0 w i).setCells w.heap.size 1 (u8s l)).heap.size = w.heap.size + 1 := by
 have h2 : ∀ (vs : List Value) (o : Nat) (w : World) (b : Nat), (w.setCells b o vs).heap.size = w.heap.size := by
  intro vs
  induction vs with
  | nil => intro _ _ _; rfl
  | cons v r ih => intro o w b; simp [World.setCells, ih]
 rw [h2, wr0_size]
theorem wr0_grown (w : World) (i : Nat) : w.grownBy (wr0 w i) none := grown_new w _ _ 0
theorem laid_grown (w : World) (i : Nat) (l : List UInt8) : w.grownBy ((wr0 w i).setCells w.heap.size 1 (u8s l)) none := by
 have h1 := wr0_grown w i
 have h2 := grown_cells (wr0 w i) w.heap.size (u8s l) 1
 exact ⟨h2.os.trans h1.os, h2.tape.trans h1.tape, h2.output.trans h1.output, Nat.le_trans h1.size h2.size, fun j hj _ => (h2.block j (by rw [wr0_size]; omega) (fun e => by injection e with e; omega)).trans (h1.block j hj (by simp))⟩
theorem u8s_zero (l : List UInt8) (j : Nat) (h1 : l.length ≤ j) (h2 : j < 128) (hl : l.length ≤ 128) : (u8s (pad l))[j]? = (u8s noughts)[j]? := by
 simp only [u8s, pad, noughts, List.getElem?_map, List.getElem?_append_right h1, List.getElem?_replicate]
 rw [if_pos (by omega), if_pos h2]
theorem laid (w : World) (i : Nat) (l : List UInt8) (hl : l.length ≤ 128) : ((wr0 w i).setCells w.heap.size 1 (u8s l)).rangeAt w.heap.size 0 (wrA i (pad l)).toList := by
 have ht := wr0_there w i
 have hr : (wr0 w i).rangeAt w.heap.size 0 (wrA i noughts).toList := World.rangeAt_setCells_same _ _ _ _ (by
  have := there_new w (wrA 0 noughts) 112 129 (by rw [wrA_size, noughts_length]; omega)
  simpa [wrA_size, noughts_length] using this)
 intro j v hv
 rw [wrA_list] at hv
 by_cases h0 : j = 0
 ·subst h0
  rw [World.cell?_setCells_out _ _ _ _ _ (fun _ _ => .inl (by simp))]
  exact hr 0 v (by rw [wrA_list]; simpa using hv)
 ·obtain ⟨q, rfl⟩ : ∃ q, j = q + 1 := ⟨j - 1, by omega⟩
  rw [List.getElem?_cons_succ] at hv
  by_cases hq : q < l.length
  ·have := World.rangeAt_setCells_same (wr0 w i) w.heap.size 1 (u8s l) (fun j hj => by
    have := ht (1 + j) (by simp [u8s_length] at hj; omega)
    rwa [Nat.zero_add] at this) q v (by
     rw [← hv]
     simp only [u8s, pad, List.map_append]
     rw [List.getElem?_append_left (by simpa using hq)])
   rwa [show 0 + (q + 1) = 1 + q by omega]
  ·rw [World.cell?_setCells_out _ _ _ _ _ (fun _ _ => .inr (by simp [u8s_length]; omega))]
   refine hr (q + 1) v ?_
   rw [wrA_list, List.getElem?_cons_succ, ← u8s_zero l q (by omega) ?_ hl]
   ·exact hv
   ·have := (List.getElem?_eq_some_iff.1 hv).1
    rw [u8s_length, pad_length l hl] at this
    exact this
theorem wpList_store_wr {ops : Array Oper} {rest : List Oper} {op : Oper} {a : Act} {w : World} {Q : Exit → Act → World → Prop} (hgd : op.guard = none) (x y : Operand) (ho : op.op = .store 112 x y)
  (b : Nat) (i : Nat) (l : List UInt8) (hl : l.length = 128) (hx : a.eval x = .pointer (some ⟨b, 0, none⟩)) (hy : a.eval y = .agg (wrA i l)) (ht : w.there b 0 129)
  (h : wpList Tryz.prog ops Q rest (a.put op.dst undef) (w.setCells b 0 (wrA i l).toList)) : wpList Tryz.prog ops Q (op :: rest) a w :=
 wpList_store_mid hgd _ x y ho b 0 (wrA i l) hx hy (by simpa [wrA_size, hl] using ht) (by rw [size_wr]; simp [wrA_size, hl])
  (Array.all_eq_true_iff_forall_mem.2 (fun v hv => wrA_one i l v (by simpa using hv))) h
theorem run_copy_sec (w : World) (ty : TypeId) (g : Nat) (S : Nat → Prop) (A : Option Addr) (l : List UInt8) (cap : Nat) (hl : l.length ≤ 128) (hr : RowB w S A l) (ht : w.there g 0 129) :
  (Builtin.copy_ #[28, 28] ty #[.slice (some ⟨g, 1, none⟩) 128 128, .slice A l.length cap]).run Tryz.prog w = .ok (goInt l.length) (w.setCells g 1 (u8s l)) := by
 have hsz : (Tryz.prog.info? 5).map (·.size) = some 1 := by kernel_rfl
 rcases hr with rfl | ⟨b, off, rfl, _, hr⟩
 ·exact run_copy_none w _ _ _ _ _ _ 128 128 0 cap Tryz.underlying28 hsz (by simp)
 ·have := run_copy_cells (P := Tryz.prog) w 28 28 ty 5 g 1 128 128 ⟨b, off, none⟩ l.length cap (u8s l) Tryz.underlying28 hsz (by rw [u8s_length]; exact (Nat.min_eq_left hl).symm)
   (fun j v hv => by
    have hadd : (⟨b, off, none⟩ : Addr).add j = ⟨b, off + j, none⟩ := by unfold Addr.add; split <;> simp_all
    rw [hadd]
    exact hr j v hv)
   (fun j hj => by have := (ht (1 + j) (by rw [u8s_length] at hj; omega)).1; rwa [Nat.zero_add] at this)
   (fun j hj => by have := (ht (1 + j) (by rw [u8s_length] at hj; omega)).2; rwa [Nat.zero_add] at this) (u8s_one l)
  rwa [u8s_length] at this
theorem yields_wr {ops : Array Oper} {S : World → Prop} {op : Oper} {a : Act} (hw : Region.wanted op (yielded ops a.tmps) = true) (x : Operand) (ho : op.op = .load 112 x)
  (g : Nat) (hx : a.eval x = .pointer (some ⟨g, 0, none⟩)) (i : Nat) (l : List UInt8) (hl : l.length = 128) (hS : ∀ w, S w → w.rangeAt g 0 (wrA i l).toList) : YieldsIf Tryz.prog ops S op (.agg (wrA i l)) a := by
 have := yieldsIf_load_mid hw 112 x ho g 0 hx (wrA i l).toList _ hS Tryz.underlying112 rfl (by rw [size_wr]; simp [wrA_size, hl])
 rwa [Array.toArray_toList] at this
theorem wpList_load_wr {ops : Array Oper} {rest : List Oper} {op : Oper} {a : Act} {w : World} {Q : Exit → Act → World → Prop} (hgd : op.guard = none) (x : Operand) (ho : op.op = .load 112 x)
  (b o : Nat) (i : Nat) (l : List UInt8) (hl : l.length = 128) (hx : a.eval x = .pointer (some ⟨b, o, none⟩)) (hc : w.rangeAt b o (wrA i l).toList)
  (h : wpList Tryz.prog ops Q rest (a.put op.dst (.agg (wrA i l))) w) : wpList Tryz.prog ops Q (op :: rest) a w :=
 wpList_load_mid hgd _ x ho b o hx (wrA i l).toList _ hc Tryz.underlying112 rfl (by rw [size_wr]; simp [wrA_size, hl]) (by rwa [Array.toArray_toList])
theorem wp_one_wr {o : Oper} {a : Act} {w : World} {K : Act → World → Prop} {Q : Exit → Act → World → Prop} (x : Operand) (ho : o.op = .buildSlice 56 1 #[(0, x)]) (i : Nat) (l : List UInt8) (hl : l.length = 128) (hx : a.eval x = .agg (wrA i l))
  (h : K (a.put o.dst (.slice (some ⟨w.heap.size, 0, none⟩) 1 1)) (w.alloc (.cells (wrA i l) 112))) : o.wp Tryz.prog a w K Q := by
 unfold Oper.wp execOp
 have := run_one_wr w i l hl
 simp only [ho, List.map_toArray, List.map_cons, List.map_nil, hx, Sem.run_bind, this, Result.andThen_ok]
 exact h
theorem ArmedAt.keptBlk {w w' : World} {S : Nat → Prop} {pa : Option Addr} {k : Option Nat} {row : Option Nat} (h : ArmedAt w S pa k) (hg : w.grownBy w' row) (hr : ∀ b, row = some b → ∃ C t, t ≠ 3 ∧ w.heap[b]? = some (.cells C t)) : ArmedAt w' S pa k := by
 cases row with
 | none => exact h.grown hg
 | some b =>
  obtain ⟨C, t, ht, hb⟩ := hr b rfl
  exact h.kept hb ht hg
theorem SecMap.keptBlk {w w' : World} {m N : Nat} {f : Nat → List UInt8} {row : Option Nat} (h : SecMap w m N f) (hg : w.grownBy w' row) (hr : ∀ b, row = some b → ∃ C t, w.heap[b]? = some (.cells C t)) : SecMap w' m N f := by
 refine h.kept hg (fun e => ?_)
 obtain ⟨C, t, hb⟩ := hr m e.symm
 exact h.ne hb rfl
theorem DiskAt.push {w w4 w5 : World} {S : Nat → Prop} {d : Nat} {D : Dsk} {i : Nat} {l : List UInt8} {mb mn : Nat} {sv sv2 : Value} {pa : Option Addr}
  (hd : w.heap[d]? = some (.cells #[.int .i64 (D.n : Int), .map (some mb), .map (some mn), sv, .pointer pa, .bool D.off] 59)) (hB : S d) (hsb : SecMap w mb D.n D.base) (hsn : SecMap w mn D.n D.now)
  (hrow : w.ownsRow 0 112 129 sv D.wr.length (rows D.wr)) (hos : ∀ g, sv.ownBlock = some g → S g) (ha : ArmedAt w S pa D.armed) (hS : ∀ b, w.heap.size ≤ b → S b)
  (hg4 : w.grownBy w4 none) (hown : w5.ownsRow 0 112 129 sv2 (D.wr.length + 1) (rows D.wr ++ (wrA i l).toList)) (hg5 : w4.grownBy w5 sv.ownBlock) (hob : sv2.ownBlock = sv.ownBlock ∨ sv2.ownBlock = some w4.heap.size) :
  w5.heap[d]? = some (.cells #[.int .i64 (D.n : Int), .map (some mb), .map (some mn), sv, .pointer pa, .bool D.off] 59) ∧
  (w5.setCell ⟨d, 3, none⟩ sv2).heap[d]? = some (.cells #[.int .i64 (D.n : Int), .map (some mb), .map (some mn), sv2, .pointer pa, .bool D.off] 59) ∧
  SecMap (w5.setCell ⟨d, 3, none⟩ sv2) mb D.n D.base ∧ SecMap (w5.setCell ⟨d, 3, none⟩ sv2) mn D.n D.now ∧
  (w5.setCell ⟨d, 3, none⟩ sv2).ownsRow 0 112 129 sv2 (D.wr ++ [(i, l)]).length (rows (D.wr ++ [(i, l)])) ∧ (∀ g, sv2.ownBlock = some g → S g) ∧ ArmedAt (w5.setCell ⟨d, 3, none⟩ sv2) S pa D.armed ∧
  Off S w (w5.setCell ⟨d, 3, none⟩ sv2) := by
 have hdlt := (Array.getElem?_eq_some_iff.1 hd).1
 have hd4 := (hg4.block d hdlt (by simp)).trans hd
 have hblk : ∀ b, sv.ownBlock = some b → ∃ C, w4.heap[b]? = some (.cells C 112) := by
  intro b hb
  obtain ⟨_, ⟨e, _⟩ | ⟨g, cap, cur, e, h3, hcur, _⟩⟩ := hrow
  ·rw [e] at hb; simp [Value.ownBlock] at hb
  ·rw [e] at hb
   simp [Value.ownBlock] at hb
   subst hb
   exact ⟨cur, (hg4.block _ (Array.getElem?_eq_some_iff.1 hcur).1 (by simp)).trans hcur⟩
 have hne5 : some d ≠ sv.ownBlock := by
  intro e
  obtain ⟨C, hb⟩ := hblk d e.symm
  rw [hd4] at hb
  injection hb with hb
  injection hb with _ hb
  exact absurd hb (by decide)
 have hd5 := (hg5.block d (by have := hg4.size; omega) hne5).trans hd4
 have hg6 := grown_set w5 d 3 sv2
 have hd6 := heap_setCell_same w5 d 3 _ _ sv2 hd5
 have hb5 : ∀ b, sv.ownBlock = some b → ∃ C t, w4.heap[b]? = some (.cells C t) := fun b hb => let ⟨C, h⟩ := hblk b hb; ⟨C, _, h⟩
 have hb6 : ∀ b, some d = some b → ∃ C t, w5.heap[b]? = some (.cells C t) := fun b hb => by cases hb; exact ⟨_, _, hd5⟩
 refine ⟨hd5, by simpa using hd6, ((hsb.kept hg4 (by simp)).keptBlk hg5 hb5).keptBlk hg6 hb6, ((hsn.kept hg4 (by simp)).keptBlk hg5 hb5).keptBlk hg6 hb6, ?_, ?_, ?_, ?_⟩
 ·have := row_kept hown hg6 (row_ne hown hd5 (by decide))
  rw [List.length_append]
  simpa [rows] using this
 ·intro g hg
  rcases hob with e | e
  ·exact hos g (e ▸ hg)
  ·rw [e] at hg
   cases hg
   exact hS _ hg4.size
 ·refine (((ha.grown hg4).keptBlk hg5 ?_).keptBlk hg6 ?_)
  ·intro b hb
   obtain ⟨C, h⟩ := hblk b hb
   exact ⟨C, _, by decide, h⟩
  ·intro b hb
   cases hb
   exact ⟨_, _, by decide, hd5⟩
 ·exact ((Off.of_grown hg4 (by simp)).trans (Off.of_grown hg5 hos)).trans (grown_off hg6 hB)
theorem drew_grown (w : World) (row : Option Nat) : w.grownBy w.drew row := ⟨rfl, rfl, rfl, Nat.le_refl _, fun _ _ _ => rfl⟩
theorem drew_alloc_grown (w : World) (o : Obj) (row : Option Nat) : w.grownBy (w.drew.alloc o) row := (drew_grown w row).andThen (World.grownBy_alloc w.drew o row) (fun _ hj => .inr hj)
theorem disk_now {w w' : World} {S : Nat → Prop} {d : Nat} {D : Dsk} {f : Nat → List UInt8} {mb mn : Nat} {sv : Value} {pa : Option Addr} (h1 : D.n ≤ 16384) (h2 : ∀ p ∈ D.wr, p.1 < D.n ∧ p.2.length = 128)
  (hd : w.heap[d]? = some (.cells #[.int .i64 (D.n : Int), .map (some mb), .map (some mn), sv, .pointer pa, .bool D.off] 59)) (hB : S d) (hmb : S mb) (hmn : S mn) (hne : mb ≠ mn) (hsb : SecMap w mb D.n D.base) (hsn : SecMap w mn D.n D.now)
  (hrow : w.ownsRow 0 112 129 sv D.wr.length (rows D.wr)) (hos : ∀ g, sv.ownBlock = some g → S g) (ha : ArmedAt w S pa D.armed) (hg : w.grownBy w' (some mn)) (hsn' : SecMap w' mn D.n f) :
  DiskAt w' S d { D with now := f } ∧ Off S w w' := by
 have hdn : d ≠ mn := fun e => hsn.ne hd e.symm
 have hdlt := (Array.getElem?_eq_some_iff.1 hd).1
 refine ⟨⟨h1, h2, mb, mn, sv, pa, (hg.block d hdlt (fun e => hdn (Option.some.inj e))).trans hd, hB, hmb, hmn, hne, hsb.kept hg (fun e => hne (Option.some.inj e)), hsn', ?_, hos, ?_⟩, grown_off hg hmn⟩
 ·refine row_kept hrow hg ?_
  intro e
  obtain ⟨_, ⟨rfl, _⟩ | ⟨g, cap, cur, rfl, _, hb, _⟩⟩ := hrow
  ·simp [Value.ownBlock] at e
  ·simp [Value.ownBlock] at e
   subst e
   exact hsn.ne hb rfl
 ·cases hk : D.armed with
  | none => rw [hk] at ha; exact ha
  | some k =>
   rw [hk] at ha
   obtain ⟨b, e, hB, hb, hk⟩ := ha
   refine ⟨b, e, hB, (hg.block b (Array.getElem?_eq_some_iff.1 hb).1 (fun x => ?_)).trans hb, hk⟩
   exact hsn.ne hb (Option.some.inj x).symm
theorem row_shape {w : World} {B n : Nat} {e : TypeId} {sv : Value} {xs : List Value} (h : w.ownsRow B e 129 sv (n + 1) xs) : ∃ g cap, sv = .slice (some ⟨g, 0, none⟩) (n + 1) cap := by
 obtain ⟨_, ⟨_, e⟩ | ⟨g, cap, _, rfl, _⟩⟩ := h
 ·cases e
 ·exact ⟨g, cap, rfl⟩
def Dsk.push (D : Dsk) (i : Nat) (l : List UInt8) : Dsk := { D with wr := D.wr ++ [(i, l)], now := upd D.now i l }
theorem wpList_store_wr0 {ops : Array Oper} {rest : List Oper} {op : Oper} {a : Act} {w' : World} {Q : Exit → Act → World → Prop} (hgd : op.guard = none) (x y : Operand) (ho : op.op = .store 112 x y)
  (i : Nat) (w : World) (gg : Nat) (hgg : w.heap.size = gg) (hw : w' = w.alloc (.cells (wrA 0 noughts) 112)) (hx : a.eval x = .pointer (some ⟨gg, 0, none⟩)) (hy : a.eval y = .agg (wrA i noughts))
  (h : wpList Tryz.prog ops Q rest (a.put op.dst undef) (wr0 w i)) : wpList Tryz.prog ops Q (op :: rest) a w' := by
 subst hw
 subst hgg
 exact wpList_store_wr hgd x y ho w.heap.size i noughts noughts_length hx hy (there_new w _ _ _ (by rw [wrA_size, noughts_length]; omega)) h
def wrote (D : Dsk) (i : Int) (l : List UInt8) : Int × Dsk :=
 if askedN D i ≠ 0 then (askedN D i, D)
 else if 128 < l.length then (3, D)
 else match D.armed with
  | none => (0, D.push i.toNat (pad l))
  | some 0 => (20, { D with armed := none, off := true })
  | some (k + 1) => (0, ({ D with armed := some k } : Dsk).push i.toNat (pad l))
theorem askedN_cases (D : Dsk) (i : Int) : askedN D i = 20 ∨ askedN D i = 2 ∨ (askedN D i = 0 ∧ D.off = false ∧ 0 ≤ i ∧ i.toNat < D.n) := by
 unfold askedN
 by_cases h1 : D.off = true
 ·exact .inl (by rw [if_pos h1])
 ·rw [if_neg h1]
  by_cases h2 : i < 0 ∨ (D.n : Int) ≤ i
  ·exact .inr (.inl (by rw [if_pos h2]))
  ·exact .inr (.inr ⟨by rw [if_neg h2], by simpa using h1, by omega, by omega⟩)
theorem write_refused (S : Nat → Prop) (d : Nat) (i x : Int) (D : Dsk) (l : List UInt8) (A : Option Addr) (cap : Nat) (w : World) (h : DiskAt w S d D) (hx : askedN D i = x) (hx0 : x = 20 ∨ x = 2) :
  Calls Tryz.prog 46 #[.pointer (some ⟨d, 0, none⟩), .int .i64 i, .slice A l.length cap] w fun e w' => e = .returned (.int .i64 x) ∧ w = w' := by
 have hask := asked_at S d D i w h
 rw [hx] at hask
 have HA := Lib.hid hask
 clear hask h hx
 rcases hx0 with rfl | rfl <;>
 ·go_enter Tryz.func46, Tryz.ntmps46
  go_wp2_with fail
  refine HA.out.mono ?_
  rintro e w' ⟨rfl, rfl⟩
  go_wp2_with fail
  go_ret
  exact ⟨rfl, rfl⟩
theorem write_long (S : Nat → Prop) (d : Nat) (i : Int) (D : Dsk) (l : List UInt8) (A : Option Addr) (cap : Nat) (w : World) (h : DiskAt w S d D) (hx : askedN D i = 0) (hl : 128 < l.length) :
  Calls Tryz.prog 46 #[.pointer (some ⟨d, 0, none⟩), .int .i64 i, .slice A l.length cap] w fun e w' => e = .returned (.int .i64 3) ∧ w = w' := by
 have hask := asked_at S d D i w h
 rw [hx] at hask
 have d128 : decide ((128 : Int) < (l.length : Int)) = true := by simp; omega
 have HA := Lib.hid hask
 clear hask h hx hl
 go_enter Tryz.func46, Tryz.ntmps46
 go_wp2_with fail
 refine HA.out.mono ?_
 rintro e w' ⟨rfl, rfl⟩
 go_wp2_with fail
 go_ret
 exact ⟨rfl, rfl⟩
theorem read_refused (S : Nat → Prop) (d : Nat) (i x : Int) (D : Dsk) (w : World) (h : DiskAt w S d D) (hx : askedN D i = x) (hx0 : x = 20 ∨ x = 2) :
  Calls Tryz.prog 58 #[.pointer (some ⟨d, 0, none⟩), .int .i64 i] w fun e w' => e = .returned (.tuple #[.slice none 0 0, .int .i64 x]) ∧ w = w' := by
 have hask := asked_at S d D i w h
 rw [hx] at hask
 have HA := Lib.hid hask
 clear hask h hx
 rcases hx0 with rfl | rfl <;>
 ·go_enter Tryz.func58, Tryz.ntmps58
  go_wp2_with fail
  refine HA.out.mono ?_
  rintro e w' ⟨rfl, rfl⟩
  go_wp2_with fail
  go_ret2
  exact ⟨rfl, rfl⟩
theorem read_told (S : Nat → Prop) (d i : Nat) (D : Dsk) (w : World) (h : DiskAt w S d D) (hi : i < D.n) (ho : D.off = false) :
  Calls Tryz.prog 58 #[.pointer (some ⟨d, 0, none⟩), .int .i64 (i : Int)] w fun e w' => e = .returned (.tuple #[.slice (some ⟨w.heap.size, 0, none⟩) 128 128, .int .i64 0]) ∧ (D.now i).length = 128 ∧ w'.rangeAt w.heap.size 0 (u8s (D.now i)) ∧ w'.heap.size = w.heap.size + 1 ∧ w.grownBy w' none ∧ DiskAt w' S d D := by
 refine (read_ok S d i D w h hi ho).mono ?_
 rintro e w' ⟨rfl, rfl⟩
 have hl : (D.now i).length = 128 := by
  obtain ⟨h1, _, mb, mn, sv, pa, hd, _, _, _, _, _, hsn, _⟩ := h
  exact (look_at hsn hi h1).1
 have hg := grown_new w (.cells (u8s noughts).toArray 110) (u8s (D.now i)) 0
 refine ⟨rfl, hl, range_new w _ _ _ (by simp [u8s_length, noughts_length, hl]), ?_, hg, h.grown hg⟩
 have h2 : ∀ (vs : List Value) (o : Nat) (w : World) (b : Nat), (w.setCells b o vs).heap.size = w.heap.size := by
  intro vs
  induction vs with
  | nil => intro _ _ _; rfl
  | cons v r ih => intro o w b; simp [World.setCells, ih]
 rw [h2, World.size_alloc]
end Go.Proofs.YtgdedgfohjplmaaGreat.Sec
