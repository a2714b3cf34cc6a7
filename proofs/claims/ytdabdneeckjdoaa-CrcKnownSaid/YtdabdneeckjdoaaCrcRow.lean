/- A row of bytes that is read: words for memory. No program in sight. -/
import Derived.WalkKit
import Derived.Deep.Draws
import Derived.Test.YtdabdneeckjdoaaCrcBits
namespace Go.Proofs.Ytdabdneeckjdoaa.Crc
open Go.RowKit

/-- Byte i of a row, as Go's number. (A plain name: the walk does not look into it.) -/
def at8 (l : List UInt8) (i : Nat) : Int := ((l.getD i 0).toNat : Int)
theorem at8_lo (l : List UInt8) (i : Nat) : 0 ≤ at8 l i := by unfold at8; omega
theorem at8_hi (l : List UInt8) (i : Nat) : at8 l i ≤ 255 := by unfold at8; have := (l.getD i 0).toNat_lt; omega
theorem at8_u (l : List UInt8) (i : Nat) : at8 l i = u (byte (l.getD i 0)) := by
  unfold at8 byte; exact u_of _ (by have := (l.getD i 0).toNat_lt; omega)

/-- The slice at A (of as many bytes as l) reads as l, below block B. -/
def Row8 (w : World) (B : Nat) (A : Option Addr) (l : List UInt8) : Prop :=
  l = [] ∨ ∃ b off, A = some ⟨b, off, none⟩ ∧ b < B ∧ ∀ i, i < l.length → w.cell? ⟨b, off + i, none⟩ = some (.int .u8 (at8 l i))

section
variable {w w' : World} {B B' : Nat} {A : Option Addr} {l : List UInt8}
theorem Row8.nil : Row8 w B A [] := .inl rfl
theorem Row8.at_ (h : Row8 w B A l) (h0 : 0 < l.length) : ∃ b off, A = some ⟨b, off, none⟩ ∧ b < B ∧ ∀ i, i < l.length → w.cell? ⟨b, off + i, none⟩ = some (.int .u8 (at8 l i)) := by
  rcases h with rfl | h
  · exact absurd h0 (by simp)
  · exact h
theorem Row8.keep (h : Row8 w B A l) (hk : ∀ p : Addr, p.block < B → w'.cell? p = w.cell? p) : Row8 w' B A l := by
  rcases h with h | ⟨b, off, e, hb, hc⟩
  · exact .inl h
  · exact .inr ⟨b, off, e, hb, fun i hi => (hk _ hb).trans (hc i hi)⟩
theorem Row8.more (h : Row8 w B A l) (hB : B ≤ B') : Row8 w B' A l := by
  rcases h with h | ⟨b, off, e, hb, hc⟩
  · exact .inl h
  · exact .inr ⟨b, off, e, by omega, hc⟩
theorem Row8.below (h : Row8 w B A l) (hb : Below B w w') : Row8 w' B A l := h.keep fun _ hp => hb.cell hp
theorem Row8.alloc (h : Row8 w B A l) (hB : B ≤ w.heap.size) (o : Obj) : Row8 (w.alloc o) B A l := h.keep fun p hp => World.cell?_alloc_lt w o p (by omega)
end

theorem getD_at (l : List UInt8) (k : Nat) (h : k < l.length) : l.getD k 0 = l[k] := by simp [h]
/-- Byte i of a row, as a rest. (Plain names again: the walk does not look into them.) -/
def by8 (l : List UInt8) (i : Nat) : BitVec 32 := byte (l.getD i 0)
/-- A rest, when the first k bytes have gone in; when all bytes from k on have been taken out. -/
def ink (r : BitVec 32) (l : List UInt8) (k : Nat) : BitVec 32 := into r (l.take k)
def outk (r : BitVec 32) (l : List UInt8) (k : Nat) : BitVec 32 := outof r (l.drop k)
theorem ink_zero (r : BitVec 32) (l : List UInt8) : ink r l 0 = r := rfl
theorem ink_full (r : BitVec 32) (l : List UInt8) : ink r l l.length = into r l := by unfold ink; rw [List.take_length]
theorem ink_succ (r : BitVec 32) (l : List UInt8) (k : Nat) (h : k < l.length) : h8 (ink r l k ^^^ by8 l k) = ink r l (k + 1) := by
  unfold ink by8
  rw [List.take_succ_eq_append_getElem h, into_append, getD_at l k h]
  rfl
theorem outk_zero (r : BitVec 32) (l : List UInt8) : outk r l 0 = outof r l := rfl
theorem outk_full (r : BitVec 32) (l : List UInt8) : outk r l l.length = r := by unfold outk; rw [List.drop_length]; rfl
theorem outk_succ (r : BitVec 32) (l : List UInt8) (k : Nat) (h : k < l.length) : d8 (outk r l (k + 1)) ^^^ by8 l k = outk r l k := by
  unfold outk by8
  rw [List.drop_eq_getElem_cons h, getD_at l k h]
  rfl
theorem at8_by8 (l : List UInt8) (i : Nat) : at8 l i = u (by8 l i) := at8_u l i
theorem xor_at8 (r : BitVec 32) (l : List UInt8) (i : Nat) : bits .xor .u32 (u r) (at8 l i) = u (r ^^^ by8 l i) := by rw [at8_by8, xor_u]
theorem u32_signed : IntKind.u32.signed = false := rfl
theorem not_max_u (r : BitVec 32) : bits .xor .u32 IntKind.u32.max (u r) = u (~~~ r) := by
  rw [show IntKind.u32.max = u (BitVec.allOnes 32) by decide, xor_u, BitVec.xor_comm, BitVec.xor_allOnes]

/-- A stretch of a row: its bytes lie where it begins. -/
theorem Row8.part {w : World} {B b off : Nat} {l : List UInt8} (hb : b < B) (hc : ∀ i, i < l.length → w.cell? ⟨b, off + i, none⟩ = some (.int .u8 (at8 l i))) (k m : Nat) :
    Row8 w B (some ⟨b, off + k, none⟩) ((l.drop k).take m) := by
  refine .inr ⟨b, off + k, rfl, hb, fun i hi => ?_⟩
  have hl : i < m ∧ k + i < l.length := by
    rw [List.length_take, List.length_drop] at hi; omega
  rw [show off + k + i = off + (k + i) by omega, hc _ hl.2]
  unfold at8
  rw [getD_at _ _ hl.2, getD_at _ _ hi]
  simp
theorem Row8.head {w : World} {B b off : Nat} {l : List UInt8} (hb : b < B) (hc : ∀ i, i < l.length → w.cell? ⟨b, off + i, none⟩ = some (.int .u8 (at8 l i))) (m : Nat) :
    Row8 w B (some ⟨b, off, none⟩) (l.take m) := by
  have := Row8.part hb hc 0 m
  rwa [List.drop_zero, Nat.add_zero] at this

end Go.Proofs.Ytdabdneeckjdoaa.Crc
