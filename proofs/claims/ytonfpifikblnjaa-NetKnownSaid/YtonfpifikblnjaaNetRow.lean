/- A row of letters in memory; where the i-th hangs: row.at. -/
import Derived.WalkMore
import Derived.ScopeJumps
import Derived.Test.YtonfpifikblnjaaNetWord
namespace Go.Proofs.Ytonfpifikblnjaa.Net
open Go.RowKit

/-- A slice's bytes, in a block of bytes of S. -/
def Bytes (w : World) (S : Nat → Prop) (A : Option Addr) (l : List UInt8) : Prop := l = [] ∨ ∃ g off, A = some ⟨g, off, none⟩ ∧ S g ∧ Typed w g 5 ∧ w.rangeAt g off (u8s l)
/-- Where a row begins. -/
def nxt : List (Nat × Pk) → Option Addr
  | [] => none
  | p :: _ => some ⟨p.1, 0, none⟩
/-- Block g is a link: letter k; behind it nx. -/
def LinkAt (w : World) (S : Nat → Prop) (g : Nat) (k : Pk) (nx : Option Addr) : Prop :=
  S g ∧ Typed w g 72 ∧ w.cell? ⟨g, 0, none⟩ = some (.int .i64 k.src) ∧ w.cell? ⟨g, 1, none⟩ = some (.int .i64 k.to) ∧ (∃ A cap, w.cell? ⟨g, 2, none⟩ = some (.slice A k.b.length cap) ∧ Bytes w S A k.b) ∧
    w.cell? ⟨g, 3, none⟩ = some (.pointer nx) ∧ ∀ o, w.frozen? ⟨g, o, none⟩ = false
def Chain (w : World) (S : Nat → Prop) : List (Nat × Pk) → Prop
  | [] => True
  | p :: r => LinkAt w S p.1 p.2 (nxt r) ∧ Chain w S r
/-- A row lies from place o of block r on. -/
structure RowAt (w : World) (S : Nat → Prop) (r o : Nat) (l : List (Nat × Pk)) : Prop where
  first : w.cell? ⟨r, o, none⟩ = some (.pointer (nxt l))
  n : w.cell? ⟨r, o + 1, none⟩ = some (.int .i64 (l.length : Int))
  fz : w.frozen? ⟨r, o, none⟩ = false ∧ w.frozen? ⟨r, o + 1, none⟩ = false
  chain : Chain w S l
  nodup : (l.map (·.1)).Nodup
  few : l.length ≤ 1000000
/-- Where the i-th link of a row hangs. -/
def slot (r o : Nat) : List (Nat × Pk) → Nat → Addr
  | _, 0 => ⟨r, o, none⟩
  | [], _ + 1 => ⟨r, o, none⟩
  | p :: l, i + 1 => slot p.1 3 l i

theorem slot_zero (r o : Nat) (l : List (Nat × Pk)) : slot r o l 0 = ⟨r, o, none⟩ := by cases l <;> rfl
theorem intOf_tmps (v : Value) (n : Int) (h : v = .int .i64 n) : intOf v = n := by subst h; rfl

set_option maxRecDepth 1000000 in
set_option maxHeartbeats 4000000 in
theorem at_at (S : Nat → Prop) (r o i : Nat) (l : List (Nat × Pk)) (w : World) (h : RowAt w S r o l) (hi : i ≤ l.length) :
    Calls Try.prog 42 #[.pointer (some ⟨r, o, none⟩), .int .i64 (i : Int)] w fun e w' => e = .returned (.pointer (some (slot r o l i))) ∧ w' = w := by
  obtain ⟨q, hq⟩ : ∃ q, q = slot r o l i := ⟨_, rfl⟩
  rw [← hq]
  have HQ := Lib.hid hq
  have hlen := h.few
  have HF := Lib.hid (And.intro h.first (And.intro h.chain hi))
  clear hq h
  -- from place p, j links ahead
  let St : World → Nat → Nat → Nat → Prop := fun w r' o' j => ∃ l', w.cell? ⟨r', o', none⟩ = some (.pointer (nxt l')) ∧ Chain w S l' ∧ j ≤ l'.length ∧ slot r' o' l' j = q
  have hSt0 : Hid (St w r o i) := ⟨l, HF.out.1, HF.out.2.1, HF.out.2.2, HQ.out.symm⟩
  have hend : Hid (∀ r' o', St w r' o' 0 → (⟨r', o', none⟩ : Addr) = q) := by
    rintro r' o' ⟨l', _, _, _, e⟩
    rw [slot_zero] at e
    exact e
  have hstep : Hid (∀ r' o' j, St w r' o' (j + 1) → ∃ g, w.cell? ⟨r', o', none⟩ = some (.pointer (some ⟨g, 0, none⟩)) ∧ St w g 3 j) := by
    rintro r' o' j ⟨l', h1, h2, h3, h4⟩
    cases l' with
    | nil => simp at h3
    | cons p l'' =>
      refine ⟨p.1, h1, l'', ?_, h2.2, by simpa using h3, h4⟩
      exact h2.1.2.2.2.2.2.1
  generalize hSQ : St = SQ at hSt0 hend hstep
  clear hSQ St HF
  have hi6 : i ≤ 1000000 := by omega
  clear hi
  go_enter Try.func42, Try.ntmps42
  go_wp2
  refine wp_scope_jumps 0 (fun a' w' => w' = w ∧ ∃ (j r' o' : Nat) (u6 u7 u8 u9 u10 u11 u12 u13 u14 u15 u16 u17 : Value), a' = { tmps := #[.pointer (some ⟨r, o, none⟩), .int .i64 (j : Int), undef, undef, .pointer none, .pointer (some ⟨r', o', none⟩), u6, u7, u8, u9, u10, u11, u12, u13, u14, u15, u16, u17, undef], defers := [] } ∧ SQ w r' o' j ∧ j ≤ 1000000) (fun a' _ => (intOf (a'.tmps.getD 1 undef)).toNat) rfl ?_ ?_
  · cases i with
    | zero =>
      have hd : decide ((0 : Int) < ((0 : Nat) : Int)) = false := by decide
      go_wp2
      go_step3
      go_wp2
      simp only [Exit.jump]
      go_ret
      rw [← hend.out r o hSt0.out]
      exact ⟨rfl, rfl⟩
    | succ j =>
      obtain ⟨g, hc, hS⟩ := hstep.out r o j hSt0.out
      have HS := Lib.hid hS
      have hd : decide ((0 : Int) < ((j + 1 : Nat) : Int)) = true := decide_eq_true (by omega)
      have hsub : wrap64 (((j + 1 : Nat) : Int) - 1) = (j : Int) := by unfold wrap64; omega
      clear hS
      go_wp2
      go_step3
      go_wp2
      go_step3
      simp only [Exit.then]
      exact ⟨rfl, rfl, j, g, 3, _, _, _, _, _, _, _, _, _, _, _, _, rfl, HS.out, by omega⟩
  · rintro a' w' ⟨rfl, j, r', o', u6, u7, u8, u9, u10, u11, u12, u13, u14, u15, u16, u17, rfl, hS0, hj6⟩
    cases j with
    | zero =>
      have hd : decide ((0 : Int) < ((0 : Nat) : Int)) = false := by decide
      have HE := Lib.hid (hend.out r' o' hS0)
      clear hS0
      go_wp2
      simp only [Exit.jump]
      go_ret
      rw [← HE.out]
      exact ⟨rfl, rfl⟩
    | succ j =>
      obtain ⟨g, hc, hS⟩ := hstep.out r' o' j hS0
      have HS := Lib.hid hS
      have hd : decide ((0 : Int) < ((j + 1 : Nat) : Int)) = true := decide_eq_true (by omega)
      have hsub : wrap64 (((j + 1 : Nat) : Int) - 1) = (j : Int) := by unfold wrap64; omega
      clear hS hS0
      go_wp2
      go_step3
      simp only [Exit.then]
      refine ⟨rfl, ⟨rfl, j, g, 3, _, _, _, _, _, _, _, _, _, _, _, _, rfl, HS.out, by omega⟩, ?_⟩
      simp [intOf]
end Go.Proofs.Ytonfpifikblnjaa.Net
