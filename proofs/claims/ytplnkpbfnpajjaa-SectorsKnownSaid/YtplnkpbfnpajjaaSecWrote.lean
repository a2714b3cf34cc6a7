/- sectors.Write, all cases under one statement; sectors.Read, likewise. -/
import Derived.Test.YtplnkpbfnpajjaaSecWrite
namespace Go.Proofs.Ytplnkpbfnpajjaa.Sec
open Go.RowKit Go.Maps

/-- What a write answers, and the disk behind it. -/
def wrote (D : Dsk) (i : Int) (l : List UInt8) : Int × Dsk :=
  if askedN D i ≠ 0 then (askedN D i, D)
  else if 128 < l.length then (3, D)
  else match D.armed with
    | none => (0, D.push i.toNat (pad l))
    | some 0 => (20, { D with armed := none, off := true })
    | some (k + 1) => (0, ({ D with armed := some k } : Dsk).push i.toNat (pad l))

theorem askedN_cases (D : Dsk) (i : Int) : askedN D i = 20 ∨ askedN D i = 2 ∨ (askedN D i = 0 ∧ D.off = false ∧ 0 ≤ i ∧ i.toNat < D.n) := by
  unfold askedN
  by_cases h1 : D.off = true
  · exact .inl (by rw [if_pos h1])
  · rw [if_neg h1]
    by_cases h2 : i < 0 ∨ (D.n : Int) ≤ i
    · exact .inr (.inl (by rw [if_pos h2]))
    · exact .inr (.inr ⟨by rw [if_neg h2], by simpa using h1, by omega, by omega⟩)

set_option maxHeartbeats 2000000 in
theorem write_refused (S : Nat → Prop) (d : Nat) (i x : Int) (D : Dsk) (l : List UInt8) (A : Option Addr) (cap : Nat) (w : World) (h : DiskAt w S d D) (hx : askedN D i = x) (hx0 : x = 20 ∨ x = 2) :
    Calls Try.prog 9 #[.pointer (some ⟨d, 0, none⟩), .int .i64 i, .slice A l.length cap] w fun e w' => e = .returned (.int .i64 x) ∧ w = w' := by
  have hask := asked_at S d D i w h
  rw [hx] at hask
  have HA := Lib.hid hask
  clear hask h hx
  rcases hx0 with rfl | rfl <;>
  · go_enter Try.func9, Try.ntmps9
    go_wp2_with fail
    refine HA.out.mono ?_
    rintro e w' ⟨rfl, rfl⟩
    go_wp2_with fail
    go_ret
    exact ⟨rfl, rfl⟩

set_option maxHeartbeats 2000000 in
theorem write_long (S : Nat → Prop) (d : Nat) (i : Int) (D : Dsk) (l : List UInt8) (A : Option Addr) (cap : Nat) (w : World) (h : DiskAt w S d D) (hx : askedN D i = 0) (hl : 128 < l.length) :
    Calls Try.prog 9 #[.pointer (some ⟨d, 0, none⟩), .int .i64 i, .slice A l.length cap] w fun e w' => e = .returned (.int .i64 3) ∧ w = w' := by
  have hask := asked_at S d D i w h
  rw [hx] at hask
  have d128 : decide ((128 : Int) < (l.length : Int)) = true := by simp; omega
  have HA := Lib.hid hask
  clear hask h hx hl
  go_enter Try.func9, Try.ntmps9
  go_wp2_with fail
  refine HA.out.mono ?_
  rintro e w' ⟨rfl, rfl⟩
  go_wp2_with fail
  go_ret
  exact ⟨rfl, rfl⟩

set_option maxHeartbeats 2000000 in
theorem write_dies (S : Nat → Prop) (d : Nat) (i : Int) (D : Dsk) (l : List UInt8) (A : Option Addr) (cap : Nat) (w : World) (h : DiskAt w S d D) (hx : askedN D i = 0) (hl : l.length ≤ 128) (harm : D.armed = some 0) :
    Calls Try.prog 9 #[.pointer (some ⟨d, 0, none⟩), .int .i64 i, .slice A l.length cap] w fun e w' => e = .returned (.int .i64 20) ∧ DiskAt w' S d { D with armed := none, off := true } ∧ Off S w w' := by
  have hask := asked_at S d D i w h
  have hcr := crash_at S d D w h
  rw [hx] at hask
  have d128 : decide ((128 : Int) < (l.length : Int)) = false := by simp; omega
  have HA := Lib.hid hask
  have HC := Lib.hid hcr
  obtain ⟨h1, h2, mb, mn, sv, pa, hd, hB, hmb, hmn, hne, hsb, hsn, hrow, hos, ha⟩ := h
  have c4 : w.cell? ⟨d, 4, none⟩ = some (.pointer pa) := cell_blk hd 4
  rw [harm] at ha
  obtain ⟨ab, rfl, hab, hbb, hk⟩ := ha
  have cb : w.cell? ⟨ab, 0, none⟩ = some (.int .i64 ((0 : Nat) : Int)) := cell_blk hbb 0
  clear hask hcr hx hl hd hsb hsn hrow h2 hbb
  go_enter Try.func9, Try.ntmps9
  go_wp2_with fail
  refine HA.out.mono ?_
  rintro e w' ⟨rfl, rfl⟩
  go_wp2_with fail
  refine HC.out.mono ?_
  rintro e w' ⟨rfl, hdk, hb⟩
  have HD := Lib.hid hdk
  have HB := Lib.hid hb
  clear hdk hb
  go_wp2_with fail
  go_ret
  exact ⟨rfl, HD.out, HB.out⟩

/-- A WRITE. -/
theorem write_at (S : Nat → Prop) (d : Nat) (i : Int) (D : Dsk) (l : List UInt8) (A : Option Addr) (cap : Nat) (w : World) (h : DiskAt w S d D) (hr : RowB w S A l) (hS : ∀ b, w.heap.size ≤ b → S b) (hn : D.wr.length < 1000000) :
    Calls Try.prog 9 #[.pointer (some ⟨d, 0, none⟩), .int .i64 i, .slice A l.length cap] w fun e w' => e = .returned (.int .i64 (wrote D i l).1) ∧ DiskAt w' S d (wrote D i l).2 ∧ Off S w w' := by
  rcases askedN_cases D i with hx | hx | ⟨hx, ho, hi0, hi⟩
  · refine (write_refused S d i 20 D l A cap w h hx (.inl rfl)).mono ?_
    rintro e w' ⟨rfl, rfl⟩
    unfold wrote
    rw [if_pos (by rw [hx]; decide), hx]
    exact ⟨rfl, h, Off.refl _ _⟩
  · refine (write_refused S d i 2 D l A cap w h hx (.inr rfl)).mono ?_
    rintro e w' ⟨rfl, rfl⟩
    unfold wrote
    rw [if_pos (by rw [hx]; decide), hx]
    exact ⟨rfl, h, Off.refl _ _⟩
  · unfold wrote
    rw [if_neg (by simpa using hx)]
    by_cases hl : 128 < l.length
    · rw [if_pos hl]
      refine (write_long S d i D l A cap w h hx hl).mono ?_
      rintro e w' ⟨rfl, rfl⟩
      exact ⟨rfl, h, Off.refl _ _⟩
    · rw [if_neg hl]
      obtain ⟨j, rfl⟩ : ∃ j : Nat, i = j := ⟨i.toNat, by omega⟩
      rw [Int.toNat_natCast] at hi ⊢
      cases harm : D.armed with
      | none => exact write_plain S d j D l A cap w h hr hS hi ho (by omega) harm hn
      | some k =>
        cases k with
        | zero => exact write_dies S d j D l A cap w h hx (by omega) harm
        | succ k => exact write_armed S d j D l A cap w h hr hS hi ho (by omega) k harm hn

/-! ## Read -/
/-- A block of its own holds the bytes l. -/
def Told (w w' : World) (A : Option Addr) (l : List UInt8) : Prop := A = some ⟨w.heap.size, 0, none⟩ ∧ w'.rangeAt w.heap.size 0 (u8s l) ∧ w.grownBy w' none
set_option maxHeartbeats 2000000 in
theorem read_refused (S : Nat → Prop) (d : Nat) (i x : Int) (D : Dsk) (w : World) (h : DiskAt w S d D) (hx : askedN D i = x) (hx0 : x = 20 ∨ x = 2) :
    Calls Try.prog 22 #[.pointer (some ⟨d, 0, none⟩), .int .i64 i] w fun e w' => e = .returned (.tuple #[.slice none 0 0, .int .i64 x]) ∧ w = w' := by
  have hask := asked_at S d D i w h
  rw [hx] at hask
  have HA := Lib.hid hask
  clear hask h hx
  rcases hx0 with rfl | rfl <;>
  · go_enter Try.func22, Try.ntmps22
    go_wp2_with fail
    refine HA.out.mono ?_
    rintro e w' ⟨rfl, rfl⟩
    go_wp2_with fail
    go_ret2
    exact ⟨rfl, rfl⟩
/-- A READ of a sector that is there. -/
theorem read_told (S : Nat → Prop) (d i : Nat) (D : Dsk) (w : World) (h : DiskAt w S d D) (hi : i < D.n) (ho : D.off = false) :
    Calls Try.prog 22 #[.pointer (some ⟨d, 0, none⟩), .int .i64 (i : Int)] w fun e w' => e = .returned (.tuple #[.slice (some ⟨w.heap.size, 0, none⟩) 128 128, .int .i64 0]) ∧ (D.now i).length = 128 ∧ w'.rangeAt w.heap.size 0 (u8s (D.now i)) ∧ w'.heap.size = w.heap.size + 1 ∧ w.grownBy w' none ∧ DiskAt w' S d D := by
  refine (read_ok S d i D w h hi ho).mono ?_
  rintro e w' ⟨rfl, rfl⟩
  have hl : (D.now i).length = 128 := by
    obtain ⟨h1, _, mb, mn, sv, pa, hd, _, _, _, _, _, hsn, _⟩ := h
    exact (look_at hsn hi h1).1
  have hg := grown_new w (.cells (u8s noughts).toArray 53) (u8s (D.now i)) 0
  refine ⟨rfl, hl, range_new w _ _ _ (by simp [u8s_length, noughts_length, hl]), ?_, hg, h.grown hg⟩
  have h2 : ∀ (vs : List Value) (o : Nat) (w : World) (b : Nat), (w.setCells b o vs).heap.size = w.heap.size := by
    intro vs
    induction vs with
    | nil => intro _ _ _; rfl
    | cons v r ih => intro o w b; simp [World.setCells, ih]
  rw [h2, World.size_alloc]
end Go.Proofs.Ytplnkpbfnpajjaa.Sec
