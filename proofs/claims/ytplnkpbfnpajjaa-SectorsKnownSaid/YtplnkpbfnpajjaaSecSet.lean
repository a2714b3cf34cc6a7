/- The functions that set a disk's fields: Crash, On, Fail; New. -/
import Derived.Test.YtplnkpbfnpajjaaSecDisk
namespace Go.Proofs.Ytplnkpbfnpajjaa.Sec
open Go.RowKit Go.Maps

theorem SecMap.ne {w : World} {m N d : Nat} {f : Nat → List UInt8} {C : Array Value} {t : TypeId} (h : SecMap w m N f) (hd : w.heap[d]? = some (.cells C t)) : m ≠ d := by
  rintro rfl
  obtain ⟨_, _, _, ⟨es, clock, hb, _⟩, _⟩ := h
  rw [hd] at hb
  cases hb
theorem row_ne {w : World} {B d n : Nat} {sv : Value} {xs : List Value} {C : Array Value} {t e : TypeId} (h : w.ownsRow B e 129 sv n xs) (hd : w.heap[d]? = some (.cells C t)) (hne : t ≠ e) : sv.ownBlock ≠ some d := by
  obtain ⟨_, ⟨rfl, _⟩ | ⟨g, cap, cur, rfl, _, hb, _⟩⟩ := h
  · simp [Value.ownBlock]
  · intro x
    simp [Value.ownBlock] at x
    subst x
    rw [hd] at hb
    injection hb with hb
    injection hb with _ hb
    exact hne hb
theorem row_kept {w w' : World} {B d n : Nat} {sv : Value} {xs : List Value} {e : TypeId} (h : w.ownsRow B e 129 sv n xs) (hg : w.grownBy w' (some d)) (hne : sv.ownBlock ≠ some d) : w'.ownsRow B e 129 sv n xs := by
  refine ⟨h.1, ?_⟩
  rcases h.2 with h2 | ⟨g, cap, cur, rfl, h3, hb, h4⟩
  · exact .inl h2
  · have : g ≠ d := fun x => hne (by simp [Value.ownBlock, x])
    exact .inr ⟨g, cap, cur, rfl, h3, (hg.block g (Array.getElem?_eq_some_iff.1 hb).1 (fun x => this (Option.some.inj x))).trans hb, h4⟩
theorem ArmedAt.kept {w w' : World} {S : Nat → Prop} {d : Nat} {pa : Option Addr} {k : Option Nat} {C : Array Value} {t : TypeId} (h : ArmedAt w S pa k) (hd : w.heap[d]? = some (.cells C t)) (ht : t ≠ 3) (hg : w.grownBy w' (some d)) : ArmedAt w' S pa k := by
  cases k with
  | none => exact h
  | some k =>
    obtain ⟨b, e, hB, hb, hk⟩ := h
    have : b ≠ d := by
      rintro rfl
      rw [hd] at hb
      injection hb with hb
      injection hb with _ hb
      exact ht hb
    exact ⟨b, e, hB, (hg.block b (Array.getElem?_eq_some_iff.1 hb).1 (fun x => this (Option.some.inj x))).trans hb, hk⟩
theorem grown_set (w : World) (d j : Nat) (v : Value) : w.grownBy (w.setCell ⟨d, j, none⟩ v) (some d) :=
  ⟨rfl, rfl, rfl, by simp, fun i _ hi => heap_setCell_other w _ i v (fun x => hi (by rw [x]))⟩
theorem grown_trans {a b c : World} {d : Nat} (h : a.grownBy b (some d)) (k : b.grownBy c (some d)) : a.grownBy c (some d) := h.andThen k (fun _ hj => .inr hj)
theorem grown_off {a b : World} {d : Nat} {S : Nat → Prop} (h : a.grownBy b (some d)) (hS : S d) : Off S a b := Off.of_grown h (fun k e => by cases e; exact hS)
theorem grown_below {a b : World} {d B : Nat} (h : a.grownBy b (some d)) (hB : B ≤ d) (hs : B ≤ a.heap.size) : Below B a b :=
  ⟨h.os, h.tape, h.output, h.size, fun k hk => h.block k (by omega) (fun x => by injection x with x; omega)⟩
theorem frozen_blk {w : World} {b : Nat} {C : Array Value} {t : TypeId} (h : w.heap[b]? = some (.cells C t)) (j : Nat) : w.frozen? ⟨b, j, none⟩ = false := by
  simp only [World.frozen?, h]
  simp

set_option maxHeartbeats 2000000 in
theorem crash_at (S : Nat → Prop) (d : Nat) (D : Dsk) (w : World) (h : DiskAt w S d D) :
    Calls Try.prog 20 #[.pointer (some ⟨d, 0, none⟩)] w fun e w' => e = .returned (.tuple #[]) ∧ DiskAt w' S d { D with armed := none, off := true } ∧ Off S w w' := by
  obtain ⟨h1, h2, mb, mn, sv, pa, hd, hB, hmb, hmn, hne, hsb, hsn, hrow, hos, ha⟩ := h
  have c4 : w.cell? ⟨d, 4, none⟩ = some (.pointer pa) := cell_blk hd 4
  have c5 : w.cell? ⟨d, 5, none⟩ = some (.bool D.off) := cell_blk hd 5
  have z4 := frozen_blk hd 4
  have z5 := frozen_blk hd 5
  have HD := Lib.hid hd
  clear hd
  go_enter Try.func20, Try.ntmps20
  go_wp2
  go_end0
  have hg := grown_trans (grown_set w d 4 (.pointer none)) (grown_set _ d 5 (.bool true))
  have hd1 := heap_setCell_same w d 4 _ _ (.pointer none) HD.out
  have hd2 := heap_setCell_same _ d 5 _ _ (.bool true) hd1
  refine ⟨rfl, ⟨h1, h2, mb, mn, sv, none, by simpa using hd2, hB, hmb, hmn, hne, hsb.kept hg ?_, hsn.kept hg ?_, row_kept hrow hg (row_ne hrow HD.out (by decide)), hos, rfl⟩, grown_off hg hB⟩
  · exact fun x => hsb.ne HD.out (Option.some.inj x)
  · exact fun x => hsn.ne HD.out (Option.some.inj x)

set_option maxHeartbeats 2000000 in
theorem on_at (S : Nat → Prop) (d : Nat) (D : Dsk) (w : World) (h : DiskAt w S d D) :
    Calls Try.prog 21 #[.pointer (some ⟨d, 0, none⟩)] w fun e w' => e = .returned (.tuple #[]) ∧ DiskAt w' S d { D with armed := none, off := false } ∧ Off S w w' := by
  obtain ⟨h1, h2, mb, mn, sv, pa, hd, hB, hmb, hmn, hne, hsb, hsn, hrow, hos, ha⟩ := h
  have c4 : w.cell? ⟨d, 4, none⟩ = some (.pointer pa) := cell_blk hd 4
  have c5 : w.cell? ⟨d, 5, none⟩ = some (.bool D.off) := cell_blk hd 5
  have z4 := frozen_blk hd 4
  have z5 := frozen_blk hd 5
  have HD := Lib.hid hd
  clear hd
  go_enter Try.func21, Try.ntmps21
  go_wp2
  go_end0
  have hg := grown_trans (grown_set w d 4 (.pointer none)) (grown_set _ d 5 (.bool false))
  have hd1 := heap_setCell_same w d 4 _ _ (.pointer none) HD.out
  have hd2 := heap_setCell_same _ d 5 _ _ (.bool false) hd1
  refine ⟨rfl, ⟨h1, h2, mb, mn, sv, none, by simpa using hd2, hB, hmb, hmn, hne, hsb.kept hg ?_, hsn.kept hg ?_, row_kept hrow hg (row_ne hrow HD.out (by decide)), hos, rfl⟩, grown_off hg hB⟩
  · exact fun x => hsb.ne HD.out (Option.some.inj x)
  · exact fun x => hsn.ne HD.out (Option.some.inj x)

theorem row_grown {w w' : World} {B n : Nat} {sv : Value} {xs : List Value} {e : TypeId} (h : w.ownsRow B e 129 sv n xs) (hg : w.grownBy w' none) : w'.ownsRow B e 129 sv n xs := by
  refine ⟨h.1, ?_⟩
  rcases h.2 with h2 | ⟨g, cap, cur, rfl, h3, hb, h4⟩
  · exact .inl h2
  · exact .inr ⟨g, cap, cur, rfl, h3, (hg.block g (Array.getElem?_eq_some_iff.1 hb).1 (by simp)).trans hb, h4⟩
theorem ArmedAt.grown {w w' : World} {S : Nat → Prop} {pa : Option Addr} {k : Option Nat} (h : ArmedAt w S pa k) (hg : w.grownBy w' none) : ArmedAt w' S pa k := by
  cases k with
  | none => exact h
  | some k =>
    obtain ⟨b, e, hB, hb, hk⟩ := h
    exact ⟨b, e, hB, (hg.block b (Array.getElem?_eq_some_iff.1 hb).1 (by simp)).trans hb, hk⟩
/-- A disk stands while new memory is made. -/
theorem DiskAt.grown {w w' : World} {S : Nat → Prop} {d : Nat} {D : Dsk} (h : DiskAt w S d D) (hg : w.grownBy w' none) : DiskAt w' S d D := by
  obtain ⟨h1, h2, mb, mn, sv, pa, hd, hB, hmb, hmn, hne, hsb, hsn, hrow, hos, ha⟩ := h
  exact ⟨h1, h2, mb, mn, sv, pa, (hg.block d (Array.getElem?_eq_some_iff.1 hd).1 (by simp)).trans hd, hB, hmb, hmn, hne, hsb.kept hg (by simp), hsn.kept hg (by simp), row_grown hrow hg, hos, ha.grown hg⟩
theorem DiskAt.lt {w : World} {S : Nat → Prop} {d : Nat} {D : Dsk} (h : DiskAt w S d D) : d < w.heap.size := by
  obtain ⟨h1, h2, mb, mn, sv, pa, hd, _⟩ := h
  exact (Array.getElem?_eq_some_iff.1 hd).1

set_option maxHeartbeats 2000000 in
theorem fail_at (S : Nat → Prop) (d : Nat) (D : Dsk) (i : Int) (hi : i ≤ 9223372036854775807) (w : World) (hS : ∀ b, w.heap.size ≤ b → S b) (h : DiskAt w S d D) :
    Calls Try.prog 19 #[.pointer (some ⟨d, 0, none⟩), .int .i64 i] w fun e w' => e = .returned (.tuple #[]) ∧ DiskAt w' S d { D with armed := if 0 ≤ i then some i.toNat else none } ∧ Off S w w' := by
  have hlt0 := h.lt
  have hg0 := World.grownBy_alloc w (.cells #[.int .i64 i] 3) none
  have h' := h.grown hg0
  obtain ⟨h1, h2, mb, mn, sv, pa, hd, hB, hmb, hmn, hne, hsb, hsn, hrow, hos, ha⟩ := h'
  have hnew : (w.alloc (.cells #[.int .i64 i] 3)).heap[w.heap.size]? = some (.cells #[.int .i64 i] 3) := (MapKept.heap_alloc w _).1
  have HNEW := Lib.hid hnew
  have HD := Lib.hid hd
  have cn := cell_new w #[.int .i64 i] 3 0
  have c4 : (w.alloc (.cells #[.int .i64 i] 3)).cell? ⟨d, 4, none⟩ = some (.pointer pa) := cell_blk hd 4
  have z4 := frozen_blk hd 4
  have hdn : d ≠ w.heap.size := by omega
  clear hd hnew
  have fin : ∀ (v : Option Addr) (k : Option Nat) (w' : World), (w.alloc (.cells #[.int .i64 i] 3)).grownBy w' (some d) → w'.heap[d]? = some (.cells #[.int .i64 (D.n : Int), .map (some mb), .map (some mn), sv, .pointer v, .bool D.off] 50) → ArmedAt w' S v k →
      DiskAt w' S d { D with armed := k } ∧ Off S w w' := by
    intro v k w' hg hd' ha'
    refine ⟨⟨h1, h2, mb, mn, sv, v, hd', hB, hmb, hmn, hne, hsb.kept hg ?_, hsn.kept hg ?_, row_kept hrow hg (row_ne hrow HD.out (by decide)), hos, ha'⟩, (Off.of_grown hg0 (by simp)).trans (grown_off hg hB)⟩
    · exact fun x => hsb.ne HD.out (Option.some.inj x)
    · exact fun x => hsn.ne HD.out (Option.some.inj x)
  have HF := Lib.hid fin
  clear fin hsb hsn hrow ha h2
  have hd1 := heap_setCell_same _ d 4 _ _ (.pointer none) HD.out
  have HD1 := Lib.hid hd1
  have z5 := frozen_blk hd1 4
  have c5 := cell_blk hd1 4
  have cn5 : ((w.alloc (.cells #[.int .i64 i] 3)).setCell ⟨d, 4, none⟩ (.pointer none)).cell? ⟨w.heap.size, 0, none⟩ = some (.int .i64 i) :=
    cell_blk ((heap_setCell_other _ ⟨d, 4, none⟩ w.heap.size (.pointer none) (Ne.symm hdn)).trans HNEW.out) 0
  clear hd1
  have hcm : ∀ v, (w.alloc (.cells #[.int .i64 i] 3)).setCell ⟨d, 4, none⟩ v = (w.setCell ⟨d, 4, none⟩ v).alloc (.cells #[.int .i64 i] 3) := fun v => World.setCell_alloc_past (w := w) _ d 4 v hlt0
  have hcm2 : ∀ v v', ((w.alloc (.cells #[.int .i64 i] 3)).setCell ⟨d, 4, none⟩ v).setCell ⟨d, 4, none⟩ v' = ((w.setCell ⟨d, 4, none⟩ v).setCell ⟨d, 4, none⟩ v').alloc (.cells #[.int .i64 i] 3) := fun v v' => by
    rw [hcm]
    exact World.setCell_alloc_past (w := w.setCell ⟨d, 4, none⟩ v) _ d 4 v' (by simpa using hlt0)
  rw [hcm] at z5 c5 cn5
  have HCM := Lib.hid hcm
  have HCM2 := Lib.hid hcm2
  clear hcm hcm2
  by_cases h0 : 0 ≤ i
  · have d0 : decide (0 ≤ i) = true := by simp [h0]
    rw [if_pos h0]
    have H0 := Lib.hid h0
    clear h0
    go_enter Try.func19, Try.ntmps19
    go_wp2
    go_end0
    rw [← HCM2.out]
    refine ⟨rfl, HF.out (some ⟨w.heap.size, 0, none⟩) _ _ (grown_trans (grown_set _ d 4 _) (grown_set _ d 4 _)) (by simpa using heap_setCell_same _ d 4 _ _ (.pointer (some ⟨w.heap.size, 0, none⟩)) HD1.out) ⟨_, rfl, hS _ (Nat.le_refl _), ?_, by have := H0.out; omega⟩⟩
    rw [Int.toNat_of_nonneg H0.out]
    exact ((heap_setCell_other _ ⟨d, 4, none⟩ w.heap.size _ (Ne.symm hdn)).trans ((heap_setCell_other _ ⟨d, 4, none⟩ w.heap.size _ (Ne.symm hdn)))).trans HNEW.out
  · have d0 : decide (0 ≤ i) = false := by simp; omega
    rw [if_neg h0]
    clear h0
    go_enter Try.func19, Try.ntmps19
    go_wp2
    go_end0
    rw [← HCM.out]
    exact ⟨rfl, HF.out none none _ (grown_set _ d 4 _) (by simpa using HD1.out) rfl⟩
end Go.Proofs.Ytplnkpbfnpajjaa.Sec
