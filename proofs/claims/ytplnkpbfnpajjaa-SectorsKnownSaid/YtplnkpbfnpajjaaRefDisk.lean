/- The document's disk in memory, said by the same data; its functions that look, arm, crash. -/
import Derived.Test.YtplnkpbfnpajjaaSecOpen
namespace Go.Proofs.Ytplnkpbfnpajjaa.Sec
open Go.RowKit Go.Maps

def refRows (wr : List (Nat × List UInt8)) : List Value := wr.flatMap fun p => [.int .i64 (p.1 : Int), strV p.2]
/-- The document's disk at block m tells the data D. -/
def RefAt (w : World) (S : Nat → Prop) (m : Nat) (D : Dsk) : Prop :=
  D.n ≤ 16384 ∧ D.wr.length < 1000000 ∧ ∃ sb sl inn, w.heap[m]? = some (.cells #[sb, sl, .bool D.armed.isSome, .int .i64 inn, .bool D.off] 61) ∧ S m ∧
    StrRow w 0 sb (tellV D.base D.n) ∧ (∀ g, sb.ownBlock = some g → S g) ∧ w.ownsRow 0 69 2 sl D.wr.length (refRows D.wr) ∧ (∀ g, sl.ownBlock = some g → S g) ∧ ∀ k, D.armed = some k → inn = (k : Int) ∧ (k : Int) ≤ 9223372036854775807
/-- What is now is what is behind the writes. -/
def Full (D : Dsk) : Prop := D.now = behind D.base D.wr

theorem row_lt {w : World} {B n sz : Nat} {e : TypeId} {v : Value} {xs : List Value} (h : w.ownsRow B e sz v n xs) : ∀ g, v.ownBlock = some g → g < w.heap.size := fun g hg => (h.lt g hg).2
theorem RefAt.mono {w : World} {S T : Nat → Prop} {m : Nat} {D : Dsk} (h : RefAt w S m D) (hs : ∀ k, k < w.heap.size → S k → T k) : RefAt w T m D := by
  obtain ⟨h1, h2, sb, sl, inn, hm, hS, hb, hbS, hl, hlS, ha⟩ := h
  exact ⟨h1, h2, sb, sl, inn, hm, hs m (Array.getElem?_eq_some_iff.1 hm).1 hS, hb, fun g hg => hs g (row_lt hb g hg) (hbS g hg), hl, fun g hg => hs g (row_lt hl g hg) (hlS g hg), ha⟩
theorem RefAt.off {w w' : World} {S T : Nat → Prop} {m : Nat} {D : Dsk} (h : RefAt w S m D) (ho : Off T w w') (hST : ∀ k, k < w.heap.size → S k → ¬ T k) : RefAt w' S m D := by
  obtain ⟨h1, h2, sb, sl, inn, hm, hS, hb, hbS, hl, hlS, ha⟩ := h
  exact ⟨h1, h2, sb, sl, inn, (ho.block m (Array.getElem?_eq_some_iff.1 hm).1 (hST m (Array.getElem?_eq_some_iff.1 hm).1 hS)).trans hm, hS, row_off hb ho (fun g hg => hST g (row_lt hb g hg) (hbS g hg)), hbS, row_off hl ho (fun g hg => hST g (row_lt hl g hg) (hlS g hg)), hlS, ha⟩
theorem RefAt.grown {w w' : World} {S : Nat → Prop} {m : Nat} {D : Dsk} (h : RefAt w S m D) (hg : w.grownBy w' none) : RefAt w' S m D := h.off (T := fun _ => False) (Off.of_grown hg (by simp)) (fun _ _ _ h => h)
theorem RefAt.lt {w : World} {S : Nat → Prop} {m : Nat} {D : Dsk} (h : RefAt w S m D) : m < w.heap.size := by
  obtain ⟨_, _, sb, sl, inn, hm, _⟩ := h
  exact (Array.getElem?_eq_some_iff.1 hm).1
theorem RefAt.next {w w2 : World} {S T : Nat → Prop} {m : Nat} {D : Dsk} (h : RefAt w S m D) (ho : Off T w w2) (hST : ∀ k, k < w.heap.size → S k → ¬ T k) : RefAt w2 (Beside S w.heap.size w2.heap.size) m D :=
  ((h.mono (T := fun b => S b ∧ b < w.heap.size) (fun _ hk hs => ⟨hs, hk⟩)).off ho (fun k hk hs => hST k hk hs.1)).mono (fun _ _ hs => .inl hs)
theorem str_slice {w : World} {B : Nat} {v : Value} {xs : List Value} (h : StrRow w B v xs) : ∃ A cap, v = .slice A xs.length cap ∧ xs.length ≤ cap ∧ ∀ (k : Nat) y, xs[k]? = some y → ∃ g, A = some ⟨g, 0, none⟩ ∧ w.cell? ⟨g, k, none⟩ = some y := by
  obtain ⟨_, ⟨rfl, e⟩ | ⟨g, cap, cur, rfl, hB, hb, hc, _, _, ht⟩⟩ := h
  · refine ⟨none, 0, by rw [e], by omega, fun k y hk => ?_⟩
    rw [List.eq_nil_of_length_eq_zero e] at hk
    simp at hk
  · refine ⟨_, cap, rfl, hc, fun k y hk => ⟨g, rfl, ?_⟩⟩
    have h1 : (cur.toList.take (xs.length * 1))[k]? = some y := by rw [ht]; exact hk
    rw [List.getElem?_take] at h1
    rw [cell_blk hb]
    split at h1
    · simpa using h1
    · cases h1
theorem refRows_at : ∀ (wr : List (Nat × List UInt8)) (j : Nat) (p : Nat × List UInt8), wr[j]? = some p → (refRows wr)[j * 2]? = some (.int .i64 (p.1 : Int)) ∧ (refRows wr)[j * 2 + 1]? = some (strV p.2)
  | [], j, p, h => by simp at h
  | q :: wr, 0, p, h => by
    simp at h
    subst h
    exact ⟨rfl, rfl⟩
  | q :: wr, j + 1, p, h => by
    have ih := refRows_at wr j p (by simpa using h)
    simp only [refRows, List.flatMap_cons]
    rw [show (j + 1) * 2 = j * 2 + 2 by omega, show j * 2 + 2 + 1 = j * 2 + 1 + 2 by omega]
    exact ⟨by simpa [refRows] using ih.1, by simpa [refRows] using ih.2⟩
theorem ref_slice {w : World} {B n : Nat} {v : Value} {wr : List (Nat × List UInt8)} (h : w.ownsRow B 69 2 v n (refRows wr)) : ∃ A cap, v = .slice A n cap ∧ n ≤ cap ∧ ∀ (k : Nat) p, k < n → wr[k]? = some p → ∃ g, A = some ⟨g, 0, none⟩ ∧ w.cell? ⟨g, k * 2, none⟩ = some (.int .i64 (p.1 : Int)) ∧ w.cell? ⟨g, k * 2 + 1, none⟩ = some (strV p.2) := by
  obtain ⟨_, ⟨rfl, e⟩ | ⟨g, cap, cur, rfl, hB, hb, hc, _, _, ht⟩⟩ := h
  · exact ⟨none, 0, by rw [e], by omega, fun k p hk _ => by omega⟩
  · refine ⟨_, cap, rfl, hc, fun k p hkn hk => ⟨g, rfl, ?_⟩⟩
    obtain ⟨e1, e2⟩ := refRows_at wr k p hk
    rw [← ht, List.getElem?_take] at e1 e2
    rw [cell_blk hb, cell_blk hb]
    refine ⟨?_, ?_⟩
    · split at e1
      · simpa using e1
      · cases e1
    · split at e2
      · simpa using e2
      · cases e2

set_option maxHeartbeats 2000000 in
theorem rasked_at (S : Nat → Prop) (m : Nat) (D : Dsk) (i : Int) (w : World) (h : RefAt w S m D) :
    Calls Try.prog 38 #[.pointer (some ⟨m, 0, none⟩), .int .i64 i] w fun e w' => e = .returned (.int .i64 (askedN D i)) ∧ w = w' := by
  obtain ⟨h1, h2, sb, sl, inn, hm, hS, hb, hbS, hl, hlS, ha⟩ := h
  obtain ⟨A, cap, rfl, _, _⟩ := str_slice hb
  rw [tellV_length] at hm
  have c0 : w.cell? ⟨m, 0, none⟩ = some (.slice A D.n cap) := cell_blk hm 0
  have c4 : w.cell? ⟨m, 4, none⟩ = some (.bool D.off) := cell_blk hm 4
  clear hm hb hl
  unfold askedN
  cases hoff : D.off
  · rw [hoff] at c4
    by_cases h0 : i < 0
    · have d0 : decide (i < 0) = true := by simp [h0]
      rw [if_neg (by simp), if_pos (.inl h0)]
      clear h0
      go_enter Try.func38, Try.ntmps38
      go_wp2
      go_ret
      exact ⟨rfl, rfl⟩
    · have d0 : decide (i < 0) = false := by simp; omega
      by_cases h2 : (D.n : Int) ≤ i
      · have d1 : decide ((D.n : Int) ≤ i) = true := by simp [h2]
        rw [if_neg (by simp), if_pos (.inr h2)]
        clear h0 h2
        go_enter Try.func38, Try.ntmps38
        go_wp2
        go_ret
        exact ⟨rfl, rfl⟩
      · have d1 : decide ((D.n : Int) ≤ i) = false := by simp; omega
        rw [if_neg (by simp), if_neg (by omega)]
        clear h0 h2
        go_enter Try.func38, Try.ntmps38
        go_wp2
        go_ret
        exact ⟨rfl, rfl⟩
  · rw [hoff] at c4
    rw [if_pos rfl]
    go_enter Try.func38, Try.ntmps38
    go_wp2
    go_ret
    exact ⟨rfl, rfl⟩

/-- A field of the document's disk is set. -/
theorem ref_set {w : World} {m j : Nat} {C C' : Array Value} {v : Value} (hm : w.heap[m]? = some (.cells C 61)) (hC : C.setIfInBounds j v = C') : (w.setCell ⟨m, j, none⟩ v).heap[m]? = some (.cells C' 61) ∧ w.grownBy (w.setCell ⟨m, j, none⟩ v) (some m) := by
  have := heap_setCell_same w m j _ _ v hm
  rw [hC] at this
  exact ⟨this, grown_set w m j v⟩
theorem ref_kept {w w' : World} {m n sz : Nat} {v : Value} {xs : List Value} {e : TypeId} {C : Array Value} (h : w.ownsRow 0 e sz v n xs) (hm : w.heap[m]? = some (.cells C 61)) (hne : 61 ≠ e) (hg : w.grownBy w' (some m)) : w'.ownsRow 0 e sz v n xs := by
  refine row_off h (S := fun b => b = m) (Off.of_grown hg (fun k e => by cases e; rfl)) ?_
  intro g hg' e'
  subst e'
  obtain ⟨_, ⟨rfl, _⟩ | ⟨g', cap, cur, rfl, _, hb, _⟩⟩ := h
  · cases hg'
  · cases hg'
    rw [hm] at hb
    injection hb with hb
    injection hb with _ hb
    exact hne hb

set_option maxHeartbeats 2000000 in
theorem rcrash_at (S : Nat → Prop) (m : Nat) (D : Dsk) (w : World) (h : RefAt w S m D) :
    Calls Try.prog 33 #[.pointer (some ⟨m, 0, none⟩)] w fun e w' => e = .returned (.tuple #[]) ∧ RefAt w' S m { D with armed := none, off := true } ∧ Off S w w' := by
  obtain ⟨h1, h2, sb, sl, inn, hm, hS, hb, hbS, hl, hlS, ha⟩ := h
  have c2 := cell_blk hm 2
  have c4 := cell_blk hm 4
  have z2 := frozen_blk hm 2
  have z4 := frozen_blk hm 4
  have HM := Lib.hid hm
  clear hm
  go_enter Try.func33, Try.ntmps33
  go_wp2
  go_end0
  obtain ⟨hm1, hg1⟩ := ref_set (j := 4) (v := .bool true) HM.out rfl
  obtain ⟨hm2, hg2⟩ := ref_set (j := 2) (v := .bool false) hm1 rfl
  have hg := grown_trans hg1 hg2
  exact ⟨rfl, ⟨h1, h2, sb, sl, inn, hm2, hS, ref_kept hb HM.out (by decide) hg, hbS, ref_kept hl HM.out (by decide) hg, hlS, by simp⟩, grown_off hg hS⟩
set_option maxHeartbeats 2000000 in
theorem ron_at (S : Nat → Prop) (m : Nat) (D : Dsk) (w : World) (h : RefAt w S m D) :
    Calls Try.prog 34 #[.pointer (some ⟨m, 0, none⟩)] w fun e w' => e = .returned (.tuple #[]) ∧ RefAt w' S m { D with armed := none, off := false } ∧ Off S w w' := by
  obtain ⟨h1, h2, sb, sl, inn, hm, hS, hb, hbS, hl, hlS, ha⟩ := h
  have c2 := cell_blk hm 2
  have c4 := cell_blk hm 4
  have z2 := frozen_blk hm 2
  have z4 := frozen_blk hm 4
  have HM := Lib.hid hm
  clear hm
  go_enter Try.func34, Try.ntmps34
  go_wp2
  go_end0
  obtain ⟨hm1, hg1⟩ := ref_set (j := 4) (v := .bool false) HM.out rfl
  obtain ⟨hm2, hg2⟩ := ref_set (j := 2) (v := .bool false) hm1 rfl
  have hg := grown_trans hg1 hg2
  exact ⟨rfl, ⟨h1, h2, sb, sl, inn, hm2, hS, ref_kept hb HM.out (by decide) hg, hbS, ref_kept hl HM.out (by decide) hg, hlS, by simp⟩, grown_off hg hS⟩
set_option maxHeartbeats 2000000 in
theorem rfail_at (S : Nat → Prop) (m : Nat) (D : Dsk) (i : Int) (hi : i ≤ 9223372036854775807) (w : World) (h : RefAt w S m D) :
    Calls Try.prog 32 #[.pointer (some ⟨m, 0, none⟩), .int .i64 i] w fun e w' => e = .returned (.tuple #[]) ∧ RefAt w' S m { D with armed := if 0 ≤ i then some i.toNat else none } ∧ Off S w w' := by
  obtain ⟨h1, h2, sb, sl, inn, hm, hS, hb, hbS, hl, hlS, ha⟩ := h
  have c2 := cell_blk hm 2
  have c3 := cell_blk hm 3
  have z2 := frozen_blk hm 2
  have z3 := frozen_blk hm 3
  have HM := Lib.hid hm
  clear hm
  by_cases h0 : 0 ≤ i
  · have d0 : decide (0 ≤ i) = true := by simp; omega
    have H0 := Lib.hid h0
    rw [if_pos h0]
    clear h0
    go_enter Try.func32, Try.ntmps32
    go_wp2
    go_end0
    obtain ⟨hm1, hg1⟩ := ref_set (j := 2) (v := .bool true) HM.out rfl
    obtain ⟨hm2, hg2⟩ := ref_set (j := 3) (v := .int .i64 i) hm1 rfl
    have hg := grown_trans hg1 hg2
    exact ⟨rfl, ⟨h1, h2, sb, sl, i, hm2, hS, ref_kept hb HM.out (by decide) hg, hbS, ref_kept hl HM.out (by decide) hg, hlS, fun k hk => by have := H0.out; injection hk with hk; omega⟩, grown_off hg hS⟩
  · have d0 : decide (0 ≤ i) = false := by simp; omega
    have H0 := Lib.hid h0
    rw [if_neg h0]
    clear h0
    go_enter Try.func32, Try.ntmps32
    go_wp2
    go_end0
    obtain ⟨hm1, hg1⟩ := ref_set (j := 2) (v := .bool false) HM.out rfl
    obtain ⟨hm2, hg2⟩ := ref_set (j := 3) (v := .int .i64 i) hm1 rfl
    have hg := grown_trans hg1 hg2
    exact ⟨rfl, ⟨h1, h2, sb, sl, i, hm2, hS, ref_kept hb HM.out (by decide) hg, hbS, ref_kept hl HM.out (by decide) hg, hlS, fun k hk => by have := H0.out; cases hk⟩, grown_off hg hS⟩
end Go.Proofs.Ytplnkpbfnpajjaa.Sec
