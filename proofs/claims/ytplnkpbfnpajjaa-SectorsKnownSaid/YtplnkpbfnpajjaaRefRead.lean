/- The document's disk: at, Read. -/
import Derived.Test.YtplnkpbfnpajjaaRefDisk
namespace Go.Proofs.Ytplnkpbfnpajjaa.Sec
open Go.RowKit Go.Maps

set_option maxRecDepth 100000 in
set_option maxHeartbeats 4000000 in
theorem rat_at (S : Nat → Prop) (m i q : Nat) (D : Dsk) (w : World) (h : RefAt w S m D) (hi : i < D.n) (hq : q ≤ D.wr.length) :
    Calls Try.prog 30 #[.pointer (some ⟨m, 0, none⟩), .int .i64 (i : Int), .int .i64 (q : Int)] w fun e w' => e = .returned (strV (behind D.base (D.wr.take q) i)) ∧ w = w' := by
  obtain ⟨h1, h2, sb, sl, inn, hm, hS, hb, hbS, hl, hlS, ha⟩ := h
  obtain ⟨A, cap, rfl, hcap, hA⟩ := str_slice hb
  rw [tellV_length] at hm hcap
  obtain ⟨gb, rfl, cb⟩ := hA i (strV (D.base i)) (by simp [tellV, hi])
  obtain ⟨L, capl, rfl, hlcap, hL⟩ := ref_slice hl
  have c0 : w.cell? ⟨m, 0, none⟩ = some (.slice (some ⟨gb, 0, none⟩) D.n cap) := cell_blk hm 0
  have c1 : w.cell? ⟨m, 1, none⟩ = some (.slice L D.wr.length capl) := cell_blk hm 1
  have HL := Lib.hid hL
  have i0 : (0 : Int) ≤ (i : Int) := by omega
  have i1 : (i : Int) < (D.n : Int) := by omega
  obtain ⟨r, hr⟩ : ∃ r, r = behind D.base (D.wr.take q) i := ⟨_, rfl⟩
  rw [← hr]
  have HR := Lib.hid hr
  clear hm hb hl hL hr hi hA
  have hq1 : IntKind.i64.wrap ((q : Int) - 1) = (q : Int) - 1 := by rw [IntKind.wrap_i64]; omega
  go_enter Try.func30, Try.ntmps30
  go_wp2
  go_loopw [7] (fun iv wr => ∃ j : Nat, j ≤ q ∧ iv = .int .i64 ((j : Int) - 1) ∧ behind D.base (D.wr.take q) i = behind D.base (D.wr.take j) i ∧ wr = w) (fun iv _ => (intOf iv + 1).toNat)
  case atStart => exact ⟨q, Nat.le_refl _, by first | rfl | go_num | simp, rfl, rfl⟩
  case round =>
    obtain ⟨j, hj, rfl, he, rfl⟩ := hrel
    have HE := Lib.hid he
    clear he
    cases j with
    | zero =>
      have hd : decide ((0 : Int) ≤ ((0 : Nat) : Int) - 1) = false := by decide
      have HV : Hid (r = D.base i) := HR.out.trans HE.out
      go_wp2
      go_ret
      exact ⟨by rw [HV.out]; rfl, rfl⟩
    | succ j =>
      have hcast : ((j + 1 : Nat) : Int) - 1 = (j : Int) := by omega
      rw [hcast]
      have hd : decide ((0 : Int) ≤ (j : Int)) = true := by simp
      have j0 : (0 : Int) ≤ (j : Int) := by omega
      have j1 : (j : Int) < (D.wr.length : Int) := by omega
      have hjl : j < D.wr.length := by omega
      obtain ⟨gl, rfl, cl0, cl1⟩ := HL.out j (D.wr[j]) hjl (List.getElem?_eq_getElem hjl)
      obtain ⟨p, hp⟩ : ∃ p, p = D.wr[j] := ⟨_, rfl⟩
      rw [← hp] at cl0 cl1
      have HP := Lib.hid hp
      have hstep : behind D.base (D.wr.take (j + 1)) i = if i = p.1 then p.2 else behind D.base (D.wr.take j) i := by
        rw [List.take_succ_eq_append_getElem hjl, behind_snoc, ← hp]
        rfl
      by_cases hpi : i = p.1
      · have hpe : (p.1 : Int) = (i : Int) := by omega
        rw [hpe] at cl0
        have HV : Hid (r = p.2) := by
          show r = p.2
          rw [HR.out, HE.out, hstep, if_pos hpi]
        clear hstep hpi hp hcast hpe
        go_wp2
        go_ret
        exact ⟨by rw [HV.out]; rfl, rfl⟩
      · have hd2 : decide ((p.1 : Int) = (i : Int)) = false := by simp; omega
        have hd3 : ((p.1 : Int) == (i : Int)) = false := by simp; omega
        have hne : p.1 ≠ i := fun e => hpi e.symm
        have HST : Hid (behind D.base (D.wr.take (j + 1)) i = behind D.base (D.wr.take j) i) := by
          show _ = _
          rw [hstep, if_neg hpi]
        have hw : IntKind.i64.wrap ((j : Int) - 1) = (j : Int) - 1 := by rw [IntKind.wrap_i64]; omega
        clear hstep hp hcast
        go_wp2
        go_roundw
        case rel => exact ⟨j, by omega, by first | rfl | go_num | simp [hw], HE.out.trans HST.out, by first | rfl | trivial⟩
        case measure => first | (simp [intOf]; done) | (simp [intOf]; omega)

set_option maxHeartbeats 2000000 in
/-- READ, refused. -/
theorem rread_refused (S : Nat → Prop) (m : Nat) (i x : Int) (D : Dsk) (w : World) (h : RefAt w S m D) (hx : askedN D i = x) (hx0 : x = 20 ∨ x = 2) :
    Calls Try.prog 31 #[.pointer (some ⟨m, 0, none⟩), .int .i64 i] w fun e w' => e = .returned (.tuple #[.string ⟨#[]⟩, .int .i64 x]) ∧ w = w' := by
  have hask := rasked_at S m D i w h
  rw [hx] at hask
  have HA := Lib.hid hask
  clear hask h hx
  rcases hx0 with rfl | rfl <;>
  · go_enter Try.func31, Try.ntmps31
    go_wp2_with fail
    refine HA.out.mono ?_
    rintro e w' ⟨rfl, rfl⟩
    go_wp2_with fail
    go_ret2
    exact ⟨rfl, rfl⟩
set_option maxHeartbeats 2000000 in
theorem rread_told (S : Nat → Prop) (m i : Nat) (D : Dsk) (w : World) (h : RefAt w S m D) (hi : i < D.n) (ho : D.off = false) (hf : Full D) :
    Calls Try.prog 31 #[.pointer (some ⟨m, 0, none⟩), .int .i64 (i : Int)] w fun e w' => e = .returned (.tuple #[strV (D.now i), .int .i64 0]) ∧ w = w' := by
  have hask := rasked_at S m D (i : Int) w h
  rw [show askedN D (i : Int) = 0 by unfold askedN; rw [if_neg (by simp [ho]), if_neg (by omega)]] at hask
  have hat := rat_at S m i D.wr.length D w h hi (Nat.le_refl _)
  rw [List.take_length, ← hf] at hat
  obtain ⟨h1, h2, sb, sl, inn, hm, hS, hb, hbS, hl, hlS, ha⟩ := h
  obtain ⟨L, capl, rfl, hlcap, hL⟩ := ref_slice hl
  have c1 : w.cell? ⟨m, 1, none⟩ = some (.slice L D.wr.length capl) := cell_blk hm 1
  have HA := Lib.hid hask
  have HT := Lib.hid hat
  clear hask hat hm hb hl hL hf
  go_enter Try.func31, Try.ntmps31
  go_wp2_with fail
  refine HA.out.mono ?_
  rintro e w' ⟨rfl, rfl⟩
  go_wp2_with fail
  refine HT.out.mono ?_
  rintro e w' ⟨rfl, rfl⟩
  go_wp2_with fail
  go_ret2
  exact ⟨rfl, rfl⟩
end Go.Proofs.Ytplnkpbfnpajjaa.Sec
