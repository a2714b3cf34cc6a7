/- A part of the proof of JournalKnown: JnlBr KLies JnlAppX JnlCkX KQuad KDoes. -/
import Derived.Test.YtgdedgfohjplmaaGreatK00
import Derived.Test.YtgdedgfohjplmaaGreatK07
import Derived.Test.YtgdedgfohjplmaaGreatK14
set_option maxRecDepth 100000
set_option maxHeartbeats 40000000
namespace Go.Proofs.YtgdedgfohjplmaaGreat.Jnl
open Go.RowKit Go.Maps Sec
section
variable {w w' : World} {jb d : Nat} {J : Jn} {sv rv : Value} {br : Int}
theorem JBE.cell (h : JBE w jb d J sv rv br) (j : Nat) : w.cell? ⟨jb, j, none⟩ = (JCE d J sv rv br)[j]? := cell_blk h j
theorem JBE.lt (h : JBE w jb d J sv rv br) : jb < w.heap.size := (Array.getElem?_eq_some_iff.1 h).1
end
theorem half_e {br : Int} (Sd : Nat → Prop) (d : Nat) (D : Dsk) (jb : Nat) (J : Jn) (sv rv : Value) (w : World) (h : DiskAt w Sd d D) (hj : JBE w jb d J sv rv br) :
  Calls Tryz.prog 29 #[.pointer (some ⟨jb, 0, none⟩)] w fun e w' => e = .returned (.int .i64 ((D.n / 2 : Nat) : Int)) ∧ w' = w := by
 have c0 : w.cell? ⟨jb, 0, none⟩ = some (.pointer (some ⟨d, 0, none⟩)) := hj.cell 0
 have HD := Lib.hid h
 have hn := h.1
 clear h hj
 go_enter Tryz.func29, Tryz.ntmps29
 go_wp2_with fail
 refine (sectors_at Sd d D w HD.out).mono ?_
 rintro e w2 ⟨rfl, hw2⟩
 subst hw2
 go_wp2_with fail
 go_ret
 exact ⟨rfl, rfl⟩
theorem first_e {br : Int} (S : Nat → Prop) (jb d : Nat) (J : Jn) (w : World) (h : JE w S jb d J br) :
  Calls Tryz.prog 9 #[.pointer (some ⟨jb, 0, none⟩)] w fun e w' => e = .returned (.int .i64 (J.first : Int)) ∧ w' = w := by
 obtain ⟨sv, rv, vs, h⟩ := h
 have c4 : w.cell? ⟨jb, 4, none⟩ = some (.int .i64 (J.first : Int)) := h.blk.cell 4
 clear h
 go_enter Tryz.func9, Tryz.ntmps9
 go_wp2
 go_ret
 exact ⟨rfl, rfl⟩
theorem next_e {br : Int} (jb d : Nat) (J : Jn) (sv rv : Value) (A : Option Addr) (n cap : Nat) (hrv : rv = .slice A n cap) (hn : J.first + n < 9223372036854775808) (w : World) (h : JBE w jb d J sv rv br) :
  Calls Tryz.prog 10 #[.pointer (some ⟨jb, 0, none⟩)] w fun e w' => e = .returned (.int .i64 ((J.first + n : Nat) : Int)) ∧ ∃ m, w' = w.drewN m := by
 subst hrv
 have c4 : w.cell? ⟨jb, 4, none⟩ = some (.int .i64 (J.first : Int)) := h.cell 4
 have c7 : w.cell? ⟨jb, 7, none⟩ = some (.slice A n cap) := h.cell 7
 have n1 : IntKind.i64.wrap ((J.first : Int) + (n : Int)) = (J.first : Int) + (n : Int) := by rw [IntKind.wrap_i64]; omega
 clear h
 go_enter Tryz.func10, Tryz.ntmps10
 go_wp2_with fail
 go_quiet (fail)
 go_wp2_with fail
 go_ret
 exact ⟨by rw [Int.natCast_add]; rfl, _, rfl⟩
theorem broken_e {br : Int} (jb d : Nat) (J : Jn) (sv rv : Value) (w : World) (h : JBE w jb d J sv rv br) :
  Calls Tryz.prog 12 #[.pointer (some ⟨jb, 0, none⟩)] w fun e w' => e = .returned (.int .i64 br) ∧ w' = w := by
 have c9 : w.cell? ⟨jb, 9, none⟩ = some (.int .i64 br) := h.cell 9
 clear h
 go_enter Tryz.func12, Tryz.ntmps12
 go_wp2
 go_ret
 exact ⟨rfl, rfl⟩
theorem state_e {br : Int} (S : Nat → Prop) (jb d : Nat) (J : Jn) (w : World) (h : JE w S jb d J br) (hl : J.st.length ≤ 100000000) :
  Calls Tryz.prog 8 #[.pointer (some ⟨jb, 0, none⟩)] w fun e w' => ∃ v, e = .returned v ∧ BRow w' w.heap.size v J.st ∧ Below w.heap.size w w' := by
 obtain ⟨sv, rv, vs, h⟩ := h
 obtain ⟨A, cap, rfl, h1, h2⟩ := row_len h.st
 have c6 : w.cell? ⟨jb, 6, none⟩ = some (.slice A J.st.length cap) := h.blk.cell 6
 have HS : Hid ((J.st = [] ∧ cap = 0) ∨ ∃ g off, A = some ⟨g, off, none⟩ ∧ w.rangeAt g off (u8s J.st)) := by
  obtain ⟨_, ⟨e, e2⟩ | ⟨g, cap', cur, e, h3, hb, h4, h5, h6, h7⟩⟩ := id h.st
  ·simp only [Value.slice.injEq] at e
   exact .inl ⟨List.eq_nil_of_length_eq_zero e2, e.2.2⟩
  ·simp only [Value.slice.injEq, true_and] at e
   obtain ⟨rfl, rfl⟩ := e
   refine .inr ⟨g, 0, rfl, fun j u hj => ?_⟩
   have := World.ownsRow.cells h.st (g := g) rfl j u hj
   rw [Addr.add_lit] at this
   exact this
 clear h
 go_enter Tryz.func8, Tryz.ntmps8
 go_wp2_with fail
 refine (clone_row A J.st J.st.length cap w rfl HS.out hl).mono ?_
 rintro e w2 ⟨v, rfl, hr, hb⟩
 go_wp2_with fail
 go_ret
 exact ⟨_, rfl, hr, hb⟩
theorem free_e {br : Int} (Sd S : Nat → Prop) (d jb : Nat) (D : Dsk) (J : Jn) (w : World) (h : DiskAt w Sd d D) (hj : JE w S jb d J br) (hu : J.used ≤ D.n / 2 - 1) (h4 : 4 ≤ D.n) :
  Calls Tryz.prog 11 #[.pointer (some ⟨jb, 0, none⟩)] w fun e w' => e = .returned (.int .i64 ((D.n / 2 - 1 - J.used : Nat) : Int)) ∧ ∃ m, w' = w.drewN m := by
 obtain ⟨sv, rv, vs, hj⟩ := hj
 have hm := h.1
 have c5 : w.cell? ⟨jb, 8, none⟩ = some (.int .i64 (J.used : Int)) := hj.blk.cell 8
 have HH : Hid (∀ m, DiskAt (w.drewN m) Sd d D) := fun m => h.grown ⟨rfl, rfl, rfl, Nat.le_refl _, fun _ _ _ => rfl⟩
 have HB : Hid (∀ m, JBE (w.drewN m) jb d J sv rv br) := fun m => hj.blk
 have n1 : IntKind.i64.wrap ((D.n : Int) / 2 - 1) = (D.n : Int) / 2 - 1 := by rw [IntKind.wrap_i64]; omega
 have n2 : IntKind.i64.wrap ((D.n : Int) / 2 - 1 - (J.used : Int)) = (D.n : Int) / 2 - 1 - (J.used : Int) := by rw [IntKind.wrap_i64]; omega
 have HE : Hid ((D.n : Int) / 2 - 1 - (J.used : Int) = ((D.n / 2 - 1 - J.used : Nat) : Int)) := by show _ = _; omega
 clear h hj hm hu h4
 go_enter Tryz.func11, Tryz.ntmps11
 go_wp2_with fail
 go_quiet ((go_at_call 29; exact Calls.quiet_of_same (half_e Sd d D jb J sv rv _ (by exact HH.out _) (by exact HB.out _))))
 go_wp2_with fail
 go_ret
 exact ⟨by rw [← HE.out]; rfl, _, rfl⟩
theorem JEIn.rec_at {br : Int} {w : World} {S : Nat → Prop} {jb d : Nat} {J : Jn} {sv rv : Value} {vs : List Value} (h : JEIn w S jb d J sv rv vs br) (i : Nat) (l : List UInt8) (hi : J.recs[i]? = some l) : ∃ g cap v, rv = .slice (some ⟨g, 0, none⟩) J.recs.length cap ∧ w.cell? ⟨g, i, none⟩ = some v ∧ BRow w 0 v l := by
 obtain ⟨v, hv, hr⟩ := h.recs i l hi
 obtain ⟨_, ⟨e, e2⟩ | ⟨g, cap, cur, rfl, h3, hb, h4, h5, h6, h7⟩⟩ := id h.rows
 ·have := (List.getElem?_eq_some_iff.1 hi).1
  omega
 ·refine ⟨g, cap, v, rfl, ?_, hr⟩
  have := World.ownsRow.cells h.rows (g := g) rfl i v hv
  rw [Addr.add_lit, Nat.zero_add] at this
  exact this
theorem record_e {br : Int} (S : Nat → Prop) (jb d : Nat) (J : Jn) (i : Nat) (l : List UInt8) (w : World) (hj : JE w S jb d J br) (hi : J.recs[i]? = some l) (hl : l.length ≤ 100000000) (hf : J.first + J.recs.length < 9223372036854775808) :
  Calls Tryz.prog 7 #[.pointer (some ⟨jb, 0, none⟩), .int .i64 ((J.first + i : Nat) : Int)] w fun e w' => ∃ v, e = .returned (.tuple #[v, .bool true]) ∧ BRow w' w.heap.size v l ∧ Below w.heap.size w w' := by
 obtain ⟨sv, rv, vs, hj⟩ := hj
 have hlt : i < J.recs.length := (List.getElem?_eq_some_iff.1 hi).1
 obtain ⟨g, cap, v, rfl, hc, hr⟩ := hj.rec_at i l hi
 obtain ⟨A, cap2, rfl, hc1, hc2, hA⟩ := brow_clone hr
 obtain ⟨k, hk⟩ : ∃ k, k = J.first + i := ⟨_, rfl⟩
 obtain ⟨n, hn⟩ : ∃ n, n = J.recs.length := ⟨_, rfl⟩
 have c4 : w.cell? ⟨jb, 4, none⟩ = some (.int .i64 (J.first : Int)) := hj.blk.cell 4
 have c7 : w.cell? ⟨jb, 7, none⟩ = some (.slice (some ⟨g, 0, none⟩) n cap) := hn ▸ hj.blk.cell 7
 have HB := Lib.hid hj.blk
 have HA := Lib.hid hA
 have HL := Lib.hid hl
 have HF : Hid (J.first + J.recs.length < 9223372036854775808) := hf
 have HC0 : Hid (∀ m, (w.drewN m).drew.cell? ⟨jb, 7, none⟩ = some (.slice (some ⟨g, 0, none⟩) n cap) ∧ (w.drewN m).drew.cell? ⟨jb, 4, none⟩ = some (.int .i64 (J.first : Int)) ∧ (w.drewN m).drew.cell? ⟨g, i, none⟩ = some (.slice A l.length cap2)) := fun m => ⟨c7, c4, hc⟩
 have d1 : decide (k < J.first) = false := by simp; omega
 obtain ⟨nx, hnx⟩ : ∃ nx, nx = J.first + n := ⟨_, rfl⟩
 have d2 : decide (nx ≤ k) = false := by simp; omega
 have HNX := Lib.hid hnx
 have HS : Hid (IntKind.i64.wrap ((k : Int) - (J.first : Int)) = (i : Int)) := by show _ = _; rw [IntKind.wrap_i64]; omega
 have HA2 : Hid (((l = [] ∧ cap2 = 0) ∨ ∃ g off, A = some ⟨g, off, none⟩ ∧ w.rangeAt g off (u8s l))) := hA
 have HGL : Hid (g < w.heap.size ∧ jb < w.heap.size) := ⟨cell_lt hc, hj.blk.lt⟩
 have HCB : Hid (∀ w5, Below w.heap.size w w5 → w5.cell? ⟨jb, 7, none⟩ = some (.slice (some ⟨g, 0, none⟩) n cap) ∧ w5.cell? ⟨jb, 4, none⟩ = some (.int .i64 (J.first : Int)) ∧ w5.cell? ⟨g, i, none⟩ = some (.slice A l.length cap2)) := fun w5 hb => ⟨below_cell hb HGL.out.2 c7, below_cell hb HGL.out.2 c4, below_cell hb HGL.out.1 hc⟩
 have HI : Hid (i < n) := by show _ < _; omega
 have HNN := Lib.hid hn
 rw [← hk]
 clear hj hi hlt hr hc1 hc2 hA hl hf hc hk hn hnx c7
 go_enter Tryz.func7, Tryz.ntmps7
 go_wp2_with fail
 refine (next_e jb d J sv _ (some ⟨g, 0, none⟩) n cap (by rw [HNN.out]) (by rw [HNN.out]; exact HF.out) w HB.out).mono ?_
 rintro e wq ⟨rfl, m, rfl⟩
 rw [← HNX.out]
 clear d1
 go_wp2_with fail
 refine wp_region_noPanic ?_
 refine wp_region_held_drew (S := fun w' => w'.cell? ⟨jb, 7, none⟩ = some (Value.slice (some ⟨g, 0, none⟩) n cap) ∧ w'.cell? ⟨jb, 4, none⟩ = some (Value.int .i64 (J.first : Int)) ∧ w'.cell? ⟨g, i, none⟩ = some (Value.slice A l.length cap2)) (by kernel_rfl) ?hSr (fun hHeld => ?_)
 case hSr => exact HC0.out m
 refine ztk 0 rfl ?_
 refine ztk 1 rfl ?_
 refine ztk 2 rfl ?_
 refine ztk 3 rfl ?_
 refine ztk 4 rfl ?_
 refine ztk 5 rfl ?_
 refine ztk 6 rfl ?_
 refine ztk 7 rfl ?_
 refine ztk 8 rfl ?_
 refine ztk 9 rfl ?_
 refine ztk 10 rfl ?_ (v := .int .i64 (i : Int)) (hy := ?hr10)
 case hr10 => (intro wS hSw; (try dsimp only at hSw); go_simp; rw [HS.out])
 refine ztk 11 rfl ?_ (v := .pointer (some ⟨g, i, none⟩)) (hy := ?hr11)
 case hr11 => (intro wS hSw; (try dsimp only at hSw); have hi := HI.out; go_simp)
 refine ztk 12 rfl ?_
 refine zrd 13 rfl (fun K hK => ?_)
 go_simp
 refine (clone_row A l l.length cap2 (w.drewN m).drew rfl HA2.out HL.out).mono ?_
 rintro e w5 ⟨v, rfl, hr5, hb5⟩
 have HR5 := Lib.hid hr5
 have HB5 := Lib.hid hb5
 clear hr5 hb5
 go_wp2_with fail
 refine hK.out _ _ ?q (fun hHeld => ?_)
 case q => (try dsimp only); exact HCB.out w5 ⟨HB5.out.os, HB5.out.tape, HB5.out.output, HB5.out.size, HB5.out.block⟩
 clear hK K
 try simp only [zpt]
 refine ztk 14 rfl ?_
 refine ztk 15 rfl ?_
 refine wpAnyH_done (by kernel_rfl) ?_ _
 refine NoPanic.normal ?_
 clear hHeld
 go_wp2_with fail
 go_ret2
 exact ⟨_, rfl, HR5.out, ⟨HB5.out.os, HB5.out.tape, HB5.out.output, HB5.out.size, HB5.out.block⟩⟩
theorem record_none_e {br : Int} (S : Nat → Prop) (jb d : Nat) (J : Jn) (k : Nat) (w : World) (hj : JE w S jb d J br) (hk : k < J.first ∨ J.first + J.recs.length ≤ k) (hf : J.first + J.recs.length < 9223372036854775808) :
  Calls Tryz.prog 7 #[.pointer (some ⟨jb, 0, none⟩), .int .i64 (k : Int)] w fun e w' => e = .returned (.tuple #[.slice none 0 0, .bool false]) ∧ ∃ m, w' = w.drewN m := by
 obtain ⟨sv, rv, vs, hj⟩ := hj
 obtain ⟨A, cap, rfl, _, _⟩ := row_len hj.rows
 have c4 : w.cell? ⟨jb, 4, none⟩ = some (.int .i64 (J.first : Int)) := hj.blk.cell 4
 have HB := Lib.hid hj.blk
 have HF := Lib.hid hf
 obtain ⟨nx, hnx⟩ : ∃ nx, nx = J.first + J.recs.length := ⟨_, rfl⟩
 have HNX := Lib.hid hnx
 by_cases h1 : k < J.first
 ·have d1 : decide (k < J.first) = true := by simp [h1]
  clear hk h1 hj hf hnx
  go_enter Tryz.func7, Tryz.ntmps7
  go_wp2_with fail
  go_ret2
  exact ⟨rfl, 0, rfl⟩
 ·have d1 : decide (k < J.first) = false := by simp; omega
  have d2 : decide (nx ≤ k) = true := by simp; omega
  clear hk h1 hj hf hnx
  go_enter Tryz.func7, Tryz.ntmps7
  go_wp2_with fail
  refine (next_e jb d J sv _ A _ cap rfl HF.out w HB.out).mono ?_
  rintro e wq ⟨rfl, m, rfl⟩
  rw [← HNX.out]
  clear d1
  go_wp2_with fail
  go_ret2
  exact ⟨rfl, m, rfl⟩
theorem asked_brk (jb d : Nat) (J : Jn) (sv rv : Value) (br : Int) (hbr : br ≠ 0) (n limit room : Int) (w : World) (hj : JBE w jb d J sv rv br) :
  Calls Tryz.prog 30 #[.pointer (some ⟨jb, 0, none⟩), .int .i64 n, .int .i64 limit, .int .i64 room] w fun e w' => e = .returned (.int .i64 br) ∧ w' = w := by
 have HB := Lib.hid hj
 have d1 : (br != 0) = true := by simp [hbr]
 have d2 : (br == 0) = false := by simp [hbr]
 clear hj hbr
 go_enter Tryz.func30, Tryz.ntmps30
 go_wp2_with fail
 refine (broken_e jb d J sv rv w HB.out).mono ?_
 rintro e wq ⟨rfl, hwq⟩
 subst hwq
 go_wp2_with fail
 refine (broken_e jb d J sv rv wq HB.out).mono ?_
 rintro e wq2 ⟨rfl, hwq⟩
 subst hwq
 go_wp2_with fail
 go_ret
 exact ⟨rfl, rfl⟩
theorem append_broken (Sd S : Nat → Prop) (d jb : Nat) (D : Dsk) (J : Jn) (br : Int) (hbr : br ≠ 0) (n : Nat) (A : Option Addr) (cap : Nat) (w : World) (h : DiskAt w Sd d D) (hj : JE w S jb d J br) (hu : J.used ≤ D.n / 2 - 1) (h4 : 4 ≤ D.n) (hcap : n ≤ cap) (_ : cap ≤ maxLen) :
  Calls Tryz.prog 13 #[.pointer (some ⟨jb, 0, none⟩), .slice A n cap] w fun e w' => e = .returned (.int .i64 br) ∧ ∃ m, w' = w.drewN m := by
 have HD := Lib.hid h
 have HJ := Lib.hid hj
 have HU := Lib.hid hu
 have HN := Lib.hid h4
 have HX := Lib.hid hbr
 have d1 : (br != 0) = true := by simp [hbr]
 have c1 : (n : Int) ≤ (cap : Int) := by omega
 clear h hj hu h4 hbr
 go_enter Tryz.func13, Tryz.ntmps13
 go_wp2_with fail
 refine (free_e Sd S d jb D J w HD.out HJ.out HU.out HN.out).mono ?_
 rintro e wq ⟨rfl, m, rfl⟩
 go_wp2_with fail
 obtain ⟨sv, rv, vs, hj⟩ := HJ.out
 have HB : Hid (JBE (w.drewN m) jb d J sv rv br) := hj.blk
 clear hj
 refine (asked_brk jb d J sv rv br HX.out _ _ _ (w.drewN m) HB.out).mono ?_
 rintro e wq ⟨rfl, rfl⟩
 go_wp2_with fail
 go_ret
 exact ⟨rfl, m, rfl⟩
theorem ck_broken (Sd S : Nat → Prop) (d jb : Nat) (D : Dsk) (J : Jn) (br : Int) (hbr : br ≠ 0) (n : Nat) (A : Option Addr) (cap : Nat) (w : World) (h : DiskAt w Sd d D) (hj : JE w S jb d J br) (h4 : 4 ≤ D.n) (hcap : n ≤ cap) (_ : cap ≤ maxLen) :
  Calls Tryz.prog 14 #[.pointer (some ⟨jb, 0, none⟩), .slice A n cap] w fun e w' => e = .returned (.int .i64 br) ∧ ∃ m, w' = w.drewN m := by
 have HD := Lib.hid h
 have HX := Lib.hid hbr
 have d1 : (br != 0) = true := by simp [hbr]
 have HW : Hid (wrap64 ((D.n : Int) / 2 - 1) = ((D.n / 2 - 1 : Nat) : Int)) := half_wrap h.1 h4
 have c1 : (n : Int) ≤ (cap : Int) := by omega
 obtain ⟨sv, rv, vs, hj⟩ := hj
 have HB := Lib.hid hj.blk
 clear h hj h4 hbr
 go_enter Tryz.func14, Tryz.ntmps14
 go_wp2_with fail
 refine (half_e Sd d D jb J sv rv w HD.out HB.out).mono ?_
 rintro e wq ⟨rfl, hwq⟩
 have hwq := hwq.symm
 subst hwq
 go_wp2_with fail
 rw [HW.out]
 refine (asked_brk jb d J sv rv br HX.out _ _ _ w HB.out).mono ?_
 rintro e wq ⟨rfl, hwq⟩
 have hwq := hwq.symm
 subst hwq
 go_wp2_with fail
 go_ret
 exact ⟨rfl, 0, rfl⟩
theorem append_limit (Sd S : Nat → Prop) (d jb : Nat) (D : Dsk) (J : Jn) (l : List UInt8) (A : Option Addr) (cap : Nat) (w : World) (h : DiskAt w Sd d D) (hj : JAt w S jb d J) (hu : J.used ≤ D.n / 2 - 1) (h4 : 4 ≤ D.n) (hl : 1048576 < l.length) (hl2 : l.length < 100000000) (hcap : l.length ≤ cap) (_ : cap ≤ maxLen) :
  Calls Tryz.prog 13 #[.pointer (some ⟨jb, 0, none⟩), .slice A l.length cap] w fun e w' => e = .returned (.int .i64 3) ∧ ∃ m, w' = w.drewN m := by
 have HD := Lib.hid h
 have HJ := Lib.hid hj
 have HU := Lib.hid hu
 have HN := Lib.hid h4
 have HE : Hid (askedJ l.length 1048576 (D.n / 2 - 1 - J.used) = 3) := by
  show _ = _
  unfold askedJ
  rw [if_pos hl]
 have HLL : Hid (l.length < 1000000000000) := by show _ < _; omega
 obtain ⟨n, hn⟩ : ∃ n, n = l.length := ⟨_, rfl⟩
 rw [← hn] at hcap ⊢
 have HNL := Lib.hid hn
 have c1 : (n : Int) ≤ (cap : Int) := by omega
 clear h hj hu h4 hl hn
 go_enter Tryz.func13, Tryz.ntmps13
 go_wp2_with fail
 refine (free_at Sd S d jb D J w HD.out HJ.out HU.out HN.out).mono ?_
 rintro e wq ⟨rfl, m, rfl⟩
 go_wp2_with fail
 obtain ⟨sv, rv, vs, hj⟩ := HJ.out
 have HB := Lib.hid hj.blk
 clear hj
 rw [HNL.out]
 refine (asked_at jb d J sv rv l.length 1048576 (D.n / 2 - 1 - J.used) HLL.out (w.drewN m) HB.out).mono ?_
 rintro e wq ⟨rfl, rfl⟩
 rw [HE.out]
 go_wp2_with fail
 go_ret
 exact ⟨rfl, m, rfl⟩
theorem ck_limit (Sd S : Nat → Prop) (d jb : Nat) (D : Dsk) (J : Jn) (l : List UInt8) (A : Option Addr) (cap : Nat) (w : World) (h : DiskAt w Sd d D) (hj : JAt w S jb d J) (h4 : 4 ≤ D.n) (hl : 1048576 < l.length) (hl2 : l.length < 100000000) (hcap : l.length ≤ cap) (_ : cap ≤ maxLen) :
  Calls Tryz.prog 14 #[.pointer (some ⟨jb, 0, none⟩), .slice A l.length cap] w fun e w' => e = .returned (.int .i64 3) ∧ ∃ m, w' = w.drewN m := by
 have HD := Lib.hid h
 have HJ := Lib.hid hj
 have HN := Lib.hid h4
 have HE : Hid (askedJ l.length 1048576 (D.n / 2 - 1) = 3) := by
  show _ = _
  unfold askedJ
  rw [if_pos hl]
 have HLL : Hid (l.length < 1000000000000) := by show _ < _; omega
 have HW : Hid (wrap64 ((D.n : Int) / 2 - 1) = ((D.n / 2 - 1 : Nat) : Int)) := half_wrap h.1 h4
 obtain ⟨n, hn⟩ : ∃ n, n = l.length := ⟨_, rfl⟩
 rw [← hn] at hcap ⊢
 have HNL := Lib.hid hn
 have c1 : (n : Int) ≤ (cap : Int) := by omega
 obtain ⟨sv, rv, vs, hj⟩ := HJ.out
 have HB := Lib.hid hj.blk
 clear h hj h4 hl hn
 go_enter Tryz.func14, Tryz.ntmps14
 go_wp2_with fail
 refine (half_at Sd d D jb J sv rv w HD.out HB.out).mono ?_
 rintro e wq ⟨rfl, hwq⟩
 have hwq := hwq.symm
 subst hwq
 go_wp2_with fail
 rw [HW.out, HNL.out]
 refine (asked_at jb d J sv rv l.length 1048576 (D.n / 2 - 1) HLL.out w HB.out).mono ?_
 rintro e wq ⟨rfl, hwq⟩
 have hwq := hwq.symm
 subst hwq
 rw [HE.out]
 go_wp2_with fail
 go_ret
 exact ⟨rfl, 0, rfl⟩
theorem ByteAt.off {w w' : World} {g n : Nat} {T : Nat → Prop} (h : ByteAt w g n) (hg : g < w.heap.size) (ho : Off T w w') (hT : ¬ T g) : ByteAt w' g n := fun j hj => by
 have hb := ho.block g hg hT
 refine ⟨?_, ?_⟩
 ·obtain ⟨z, hz⟩ := (h j hj).1
  exact ⟨z, (World.cell?_of_block (w := w) (a := ⟨g, j, none⟩) hb).trans hz⟩
 ·have := (h j hj).2
  simp only [World.frozen?] at this ⊢
  rw [hb]
  exact this
theorem lies_at (S T : Nat → Prop) (d m : Nat) (D : Dsk) (w : World) (hd : DiskAt w S d D) (hm : RefAt w T m D) (hf : Full D) :
  Calls Tryz.prog 39 #[.pointer (some ⟨d, 0, none⟩), .pointer (some ⟨m, 0, none⟩)] w fun e w' => e = .returned (.bool true) ∧ Off (fun _ => False) w w' := by
 have h16 : D.n ≤ 16384 := hd.1
 have HD := Lib.hid (hd.mono (T := fun b => b < w.heap.size) (fun k hk _ => hk))
 have HM := Lib.hid (hm.mono (T := fun b => b < w.heap.size) (fun k hk _ => hk))
 have HF := Lib.hid hf
 have hq : ∀ q, w.grownBy (w.drewN q) none := fun q => ⟨rfl, rfl, rfl, Nat.le_refl _, fun _ _ _ => rfl⟩
 have HC2 : Hid (∀ q, Calls Tryz.prog 53 #[.pointer (some ⟨d, 0, none⟩)] (w.drewN q) fun e w' => e = .returned (.int .i64 (D.wr.length : Int)) ∧ w.drewN q = w') := fun q => writes_at _ d D _ (HD.out.grown (hq q))
 have HC3 : Hid (∀ q, Calls Tryz.prog 22 #[.pointer (some ⟨d, 0, none⟩)] (w.drewN q) fun e w' => e = .returned (.bool D.off) ∧ w.drewN q = w') := fun q => off_at _ d D _ (HD.out.grown (hq q))
 obtain ⟨_, _, sb, sl, inn, hmm, hS, hb, hbS, hl, hlS, ha⟩ := HM.out
 obtain ⟨A, cap, hsb, hcap, _⟩ := str_slice hb
 obtain ⟨L, capl, hsl, hlcap, _⟩ := ref_slice hl
 rw [tellV_length] at hsb
 subst hsb hsl
 have c0 : w.cell? ⟨m, 0, none⟩ = some (.slice A D.n cap) := cell_blk hmm 0
 have c1 : w.cell? ⟨m, 1, none⟩ = some (.slice L D.wr.length capl) := cell_blk hmm 1
 have c4 : w.cell? ⟨m, 4, none⟩ = some (.bool D.off) := cell_blk hmm 4
 have HMM := Lib.hid hmm
 have HMLT := Lib.hid (Array.getElem?_eq_some_iff.1 hmm).1
 have HREF : Hid (∀ wr : World, Off (fun b => w.heap.size ≤ b) w wr → DiskAt wr (fun b => b < w.heap.size) d D ∧ RefAt wr (fun b => b < w.heap.size) m D ∧ wr.cell? ⟨m, 0, none⟩ = some (.slice A D.n cap)) := fun wr ho =>
  ⟨HD.out.off ho (fun k _ h => by omega), HM.out.off ho (fun k _ h => by omega), cell_blk ((ho.block m HMLT.out (by have := HMLT.out; omega)).trans HMM.out) 0⟩
 clear hd hm hf hb hl hmm ha hbS hlS hq
 go_enter Tryz.func39, Tryz.ntmps39
 go_wp2
 go_quiet (first
  | (go_at_call 53; exact Calls.quiet_of_same ((HC2.out _).mono fun _ _ h => ⟨h.1, h.2.symm⟩))
  | (go_at_call 22; exact Calls.quiet_of_same ((HC3.out _).mono fun _ _ h => ⟨h.1, h.2.symm⟩)))
 go_wp2
 have hcn : ∀ w : World, (convert 28 9 (.slice none 0 0)).run Tryz.prog w = .ok (.string ⟨#[]⟩) w := fun w => run_convert_bytes_nil (P := Tryz.prog) w 28 5 Tryz.underlying28 Tryz.underlying5 0 0 _ Tryz.underlying9
 clear c0 c1 c4
 go_loopw [5] (fun iv wr => ∃ k : Nat, k ≤ D.n ∧ iv = .int .i64 (k : Int) ∧ Off (fun b => w.heap.size ≤ b) w wr) (fun iv _ => D.n - (intOf iv).toNat)
 case atStart => exact ⟨0, by omega, rfl, Off.of_grown ⟨rfl, rfl, rfl, Nat.le_refl _, fun _ _ _ => rfl⟩ (row := none) (by simp)⟩
 case round =>
  obtain ⟨k, hk, rfl, ho⟩ := hrel
  obtain ⟨hdr, hmr, c0r⟩ := HREF.out wr ho
  have HO := Lib.hid ho
  have HDR := Lib.hid hdr
  have HMR := Lib.hid hmr
  by_cases hlt : k < D.n
  ·have hd : decide (k < D.n) = true := by simp; omega
   have HZW : Hid (wrap64 ((k : Int) + 1) = (k : Int) + 1) := by show wrap64 _ = _; unfold wrap64; omega
   have HLT := Lib.hid hlt
   clear ho hdr hmr
   go_wp2_with fail
   rcases askedN_cases D (k : Int) with hx | hx | ⟨hx, hoff, hz0, hzi⟩
   ·refine (read_refused _ d (k : Int) 20 D wr HDR.out hx (.inl rfl)).mono ?_
    rintro e w2 ⟨rfl, rfl⟩
    go_wp2_with fail
    refine (rread_refused _ m (k : Int) 20 D wr HMR.out hx (.inl rfl)).mono ?_
    rintro e w2 ⟨rfl, rfl⟩
    go_wp2_with fail
    go_roundw
    case rel => exact ⟨k + 1, HLT.out, by go_num, HO.out⟩
    case measure => have := HLT.out; simp [intOf]; omega
   ·exfalso
    have h2 := HLT.out
    unfold askedN at hx
    split at hx
    ·cases hx
    ·rw [if_neg (by omega)] at hx
     cases hx
   ·have hrd := read_told _ d k D wr HDR.out HLT.out hoff
    refine hrd.mono ?_
    rintro e w2 ⟨rfl, hl2, hr2, _, hg2, _⟩
    have hcv := run_string w2 wr.heap.size 0 (D.now k) 128 hr2
    rw [hl2] at hcv
    have HG2 := Lib.hid hg2
    have HOF := Lib.hid hoff
    clear hl2 hr2 hg2 hx hz0 hoff hrd
    go_wp2_with fail
    refine (rread_told _ m k D w2 (HMR.out.grown HG2.out) HLT.out HOF.out HF.out).mono ?_
    rintro e w3 ⟨rfl, rfl⟩
    go_wp2_with fail
    go_roundw
    case rel => exact ⟨k + 1, HLT.out, by go_num, HO.out.trans (Off.of_grown HG2.out (by simp))⟩
    case measure => have := HLT.out; simp [intOf]; omega
  ·have hd : decide (k < D.n) = false := by simp; omega
   clear ho hdr hmr hlt
   go_wp2_with fail
   go_ret
   exact ⟨rfl, HO.out.mono (fun k hk h => by omega)⟩
theorem append_brk (x : Int) (hx : x ≠ 0) (D' : Dsk) (Sd S : Nat → Prop) (d jb : Nat) (D : Dsk) (J : Jn) (l : List UInt8) (A : Option Addr) (cap : Nat) (w : World) (h : DiskAt w Sd d D) (hlt : ∀ b, Sd b → b < w.heap.size) (hj : JAt w S jb d J) (hSS : ∀ b, S b → ¬ Sd b) (hwr : D.wr.length + 70000 < 1000000) (h4 : 4 ≤ D.n) (ha : J.area ≤ 1) (hu : J.used ≤ D.n / 2 - 1) (hl : l.length ≤ 1048576) (hcap : l.length ≤ cap) (hcm : cap ≤ maxLen) (hok : parts l.length ≤ D.n / 2 - 1 - J.used) (hput : putsE D (J.area * (D.n / 2) + (1 + J.used)) (putF 82 J.op (J.first + J.recs.length) l) (upto (parts l.length)) = (x, D'))
  (hop : J.op ≤ 4611686018427387904 ∧ J.first + J.recs.length ≤ 4611686018427387904)
  (hA : (l = [] ∧ cap = 0) ∨ ∃ g off, A = some ⟨g, off, none⟩ ∧ g < w.heap.size ∧ ¬ (Sd g ∨ g = jb) ∧ w.rangeAt g off (u8s l)) :
  Calls Tryz.prog 13 #[.pointer (some ⟨jb, 0, none⟩), .slice A l.length cap] w fun e w' => e = .returned (.int .i64 x) ∧ ∃ Sd', JE w' S jb d J x ∧ DiskAt w' Sd' d D' ∧ (∀ b, S b → ¬ Sd' b) ∧ (∀ b, Sd' b → (Sd b ∨ w.heap.size ≤ b) ∧ b < w'.heap.size) ∧ Off (fun b => S b ∨ Sd b) w w' := by
 have HD := Lib.hid h
 have HLT := Lib.hid hlt
 have HSS := Lib.hid hSS
 have HPUT := Lib.hid hput
 have HX := Lib.hid hx
 have HWR := Lib.hid hwr
 have HAR := Lib.hid ha
 have HJ := Lib.hid hj
 have HU := Lib.hid hu
 have HN := Lib.hid h4
 have HOP := Lib.hid hop
 have HA := Lib.hid hA
 have HE : Hid (askedJ l.length 1048576 (D.n / 2 - 1 - J.used) = 0) := by
  show _ = _
  unfold askedJ
  rw [if_neg (by omega), if_neg (by omega)]
 have HOK := Lib.hid hok
 have HLL : Hid (l.length < 1000000000000) := by show _ < _; omega
 have HLM := Lib.hid hl
 have HCM := Lib.hid hcm
 have HDN := Lib.hid h.1
 obtain ⟨n, hn⟩ : ∃ n, n = l.length := ⟨_, rfl⟩
 rw [← hn] at hcap ⊢
 have HNL := Lib.hid hn
 have HCAP := Lib.hid hcap
 have c1 : (n : Int) ≤ (cap : Int) := by omega
 clear h hlt hSS hput hx hwr ha hj hu h4 hl hn hop hA hok hcm
 go_enter Tryz.func13, Tryz.ntmps13
 go_wp2_with fail
 refine (free_at Sd S d jb D J w HD.out HJ.out HU.out HN.out).mono ?_
 rintro e wq ⟨rfl, m, rfl⟩
 go_wp2_with fail
 obtain ⟨sv, rv, vs, hj⟩ := HJ.out
 obtain ⟨Ar, capr, hrv, hcr, hmr⟩ := row_len hj.rows
 subst hrv
 have HI := Lib.hid hj
 have HB := Lib.hid hj.blk
 have HJS : Hid (¬ Sd jb) := HSS.out jb hj.own.1
 clear hj hcr hmr
 rw [HNL.out]
 refine (asked_at jb d J sv _ l.length 1048576 (D.n / 2 - 1 - J.used) HLL.out (w.drewN m) HB.out).mono ?_
 rintro e wq ⟨rfl, rfl⟩
 rw [HE.out, ← HNL.out]
 have HC : Hid (∀ k, (w.drewN k).cell? ⟨jb, 1, none⟩ = some (.int .i64 (J.area : Int)) ∧ (w.drewN k).cell? ⟨jb, 8, none⟩ = some (.int .i64 (J.used : Int)) ∧ (w.drewN k).cell? ⟨jb, 3, none⟩ = some (.int .i64 (J.op : Int))) := fun k => ⟨HB.out.cell 1, HB.out.cell 8, HB.out.cell 3⟩
 have HW1 : Hid (IntKind.i64.wrap (1 + (J.used : Int)) = 1 + (J.used : Int)) := by show _ = _; have h1 := HU.out; have h2 := HDN.out; rw [IntKind.wrap_i64]; omega
 go_wp2_with fail
 refine wp_region_noPanic ?_
 refine wp_region_held_drew (S := fun w' => w'.cell? ⟨jb, 1, none⟩ = some (Value.int .i64 (J.area : Int)) ∧ w'.cell? ⟨jb, 8, none⟩ = some (Value.int .i64 (J.used : Int)) ∧ w'.cell? ⟨jb, 3, none⟩ = some (Value.int .i64 (J.op : Int))) (by kernel_rfl) ?hSp (fun hHeld => ?_)
 case hSp => exact HC.out (m + 1)
 refine ztk 0 rfl ?_
 refine ztk 1 rfl ?_
 refine ztk 2 rfl ?_
 refine ztk 3 rfl ?_
 refine ztk 4 rfl ?_
 refine ztk 5 rfl ?_
 refine ztk 6 rfl ?_
 refine ztk 7 rfl ?_
 refine ztk 8 rfl ?_
 refine ztk 9 rfl ?_ (v := Value.int .i64 (1 + (J.used : Int))) (hy := ?hyp9)
 case hyp9 => (intro wS hSw; (try dsimp only at hSw); go_simp; rw [HW1.out])
 refine ztk 10 rfl ?_
 refine ztk 11 rfl ?_
 refine ztk 12 rfl ?_
 refine ztk 13 rfl ?_
 refine ztk 14 rfl ?_
 refine ztk 15 rfl ?_
 refine ztk 17 rfl ?_
 refine zrd 16 rfl (fun K hK => ?_)
 go_simp
 refine (next_blk jb d J sv _ Ar J.recs.length capr rfl (by have := HOP.out; omega) (w.drewN m).drew HB.out).mono ?_
 rintro e wq ⟨rfl, m2, rfl⟩
 go_wp2_with fail
 refine hK.out _ _ ?q (fun hHeld => ?_)
 case q => (try dsimp only); exact HC.out (m + 1 + m2)
 clear hK K
 try simp only [zpt]
 refine zrd 18 rfl (fun K hK => ?_)
 go_simp
 rw [show (1 : Int) + (J.used : Int) = ((1 + J.used : Nat) : Int) by omega, show (J.first : Int) + (J.recs.length : Int) = ((J.first + J.recs.length : Nat) : Int) by omega, HNL.out]
 refine (put_ok x D' Sd d D jb J sv _ J.area (1 + J.used) 82 J.op (J.first + J.recs.length) l A cap (by have := HOP.out; omega) (by have := HOP.out; omega) (by have := HLM.out; omega) (by rw [← HNL.out]; exact HCAP.out) HCM.out (w.drewN (m + 1 + m2)) (HD.out.grown ⟨rfl, rfl, rfl, Nat.le_refl _, fun _ _ _ => rfl⟩) HLT.out HB.out HJS.out (app_room HAR.out HN.out HU.out HOK.out) (by have := HWR.out; omega) HPUT.out HA.out).mono ?_
 rw [← HNL.out]
 rintro e w5 ⟨rfl, Sd5, hd5, hj5, hs5, hjn5, ho5⟩
 have HD5 := Lib.hid hd5
 have HS5 := Lib.hid hs5
 have HO5 : Hid (Off (fun b => Sd b ∨ b = jb) w w5) := ⟨ho5.os, ho5.tape, ho5.output, ho5.size, ho5.block⟩
 have HB5 : Hid (JBE w5 jb d J sv (.slice Ar J.recs.length capr) x) := hj5
 clear hd5 hs5 ho5 hj5 hjn5
 go_wp2_with fail
 refine hK.out _ _ ?q (fun hHeld => ?_)
 case q => (try dsimp only); exact ⟨cell_blk HB5.out 1, cell_blk HB5.out 8, cell_blk HB5.out 3⟩
 clear hK K
 try simp only [zpt]
 refine wpAnyH_done (by kernel_rfl) ?_ _
 refine NoPanic.normal ?_
 clear hHeld
 have c9 : w5.cell? ⟨jb, 9, none⟩ = some (.int .i64 x) := cell_blk HB5.out 9
 have d9 : (x == 0) = false := by simp [HX.out]
 go_wp2_with fail
 go_ret
 refine ⟨rfl, Sd5, ⟨sv, _, vs, HI.out.e.broke HB5.out HO5.out HSS.out⟩, HD5.out, fun b hb hq => ?_, HS5.out, HO5.out.mono (fun k _ q => q.elim .inr (fun q => .inl (q ▸ HI.out.own.1)))⟩
 rcases (HS5.out b hq).1 with h1 | h1
 ·exact HSS.out b hb h1
 ·exact absurd (HI.out.lt b hb) (Nat.not_lt.2 h1)
section
variable {w w6 w7 w8 : World} {S Sd Sd7 Sd8 : Nat → Prop} {jb d : Nat} {J : Jn} {sv rv : Value} {vs : List Value} {x : Int}
theorem ckb1 (h : JIn w S jb d J sv rv vs) (g6 : w.grownBy w6 none) (o7 : Off (fun b => Sd b ∨ b = jb) w6 w7) (g8 : w7.grownBy w8 none) (hb : JBE w8 jb d J sv rv x) (hSS : ∀ b, S b → ¬ Sd b) : JEIn w8 S jb d J sv rv vs x :=
 (h.off (Off.of_grown g6 (S := fun _ => False) (by simp)) (fun _ _ q => q)).e.broke hb (o7.trans ((Off.of_grown g8 (S := fun _ => False) (by simp)).mono (fun _ _ q => q.elim))) hSS
theorem ckn1 (h : JIn w S jb d J sv rv vs) (g6 : w.heap.size ≤ w6.heap.size) (hSS : ∀ b, S b → ¬ Sd b) (hs : ∀ b, Sd7 b → (Sd b ∨ w6.heap.size ≤ b) ∧ b < w7.heap.size) : ∀ b, S b → ¬ Sd7 b := fun b hb hq => by
 rcases (hs b hq).1 with h1 | h1
 ·exact hSS b hb h1
 ·exact absurd (h.lt b hb) (Nat.not_lt.2 (Nat.le_trans g6 h1))
theorem cko1 (h : JIn w S jb d J sv rv vs) (g6 : w.grownBy w6 none) (o7 : Off (fun b => Sd b ∨ b = jb) w6 w7) (g8 : w7.grownBy w8 none) : Off (fun b => S b ∨ Sd b) w w8 :=
 ((((Off.of_grown g6 (S := fun _ => False) (by simp)).mono (fun _ _ q => q.elim)).trans o7).trans ((Off.of_grown g8 (S := fun _ => False) (by simp)).mono (fun _ _ q => q.elim))).mono (fun _ _ q => q.elim .inr (fun q => .inl (q ▸ h.own.1)))
theorem ckb2 (h : JIn w S jb d J sv rv vs) (g6 : w.grownBy w6 none) (o7 : Off Sd w6 w7) (o8 : Off (fun b => Sd7 b ∨ b = jb) w7 w8) (hb : JBE w8 jb d J sv rv x) (hSS : ∀ b, S b → ¬ Sd b) (hS7 : ∀ b, S b → ¬ Sd7 b) : JEIn w8 S jb d J sv rv vs x :=
 ((h.off (Off.of_grown g6 (S := fun _ => False) (by simp)) (fun _ _ q => q)).off o7 hSS).e.broke hb o8 hS7
theorem ckn2 (h : JIn w S jb d J sv rv vs) (g6 : w.heap.size ≤ w6.heap.size) (g7 : w6.heap.size ≤ w7.heap.size) (hSS : ∀ b, S b → ¬ Sd b) (hs : ∀ b, Sd7 b → (Sd b ∨ w6.heap.size ≤ b) ∧ b < w7.heap.size) (hs8 : ∀ b, Sd8 b → (Sd7 b ∨ w7.heap.size ≤ b) ∧ b < w8.heap.size) : ∀ b, S b → ¬ Sd8 b := fun b hb hq => by
 rcases (hs8 b hq).1 with h1 | h1
 ·exact ckn1 h g6 hSS hs b hb h1
 ·exact absurd (h.lt b hb) (Nat.not_lt.2 (Nat.le_trans (Nat.le_trans g6 g7) h1))
theorem ckn3 (g6 : w.heap.size ≤ w6.heap.size) (g7 : w6.heap.size ≤ w7.heap.size) (hs : ∀ b, Sd7 b → (Sd b ∨ w6.heap.size ≤ b) ∧ b < w7.heap.size) (hs8 : ∀ b, Sd8 b → (Sd7 b ∨ w7.heap.size ≤ b) ∧ b < w8.heap.size) : ∀ b, Sd8 b → (Sd b ∨ w.heap.size ≤ b) ∧ b < w8.heap.size := fun b hb => by
 refine ⟨?_, (hs8 b hb).2⟩
 rcases (hs8 b hb).1 with h1 | h1
 ·exact (hs b h1).1.imp id (fun q => Nat.le_trans g6 q)
 ·exact .inr (Nat.le_trans (Nat.le_trans g6 g7) h1)
theorem cko2 (h : JIn w S jb d J sv rv vs) (g6 : w.grownBy w6 none) (o7 : Off Sd w6 w7) (o8 : Off (fun b => Sd7 b ∨ b = jb) w7 w8) (hs : ∀ b, Sd7 b → (Sd b ∨ w6.heap.size ≤ b) ∧ b < w7.heap.size) : Off (fun b => S b ∨ Sd b) w w8 := by
 have h7 : Off Sd w w7 := ((Off.of_grown g6 (S := fun _ => False) (by simp)).mono (fun _ _ q => q.elim)).trans o7
 refine ⟨o8.os.trans h7.os, o8.tape.trans h7.tape, o8.output.trans h7.output, Nat.le_trans h7.size o8.size, fun k hk hq => (o8.block k (Nat.lt_of_lt_of_le hk h7.size) (fun q => ?_)).trans (h7.block k hk (fun q => hq (.inr q)))⟩
 rcases q with q | q
 ·rcases (hs k q).1 with h1 | h1
  ·exact hq (.inr h1)
  ·exact absurd hk (Nat.not_lt.2 (Nat.le_trans g6.size h1))
 ·exact hq (.inl (q ▸ h.own.1))
end
theorem ck_brk1 (x : Int) (hx : x ≠ 0) (D1 : Dsk) (Sd S : Nat → Prop) (d jb : Nat) (D : Dsk) (J : Jn) (l : List UInt8) (A : Option Addr) (cap : Nat) (w : World) (h : DiskAt w Sd d D) (hlt : ∀ b, Sd b → b < w.heap.size) (hj : JAt w S jb d J) (hSS : ∀ b, S b → ¬ Sd b) (hwr : D.wr.length + 70000 < 1000000) (h4 : 4 ≤ D.n) (ha : J.area ≤ 1) (hl : l.length ≤ 1048576) (hcap : l.length ≤ cap) (hcm : cap ≤ maxLen) (hok : parts l.length ≤ D.n / 2 - 1) (hput : putsE D ((1 - J.area) * (D.n / 2) + 1) (putF 67 (J.gen + 1) 0 l) (upto (parts l.length)) = (x, D1))
  (hop : J.gen ≤ 4611686018427387904 ∧ J.op ≤ 4611686018427387904 ∧ J.first + J.recs.length ≤ 4611686018427387904)
  (hA : (A = none ∧ l = [] ∧ cap = 0) ∨ ∃ g off, A = some ⟨g, off, none⟩ ∧ g < w.heap.size ∧ w.rangeAt g off (u8s l)) (hAS : ∀ g off, A = some ⟨g, off, none⟩ → ¬ (Sd g ∨ g = jb)) :
  Calls Tryz.prog 14 #[.pointer (some ⟨jb, 0, none⟩), .slice A l.length cap] w fun e w' => e = .returned (.int .i64 x) ∧ ∃ Sd', JE w' S jb d J x ∧ DiskAt w' Sd' d D1 ∧ (∀ b, S b → ¬ Sd' b) ∧ (∀ b, Sd' b → (Sd b ∨ w.heap.size ≤ b) ∧ b < w'.heap.size) ∧ Off (fun b => S b ∨ Sd b) w w' := by
 have HD := Lib.hid h
 have HLT := Lib.hid hlt
 have HSS := Lib.hid hSS
 have HPUT := Lib.hid hput
 have HX := Lib.hid hx
 have HWR := Lib.hid hwr
 have HAR := Lib.hid ha
 have HN := Lib.hid h4
 have HOP := Lib.hid hop
 have HA := Lib.hid hA
 have HAS := Lib.hid hAS
 have HE : Hid (askedJ l.length 1048576 (D.n / 2 - 1) = 0) := by
  show _ = _
  unfold askedJ
  rw [if_neg (by omega), if_neg (by omega)]
 have HOK := Lib.hid hok
 have HLL : Hid (l.length < 1000000000000) := by show _ < _; omega
 have HLM := Lib.hid hl
 have HCM := Lib.hid hcm
 have HDN := Lib.hid h.1
 have HW : Hid (wrap64 ((D.n : Int) / 2 - 1) = ((D.n / 2 - 1 : Nat) : Int)) := half_wrap h.1 h4
 obtain ⟨n, hn⟩ : ∃ n, n = l.length := ⟨_, rfl⟩
 rw [← hn] at hcap ⊢
 have HNL := Lib.hid hn
 have HCAP := Lib.hid hcap
 have c1 : (n : Int) ≤ (cap : Int) := by omega
 obtain ⟨sv, rv, vs, hj⟩ := hj
 obtain ⟨Ar, capr, hrv, hcr, hmr⟩ := row_len hj.rows
 subst hrv
 have HI := Lib.hid hj
 have HB := Lib.hid hj.blk
 have HJS : Hid (¬ Sd jb) := hSS jb hj.own.1
 have HW1 : Hid (IntKind.i64.wrap ((J.gen : Int) + 1) = (J.gen : Int) + 1) := by show _ = _; rw [IntKind.wrap_i64]; omega
 have HW2 : Hid (IntKind.i64.wrap (1 - (J.area : Int)) = 1 - (J.area : Int)) := by show _ = _; rw [IntKind.wrap_i64]; omega
 have HC : Hid (∀ k, (w.drewN k).cell? ⟨jb, 2, none⟩ = some (.int .i64 (J.gen : Int)) ∧ (w.drewN k).cell? ⟨jb, 3, none⟩ = some (.int .i64 (J.op : Int))) := fun k => ⟨HB.out.cell 2, HB.out.cell 3⟩
 obtain ⟨hb, hhb⟩ : ∃ hb, hb = w.heap.size := ⟨_, rfl⟩
 have HHB := Lib.hid hhb
 have HHB2 : Hid (hb ≠ jb) := by show _ ≠ _; have := HB.out.lt; omega
 have HHJ : Hid (w.heap.size ≠ jb) := by show _ ≠ _; have := HB.out.lt; omega
 clear h hlt hSS hput hx hwr ha hj h4 hl hn hop hA hAS hok hcm hcr hmr hhb
 go_enter Tryz.func14, Tryz.ntmps14
 go_wp2_with fail
 refine (half_at Sd d D jb J sv _ w HD.out HB.out).mono ?_
 rintro e wq ⟨rfl, hwq⟩
 have hwq := hwq.symm
 subst hwq
 go_wp2_with fail
 rw [HW.out, HNL.out]
 refine (asked_at jb d J sv _ l.length 1048576 (D.n / 2 - 1) HLL.out w HB.out).mono ?_
 rintro e wq ⟨rfl, hwq⟩
 have hwq := hwq.symm
 subst hwq
 rw [HE.out, ← HNL.out]
 go_upto_region 6 with fail
 refine wp_region_noPanic ?_
 refine wp_region_held_drew (S := fun w' => w'.cell? ⟨jb, 2, none⟩ = some (Value.int .i64 (J.gen : Int)) ∧ w'.cell? ⟨jb, 3, none⟩ = some (Value.int .i64 (J.op : Int))) (by kernel_rfl) ?hSp (fun hHeld => ?_)
 case hSp => exact HC.out _
 refine ztk 0 rfl ?_
 refine ztk 1 rfl ?_
 refine ztk 2 rfl ?_
 refine ztk 3 rfl ?_
 refine ztk 4 rfl ?_
 refine ztk 5 rfl ?_ (v := Value.int .i64 ((J.gen : Int) + 1)) (hy := ?hyp5)
 case hyp5 => (intro wS hSw; (try dsimp only at hSw); go_simp; rw [HW1.out])
 refine ztk 6 rfl ?_
 refine ztk 7 rfl ?_
 refine ztk 8 rfl ?_
 refine ztk 9 rfl ?_
 refine ztk 10 rfl ?_
 refine ztk 11 rfl ?_
 refine ztk 13 rfl ?_
 refine ztk 14 rfl ?_
 refine zrd2 12 16 rfl rfl (fun K hK => ?_) (fun K hK => ?_)
 go_simp
 refine (next_blk jb d J sv _ Ar J.recs.length capr rfl (by have := HOP.out; omega) _ (by exact HB.out)).mono ?_
 rintro e wq ⟨rfl, m2, rfl⟩
 go_wp2_with fail
 refine hK.out _ _ ?q (fun hHeld => ?_)
 case q => (try dsimp only); exact HC.out _
 clear hK K
 try simp only [zpt]
 refine ztk 15 rfl ?_
 refine zrd 16 rfl (fun K hK => ?_)
 go_simp
 refine hK.out _ ((w.alloc (.cells #[.int .i64 0, .int .i64 0, .int .i64 0, .int .i64 0] 47)).drewN (1 + m2)) ?q (fun hHeld => ?_)
 case q => (try dsimp only); exact ⟨(HB.out.grown (drew_then (World.grownBy_alloc _ _ none))).cell 2, (HB.out.grown (drew_then (World.grownBy_alloc _ _ none))).cell 3⟩
 clear hK K
 try simp only [zpt]
 rotate_left
 go_simp
 refine hK.out _ _ ?q (fun hHeld => ?_)
 case q => (try dsimp only); exact ⟨(HB.out.grown (World.grownBy_alloc _ _ none)).cell 2, (HB.out.grown (World.grownBy_alloc _ _ none)).cell 3⟩
 clear hK K
 try simp only [zpt]
 refine zrd 12 rfl (fun K hK => ?_)
 go_simp
 refine (next_blk jb d J sv _ Ar J.recs.length capr rfl (by have := HOP.out; omega) _ (by exact HB.out.grown (alloc_drew _ _))).mono ?_
 rintro e wq ⟨rfl, m2, rfl⟩
 go_wp2_with fail
 refine hK.out _ _ ?q (fun hHeld => ?_)
 case q => (try dsimp only); exact ⟨(HB.out.grown (World.grownBy_alloc _ _ none)).cell 2, (HB.out.grown (World.grownBy_alloc _ _ none)).cell 3⟩
 clear hK K
 try simp only [zpt]
 refine ztk 15 rfl ?_
 rotate_left
 all_goals
  refine zrd 17 rfl (fun K hK => ?_)
  go_simp
  refine hK.out _ _ ?q (fun hHeld => ?_)
  case q => (try dsimp only); exact ⟨(JBlk.putH (HB.out.grown (drew_then (World.grownBy_alloc _ _ none))) HHJ.out).cell 2, (JBlk.putH (HB.out.grown (drew_then (World.grownBy_alloc _ _ none))) HHJ.out).cell 3⟩
  clear hK K
  try simp only [zpt]
  refine wpAnyH_done (by kernel_rfl) ?_ _
  refine NoPanic.normal ?_
  clear hHeld
  obtain ⟨w6, hw6⟩ : ∃ x, x = putH ((w.alloc H0).drewN (1 + m2)) w.heap.size ((J.gen : Int) + 1) (J.op : Int) ((J.first : Int) + (J.recs.length : Int)) (n : Int) := ⟨_, rfl⟩
  obtain ⟨h6, g6, s6⟩ := six hw6
  unfold putH at hw6
  rw [← hw6, ← HHB.out]
  rw [← HHB.out] at h6 s6
  clear hw6
  have HH6 := Lib.hid h6
  have HG6 := Lib.hid g6
  have HS6 := Lib.hid s6
  have HD6 := Lib.hid (HD.out.grown g6)
  have HB6 := Lib.hid (HB.out.grown g6)
  have HA6 : Hid ((A = none ∧ l = [] ∧ cap = 0) ∨ ∃ g off, A = some ⟨g, off, none⟩ ∧ g < w6.heap.size ∧ w6.rangeAt g off (u8s l)) := ck_arg HA.out (Off.of_grown g6 (S := fun _ => False) (by simp)) (fun _ _ _ h => h)
  clear h6 g6 s6
  go_upto_region 7 with fail
  refine wp_region_noPanic ?_
  refine wp_region_held_drew (S := fun w' => w'.cell? ⟨jb, 1, none⟩ = some (Value.int .i64 (J.area : Int)) ∧ w'.cell? ⟨hb, 0, none⟩ = some (Value.int .i64 ((J.gen : Int) + 1))) (by kernel_rfl) ?hSpx7 (fun hHeld => ?_)
  case hSpx7 => exact ⟨HB6.out.cell 1, cell_blk HH6.out 0⟩
  refine ztk 0 rfl ?_
  refine ztk 1 rfl ?_
  refine ztk 2 rfl ?_
  refine ztk 3 rfl ?_
  refine ztk 4 rfl ?_
  refine ztk 5 rfl ?_ (v := Value.int .i64 (1 - (J.area : Int))) (hy := ?hypx75)
  case hypx75 => (intro wS hSw; (try dsimp only at hSw); go_simp; rw [HW2.out])
  refine ztk 6 rfl ?_
  refine ztk 7 rfl ?_
  refine ztk 8 rfl ?_
  refine zrd 9 rfl (fun K hK => ?_)
  go_simp
  rw [show (1 : Int) - (J.area : Int) = ((1 - J.area : Nat) : Int) by have := HAR.out; omega, show (J.gen : Int) + 1 = ((J.gen + 1 : Nat) : Int) by omega, HNL.out]
  refine (put_ok x D1 Sd d D jb J sv _ (1 - J.area) 1 67 (J.gen + 1) 0 l A cap (by have := HOP.out; omega) (by decide) (by have := HLM.out; omega) (by rw [← HNL.out]; exact HCAP.out) HCM.out w6.drew (HD6.out.grown ⟨rfl, rfl, rfl, Nat.le_refl _, fun _ _ _ => rfl⟩) (fun b hb => Nat.lt_of_lt_of_le (HLT.out b hb) HG6.out.size) HB6.out HJS.out (ck_room HAR.out HN.out HOK.out) (by have := HWR.out; omega) HPUT.out (HA6.out.imp (fun h => h.2) (fun ⟨g, off, e, h1, h2⟩ => ⟨g, off, e, h1, HAS.out g off e, h2⟩))).mono ?_
  rw [← HNL.out]
  rintro e w7 ⟨rfl, Sd7, hd7, hj7, hs7, hjn7, ho7⟩
  have HD7 := Lib.hid hd7
  have HS7 := Lib.hid hs7
  have HO7 : Hid (Off (fun b => Sd b ∨ b = jb) w6 w7) := ⟨ho7.os, ho7.tape, ho7.output, ho7.size, ho7.block⟩
  have HB7 : Hid (JBE w7 jb d J sv (.slice Ar J.recs.length capr) x) := hj7
  have HHN : Hid (¬ Sd hb) := fun h => by have h1 := HLT.out _ h; have h2 := HHB.out; omega
  have HH7 : Hid (w7.heap[hb]? = _) := (HO7.out.block hb HS6.out (fun q => q.elim HHN.out HHB2.out)).trans HH6.out
  have HJ7 : Hid (¬ Sd7 jb) := fun h => by
   rcases (HS7.out _ h).1 with h1 | h1
   ·exact HJS.out h1
   ·have h2 := HB6.out.lt
    have h3 : w6.heap.size ≤ jb := h1
    omega
  have HH7N : Hid (¬ Sd7 hb) := fun h => by
   rcases (HS7.out _ h).1 with h1 | h1
   ·exact HHN.out h1
   ·have h2 := HS6.out
    have h3 : w6.heap.size ≤ hb := h1
    omega
  have HAS7 : Hid (∀ g off, A = some ⟨g, off, none⟩ → ¬ Sd7 g) := fun g off e h => by
   rcases (HS7.out _ h).1 with h1 | h1
   ·exact HAS.out g off e (.inl h1)
   ·have h2 := HG6.out.size
    have h3 : w6.heap.size ≤ g := h1
    have h4 := ck_lt HA.out e
    omega
  clear hd7 hs7 ho7 hj7 hjn7
  go_wp2_with fail
  refine hK.out _ _ ?q (fun hHeld => ?_)
  case q => (try dsimp only); exact ⟨cell_blk HB7.out 1, cell_blk HH7.out 0⟩
  clear hK K
  try simp only [zpt]
  refine wpAnyH_done (by kernel_rfl) ?_ _
  refine NoPanic.normal ?_
  clear hHeld
  go_upto_region 8 with fail
  refine wp_region_noPanic ?_
  refine wp_region_held_drew (S := fun w' => w'.cell? ⟨jb, 1, none⟩ = some (Value.int .i64 (J.area : Int)) ∧ w'.cell? ⟨hb, 0, none⟩ = some (Value.int .i64 ((J.gen : Int) + 1)) ∧ w'.cell? ⟨hb, 1, none⟩ = some (Value.int .i64 (J.op : Int)) ∧ w'.cell? ⟨hb, 2, none⟩ = some (Value.int .i64 ((J.first : Int) + (J.recs.length : Int))) ∧ w'.cell? ⟨hb, 3, none⟩ = some (Value.int .i64 (n : Int))) (by kernel_rfl) ?hSpx8 (fun hHeld => ?_)
  case hSpx8 => exact ⟨cell_blk HB7.out 1, cell_blk HH7.out 0, cell_blk HH7.out 1, cell_blk HH7.out 2, cell_blk HH7.out 3⟩
  refine ztk 0 rfl ?_
  refine ztk 1 rfl ?_
  refine ztk 2 rfl ?_
  refine ztk 3 rfl ?_
  refine ztk 4 rfl ?_
  refine ztk 5 rfl ?_ (v := Value.int .i64 (1 - (J.area : Int))) (hy := ?hypx85)
  case hypx85 => (intro wS hSw; (try dsimp only at hSw); go_simp; rw [HW2.out])
  refine ztk 6 rfl ?_
  refine zrd 7 rfl (fun K hK => ?_)
  go_simp
  refine (sealb_at jb d J sv _ x HX.out _ _ _ _ _ w7.drew HB7.out).mono ?_
  rintro e w8 ⟨rfl, hg8⟩
  have HG8 : Hid (w7.grownBy w8 none) := drew_then hg8
  have HB8 : Hid (JBE w8 jb d J sv (.slice Ar J.recs.length capr) x) := (HG8.out.block jb (Array.getElem?_eq_some_iff.1 HB7.out).1 (by simp)).trans HB7.out
  have HH8 : Hid (w8.heap[hb]? = _) := (HG8.out.block hb (Array.getElem?_eq_some_iff.1 HH7.out).1 (by simp)).trans HH7.out
  clear hg8
  go_wp2_with fail
  refine hK.out _ _ ?q (fun hHeld => ?_)
  case q => (try dsimp only); exact ⟨cell_blk HB8.out 1, cell_blk HH8.out 0, cell_blk HH8.out 1, cell_blk HH8.out 2, cell_blk HH8.out 3⟩
  clear hK K
  try simp only [zpt]
  refine wpAnyH_done (by kernel_rfl) ?_ _
  refine NoPanic.normal ?_
  clear hHeld
  have c9 : w8.cell? ⟨jb, 9, none⟩ = some (.int .i64 x) := cell_blk HB8.out 9
  have d9 : (x == 0) = false := by simp [HX.out]
  go_wp2_with fail
  go_ret
  refine ⟨rfl, Sd7, ⟨sv, _, vs, ckb1 HI.out HG6.out HO7.out HG8.out HB8.out HSS.out⟩, HD7.out.grown HG8.out, ckn1 HI.out HG6.out.size HSS.out HS7.out, fun b hb => ⟨((HS7.out b hb).1.imp id (fun q => Nat.le_trans HG6.out.size q)), Nat.lt_of_lt_of_le (HS7.out b hb).2 HG8.out.size⟩, cko1 HI.out HG6.out HO7.out HG8.out⟩
theorem ck_brk2 (x : Int) (hx : x ≠ 0) (D1 D2 : Dsk) (Sd S : Nat → Prop) (d jb : Nat) (D : Dsk) (J : Jn) (l : List UInt8) (A : Option Addr) (cap : Nat) (w : World) (h : DiskAt w Sd d D) (hlt : ∀ b, Sd b → b < w.heap.size) (hj : JAt w S jb d J) (hSS : ∀ b, S b → ¬ Sd b) (hwr : D.wr.length + 70000 < 1000000) (h4 : 4 ≤ D.n) (ha : J.area ≤ 1) (hl : l.length ≤ 1048576) (hcap : l.length ≤ cap) (hcm : cap ≤ maxLen) (hok : parts l.length ≤ D.n / 2 - 1) (hput : putsE D ((1 - J.area) * (D.n / 2) + 1) (putF 67 (J.gen + 1) 0 l) (upto (parts l.length)) = (0, D1)) (hseal : wrote D1 (((1 - J.area) * (D1.n / 2) : Nat) : Int) (headB (J.gen + 1) J.op (J.first + J.recs.length) l.length) = (x, D2))
  (hop : J.gen ≤ 4611686018427387904 ∧ J.op ≤ 4611686018427387904 ∧ J.first + J.recs.length ≤ 4611686018427387904)
  (hA : (A = none ∧ l = [] ∧ cap = 0) ∨ ∃ g off, A = some ⟨g, off, none⟩ ∧ g < w.heap.size ∧ w.rangeAt g off (u8s l)) (hAS : ∀ g off, A = some ⟨g, off, none⟩ → ¬ (Sd g ∨ g = jb)) :
  Calls Tryz.prog 14 #[.pointer (some ⟨jb, 0, none⟩), .slice A l.length cap] w fun e w' => e = .returned (.int .i64 x) ∧ ∃ Sd', JE w' S jb d J x ∧ DiskAt w' Sd' d D2 ∧ (∀ b, S b → ¬ Sd' b) ∧ (∀ b, Sd' b → (Sd b ∨ w.heap.size ≤ b) ∧ b < w'.heap.size) ∧ Off (fun b => S b ∨ Sd b) w w' := by
 have HD := Lib.hid h
 have HLT := Lib.hid hlt
 have HSS := Lib.hid hSS
 have HPUT := Lib.hid hput
 have HX := Lib.hid hx
 have HSEAL := Lib.hid hseal
 have HDX : Hid (D1.n = D.n ∧ D1.wr.length ≤ D.wr.length + parts l.length) := by
  have := putsE_size D ((1 - J.area) * (D.n / 2) + 1) (putF 67 (J.gen + 1) 0 l) (upto (parts l.length))
  rw [hput, upto_length] at this
  exact this
 have HWR := Lib.hid hwr
 have HAR := Lib.hid ha
 have HN := Lib.hid h4
 have HOP := Lib.hid hop
 have HA := Lib.hid hA
 have HAS := Lib.hid hAS
 have HE : Hid (askedJ l.length 1048576 (D.n / 2 - 1) = 0) := by
  show _ = _
  unfold askedJ
  rw [if_neg (by omega), if_neg (by omega)]
 have HOK := Lib.hid hok
 have HLL : Hid (l.length < 1000000000000) := by show _ < _; omega
 have HLM := Lib.hid hl
 have HCM := Lib.hid hcm
 have HDN := Lib.hid h.1
 have HW : Hid (wrap64 ((D.n : Int) / 2 - 1) = ((D.n / 2 - 1 : Nat) : Int)) := half_wrap h.1 h4
 obtain ⟨n, hn⟩ : ∃ n, n = l.length := ⟨_, rfl⟩
 rw [← hn] at hcap ⊢
 have HNL := Lib.hid hn
 have HCAP := Lib.hid hcap
 have c1 : (n : Int) ≤ (cap : Int) := by omega
 obtain ⟨sv, rv, vs, hj⟩ := hj
 obtain ⟨Ar, capr, hrv, hcr, hmr⟩ := row_len hj.rows
 subst hrv
 have HI := Lib.hid hj
 have HB := Lib.hid hj.blk
 have HJS : Hid (¬ Sd jb) := hSS jb hj.own.1
 have HW1 : Hid (IntKind.i64.wrap ((J.gen : Int) + 1) = (J.gen : Int) + 1) := by show _ = _; rw [IntKind.wrap_i64]; omega
 have HW2 : Hid (IntKind.i64.wrap (1 - (J.area : Int)) = 1 - (J.area : Int)) := by show _ = _; rw [IntKind.wrap_i64]; omega
 have HC : Hid (∀ k, (w.drewN k).cell? ⟨jb, 2, none⟩ = some (.int .i64 (J.gen : Int)) ∧ (w.drewN k).cell? ⟨jb, 3, none⟩ = some (.int .i64 (J.op : Int))) := fun k => ⟨HB.out.cell 2, HB.out.cell 3⟩
 obtain ⟨hb, hhb⟩ : ∃ hb, hb = w.heap.size := ⟨_, rfl⟩
 have HHB := Lib.hid hhb
 have HHB2 : Hid (hb ≠ jb) := by show _ ≠ _; have := HB.out.lt; omega
 have HHJ : Hid (w.heap.size ≠ jb) := by show _ ≠ _; have := HB.out.lt; omega
 clear h hlt hSS hput hseal hx hwr ha hj h4 hl hn hop hA hAS hok hcm hcr hmr hhb
 go_enter Tryz.func14, Tryz.ntmps14
 go_wp2_with fail
 refine (half_at Sd d D jb J sv _ w HD.out HB.out).mono ?_
 rintro e wq ⟨rfl, hwq⟩
 have hwq := hwq.symm
 subst hwq
 go_wp2_with fail
 rw [HW.out, HNL.out]
 refine (asked_at jb d J sv _ l.length 1048576 (D.n / 2 - 1) HLL.out w HB.out).mono ?_
 rintro e wq ⟨rfl, hwq⟩
 have hwq := hwq.symm
 subst hwq
 rw [HE.out, ← HNL.out]
 go_upto_region 6 with fail
 refine wp_region_noPanic ?_
 refine wp_region_held_drew (S := fun w' => w'.cell? ⟨jb, 2, none⟩ = some (Value.int .i64 (J.gen : Int)) ∧ w'.cell? ⟨jb, 3, none⟩ = some (Value.int .i64 (J.op : Int))) (by kernel_rfl) ?hSp (fun hHeld => ?_)
 case hSp => exact HC.out _
 refine ztk 0 rfl ?_
 refine ztk 1 rfl ?_
 refine ztk 2 rfl ?_
 refine ztk 3 rfl ?_
 refine ztk 4 rfl ?_
 refine ztk 5 rfl ?_ (v := Value.int .i64 ((J.gen : Int) + 1)) (hy := ?hyp5)
 case hyp5 => (intro wS hSw; (try dsimp only at hSw); go_simp; rw [HW1.out])
 refine ztk 6 rfl ?_
 refine ztk 7 rfl ?_
 refine ztk 8 rfl ?_
 refine ztk 9 rfl ?_
 refine ztk 10 rfl ?_
 refine ztk 11 rfl ?_
 refine ztk 13 rfl ?_
 refine ztk 14 rfl ?_
 refine zrd2 12 16 rfl rfl (fun K hK => ?_) (fun K hK => ?_)
 go_simp
 refine (next_blk jb d J sv _ Ar J.recs.length capr rfl (by have := HOP.out; omega) _ (by exact HB.out)).mono ?_
 rintro e wq ⟨rfl, m2, rfl⟩
 go_wp2_with fail
 refine hK.out _ _ ?q (fun hHeld => ?_)
 case q => (try dsimp only); exact HC.out _
 clear hK K
 try simp only [zpt]
 refine ztk 15 rfl ?_
 refine zrd 16 rfl (fun K hK => ?_)
 go_simp
 refine hK.out _ ((w.alloc (.cells #[.int .i64 0, .int .i64 0, .int .i64 0, .int .i64 0] 47)).drewN (1 + m2)) ?q (fun hHeld => ?_)
 case q => (try dsimp only); exact ⟨(HB.out.grown (drew_then (World.grownBy_alloc _ _ none))).cell 2, (HB.out.grown (drew_then (World.grownBy_alloc _ _ none))).cell 3⟩
 clear hK K
 try simp only [zpt]
 rotate_left
 go_simp
 refine hK.out _ _ ?q (fun hHeld => ?_)
 case q => (try dsimp only); exact ⟨(HB.out.grown (World.grownBy_alloc _ _ none)).cell 2, (HB.out.grown (World.grownBy_alloc _ _ none)).cell 3⟩
 clear hK K
 try simp only [zpt]
 refine zrd 12 rfl (fun K hK => ?_)
 go_simp
 refine (next_blk jb d J sv _ Ar J.recs.length capr rfl (by have := HOP.out; omega) _ (by exact HB.out.grown (alloc_drew _ _))).mono ?_
 rintro e wq ⟨rfl, m2, rfl⟩
 go_wp2_with fail
 refine hK.out _ _ ?q (fun hHeld => ?_)
 case q => (try dsimp only); exact ⟨(HB.out.grown (World.grownBy_alloc _ _ none)).cell 2, (HB.out.grown (World.grownBy_alloc _ _ none)).cell 3⟩
 clear hK K
 try simp only [zpt]
 refine ztk 15 rfl ?_
 rotate_left
 all_goals
  refine zrd 17 rfl (fun K hK => ?_)
  go_simp
  refine hK.out _ _ ?q (fun hHeld => ?_)
  case q => (try dsimp only); exact ⟨(JBlk.putH (HB.out.grown (drew_then (World.grownBy_alloc _ _ none))) HHJ.out).cell 2, (JBlk.putH (HB.out.grown (drew_then (World.grownBy_alloc _ _ none))) HHJ.out).cell 3⟩
  clear hK K
  try simp only [zpt]
  refine wpAnyH_done (by kernel_rfl) ?_ _
  refine NoPanic.normal ?_
  clear hHeld
  obtain ⟨w6, hw6⟩ : ∃ x, x = putH ((w.alloc H0).drewN (1 + m2)) w.heap.size ((J.gen : Int) + 1) (J.op : Int) ((J.first : Int) + (J.recs.length : Int)) (n : Int) := ⟨_, rfl⟩
  obtain ⟨h6, g6, s6⟩ := six hw6
  unfold putH at hw6
  rw [← hw6, ← HHB.out]
  rw [← HHB.out] at h6 s6
  clear hw6
  have HH6 := Lib.hid h6
  have HG6 := Lib.hid g6
  have HS6 := Lib.hid s6
  have HD6 := Lib.hid (HD.out.grown g6)
  have HB6 := Lib.hid (HB.out.grown g6)
  have HA6 : Hid ((A = none ∧ l = [] ∧ cap = 0) ∨ ∃ g off, A = some ⟨g, off, none⟩ ∧ g < w6.heap.size ∧ w6.rangeAt g off (u8s l)) := ck_arg HA.out (Off.of_grown g6 (S := fun _ => False) (by simp)) (fun _ _ _ h => h)
  clear h6 g6 s6
  go_upto_region 7 with fail
  refine wp_region_noPanic ?_
  refine wp_region_held_drew (S := fun w' => w'.cell? ⟨jb, 1, none⟩ = some (Value.int .i64 (J.area : Int)) ∧ w'.cell? ⟨hb, 0, none⟩ = some (Value.int .i64 ((J.gen : Int) + 1))) (by kernel_rfl) ?hSpx7 (fun hHeld => ?_)
  case hSpx7 => exact ⟨HB6.out.cell 1, cell_blk HH6.out 0⟩
  refine ztk 0 rfl ?_
  refine ztk 1 rfl ?_
  refine ztk 2 rfl ?_
  refine ztk 3 rfl ?_
  refine ztk 4 rfl ?_
  refine ztk 5 rfl ?_ (v := Value.int .i64 (1 - (J.area : Int))) (hy := ?hypx75)
  case hypx75 => (intro wS hSw; (try dsimp only at hSw); go_simp; rw [HW2.out])
  refine ztk 6 rfl ?_
  refine ztk 7 rfl ?_
  refine ztk 8 rfl ?_
  refine zrd 9 rfl (fun K hK => ?_)
  go_simp
  rw [show (1 : Int) - (J.area : Int) = ((1 - J.area : Nat) : Int) by have := HAR.out; omega, show (J.gen : Int) + 1 = ((J.gen + 1 : Nat) : Int) by omega, HNL.out]
  refine (put_ok 0 D1 Sd d D jb J sv _ (1 - J.area) 1 67 (J.gen + 1) 0 l A cap (by have := HOP.out; omega) (by decide) (by have := HLM.out; omega) (by rw [← HNL.out]; exact HCAP.out) HCM.out w6.drew (HD6.out.grown ⟨rfl, rfl, rfl, Nat.le_refl _, fun _ _ _ => rfl⟩) (fun b hb => Nat.lt_of_lt_of_le (HLT.out b hb) HG6.out.size) HB6.out HJS.out (ck_room HAR.out HN.out HOK.out) (by have := HWR.out; omega) HPUT.out (HA6.out.imp (fun h => h.2) (fun ⟨g, off, e, h1, h2⟩ => ⟨g, off, e, h1, HAS.out g off e, h2⟩))).mono ?_
  rw [← HNL.out]
  rintro e w7 ⟨rfl, Sd7, hd7, hj7, hs7, hjn7, ho7⟩
  have HD7 := Lib.hid hd7
  have HS7 := Lib.hid hs7
  have HO7 : Hid (Off Sd w6 w7) := off_same HB6.out.e hj7 ⟨ho7.os, ho7.tape, ho7.output, ho7.size, ho7.block⟩
  have HB7 : Hid (JBlk w7 jb d J sv (.slice Ar J.recs.length capr)) := hj7
  have HHN : Hid (¬ Sd hb) := fun h => by have h1 := HLT.out _ h; have h2 := HHB.out; omega
  have HH7 : Hid (w7.heap[hb]? = _) := (HO7.out.block hb HS6.out HHN.out).trans HH6.out
  have HJ7 : Hid (¬ Sd7 jb) := fun h => by
   rcases (HS7.out _ h).1 with h1 | h1
   ·exact HJS.out h1
   ·have h2 := HB6.out.lt
    have h3 : w6.heap.size ≤ jb := h1
    omega
  have HH7N : Hid (¬ Sd7 hb) := fun h => by
   rcases (HS7.out _ h).1 with h1 | h1
   ·exact HHN.out h1
   ·have h2 := HS6.out
    have h3 : w6.heap.size ≤ hb := h1
    omega
  have HAS7 : Hid (∀ g off, A = some ⟨g, off, none⟩ → ¬ Sd7 g) := fun g off e h => by
   rcases (HS7.out _ h).1 with h1 | h1
   ·exact HAS.out g off e (.inl h1)
   ·have h2 := HG6.out.size
    have h3 : w6.heap.size ≤ g := h1
    have h4 := ck_lt HA.out e
    omega
  clear hd7 hs7 ho7 hj7 hjn7
  go_wp2_with fail
  refine hK.out _ _ ?q (fun hHeld => ?_)
  case q => (try dsimp only); exact ⟨HB7.out.cell 1, cell_blk HH7.out 0⟩
  clear hK K
  try simp only [zpt]
  refine wpAnyH_done (by kernel_rfl) ?_ _
  refine NoPanic.normal ?_
  clear hHeld
  go_upto_region 8 with fail
  refine wp_region_noPanic ?_
  refine wp_region_held_drew (S := fun w' => w'.cell? ⟨jb, 1, none⟩ = some (Value.int .i64 (J.area : Int)) ∧ w'.cell? ⟨hb, 0, none⟩ = some (Value.int .i64 ((J.gen : Int) + 1)) ∧ w'.cell? ⟨hb, 1, none⟩ = some (Value.int .i64 (J.op : Int)) ∧ w'.cell? ⟨hb, 2, none⟩ = some (Value.int .i64 ((J.first : Int) + (J.recs.length : Int))) ∧ w'.cell? ⟨hb, 3, none⟩ = some (Value.int .i64 (n : Int))) (by kernel_rfl) ?hSpx8 (fun hHeld => ?_)
  case hSpx8 => exact ⟨HB7.out.cell 1, cell_blk HH7.out 0, cell_blk HH7.out 1, cell_blk HH7.out 2, cell_blk HH7.out 3⟩
  refine ztk 0 rfl ?_
  refine ztk 1 rfl ?_
  refine ztk 2 rfl ?_
  refine ztk 3 rfl ?_
  refine ztk 4 rfl ?_
  refine ztk 5 rfl ?_ (v := Value.int .i64 (1 - (J.area : Int))) (hy := ?hypx85)
  case hypx85 => (intro wS hSw; (try dsimp only at hSw); go_simp; rw [HW2.out])
  refine ztk 6 rfl ?_
  refine zrd 7 rfl (fun K hK => ?_)
  go_simp
  rw [show (1 : Int) - (J.area : Int) = ((1 - J.area : Nat) : Int) by have := HAR.out; omega, show (J.gen : Int) + 1 = ((J.gen + 1 : Nat) : Int) by omega, show (J.first : Int) + (J.recs.length : Int) = ((J.first + J.recs.length : Nat) : Int) by omega, HNL.out]
  refine (seal_ok x D2 Sd7 d D1 jb J sv _ (1 - J.area) (J.gen + 1) J.op (J.first + J.recs.length) l.length (by have := HOP.out; omega) (by have := HOP.out; omega) (by have := HOP.out; omega) (by have := HLM.out; omega) w7.drew (HD7.out.grown ⟨rfl, rfl, rfl, Nat.le_refl _, fun _ _ _ => rfl⟩) (fun b hb => (HS7.out b hb).2) HB7.out HJ7.out (by rw [HDX.out.1]; exact Nat.lt_of_lt_of_le (by have := parts_one l.length; omega) (ck_room HAR.out HN.out HOK.out)) (by have h1 := HDX.out.2; have := HWR.out; have := HOK.out; have := HDN.out; omega) HSEAL.out).mono ?_
  rw [← HNL.out]
  rintro e w8 ⟨rfl, Sd8, hd8, hj8, hs8, hjn8, ho8⟩
  have HD8 := Lib.hid hd8
  have HS8 := Lib.hid hs8
  have HO8 : Hid (Off (fun b => Sd7 b ∨ b = jb) w7 w8) := ⟨ho8.os, ho8.tape, ho8.output, ho8.size, ho8.block⟩
  have HB8 : Hid (JBE w8 jb d J sv (.slice Ar J.recs.length capr) x) := hj8
  have HH8 : Hid (w8.heap[hb]? = _) := (HO8.out.block hb (Nat.lt_of_lt_of_le HS6.out HO7.out.size) (fun q => q.elim HH7N.out HHB2.out)).trans HH7.out
  clear hd8 hs8 ho8 hj8 hjn8
  go_wp2_with fail
  refine hK.out _ _ ?q (fun hHeld => ?_)
  case q => (try dsimp only); exact ⟨cell_blk HB8.out 1, cell_blk HH8.out 0, cell_blk HH8.out 1, cell_blk HH8.out 2, cell_blk HH8.out 3⟩
  clear hK K
  try simp only [zpt]
  refine wpAnyH_done (by kernel_rfl) ?_ _
  refine NoPanic.normal ?_
  clear hHeld
  have c9 : w8.cell? ⟨jb, 9, none⟩ = some (.int .i64 x) := cell_blk HB8.out 9
  have d9 : (x == 0) = false := by simp [HX.out]
  go_wp2_with fail
  go_ret
  refine ⟨rfl, Sd8, ⟨sv, _, vs, ckb2 HI.out HG6.out HO7.out HO8.out HB8.out HSS.out (ckn1 HI.out HG6.out.size HSS.out HS7.out)⟩, HD8.out, ckn2 HI.out HG6.out.size HO7.out.size HSS.out HS7.out HS8.out, ckn3 HG6.out.size HO7.out.size HS7.out HS8.out, cko2 HI.out HG6.out HO7.out HO8.out HS7.out⟩
theorem wrote_nat (D : Dsk) (i : Int) (l : List UInt8) : ∃ n : Nat, (wrote D i l).1 = (n : Int) := by
 unfold Sec.wrote
 split
 ·unfold askedN
  split
  ·exact ⟨20, rfl⟩
  ·split
   ·exact ⟨2, rfl⟩
   ·exact ⟨0, rfl⟩
 ·split
  ·exact ⟨3, rfl⟩
  ·split
   ·exact ⟨0, rfl⟩
   ·exact ⟨20, rfl⟩
   ·exact ⟨0, rfl⟩
theorem putsE_nat (D : Dsk) (base : Nat) (f : Nat → List UInt8) (is : List Nat) : ∃ n : Nat, (putsE D base f is).1 = (n : Int) := by
 have key : ∀ (is : List Nat) (x : Int × Dsk), (∃ n : Nat, x.1 = (n : Int)) → ∃ n : Nat, (is.foldl (putE base f) x).1 = (n : Int) := fun is => by
  induction is with
  | nil => exact fun x h => h
  | cons i is ih =>
   intro x h
   rw [List.foldl_cons]
   refine ih _ ?_
   unfold putE
   split
   ·exact wrote_nat ..
   ·exact h
 exact key is (0, D) ⟨0, rfl⟩
inductive AppTo (D : Dsk) (J : Jn) (br : Nat) (l : List UInt8) : Nat → Dsk → Jn → Nat → Prop
 | broken (h : br ≠ 0) : AppTo D J br l br D J br
 | full (h0 : br = 0) (h : D.n / 2 - 1 - J.used < parts l.length) : AppTo D J br l 31 D J 0
 | brk (x : Nat) (hx : x ≠ 0) (D' : Dsk) (h0 : br = 0) (h : parts l.length ≤ D.n / 2 - 1 - J.used) (hput : putsE D (J.area * (D.n / 2) + (1 + J.used)) (putF 82 J.op (J.first + J.recs.length) l) (upto (parts l.length)) = ((x : Int), D')) : AppTo D J br l x D' J x
 | yes (D' : Dsk) (h0 : br = 0) (h : parts l.length ≤ D.n / 2 - 1 - J.used) (hput : putsE D (J.area * (D.n / 2) + (1 + J.used)) (putF 82 J.op (J.first + J.recs.length) l) (upto (parts l.length)) = (0, D')) : AppTo D J br l 0 D' (J.app l) 0
theorem app_to (D : Dsk) (J : Jn) (br : Nat) (l : List UInt8) : ∃ e D' J' br', AppTo D J br l e D' J' br' := by
 by_cases h : br = 0
 ·by_cases h2 : D.n / 2 - 1 - J.used < parts l.length
  ·exact ⟨_, _, _, _, .full h h2⟩
  ·obtain ⟨n, hn⟩ := putsE_nat D (J.area * (D.n / 2) + (1 + J.used)) (putF 82 J.op (J.first + J.recs.length) l) (upto (parts l.length))
   by_cases h3 : n = 0
   ·exact ⟨_, _, _, _, .yes _ h (by omega) (Prod.ext (by rw [hn, h3]; rfl) rfl)⟩
   ·exact ⟨_, _, _, _, .brk n h3 _ h (by omega) (Prod.ext hn rfl)⟩
 ·exact ⟨_, _, _, _, .broken h⟩
inductive CkTo (D : Dsk) (J : Jn) (br : Nat) (l : List UInt8) : Nat → Dsk → Jn → Nat → Prop
 | broken (h : br ≠ 0) : CkTo D J br l br D J br
 | full (h0 : br = 0) (h : D.n / 2 - 1 < parts l.length) : CkTo D J br l 31 D J 0
 | brk1 (x : Nat) (hx : x ≠ 0) (D1 : Dsk) (h0 : br = 0) (h : parts l.length ≤ D.n / 2 - 1) (hput : putsE D ((1 - J.area) * (D.n / 2) + 1) (putF 67 (J.gen + 1) 0 l) (upto (parts l.length)) = ((x : Int), D1)) : CkTo D J br l x D1 J x
 | brk2 (x : Nat) (hx : x ≠ 0) (D1 D2 : Dsk) (h0 : br = 0) (h : parts l.length ≤ D.n / 2 - 1) (hput : putsE D ((1 - J.area) * (D.n / 2) + 1) (putF 67 (J.gen + 1) 0 l) (upto (parts l.length)) = (0, D1)) (hseal : wrote D1 (((1 - J.area) * (D1.n / 2) : Nat) : Int) (headB (J.gen + 1) J.op (J.first + J.recs.length) l.length) = ((x : Int), D2)) : CkTo D J br l x D2 J x
 | yes (D1 D2 : Dsk) (h0 : br = 0) (h : parts l.length ≤ D.n / 2 - 1) (hput : putsE D ((1 - J.area) * (D.n / 2) + 1) (putF 67 (J.gen + 1) 0 l) (upto (parts l.length)) = (0, D1)) (hseal : wrote D1 (((1 - J.area) * (D1.n / 2) : Nat) : Int) (headB (J.gen + 1) J.op (J.first + J.recs.length) l.length) = (0, D2)) : CkTo D J br l 0 D2 (J.ck l) 0
theorem ck_to (D : Dsk) (J : Jn) (br : Nat) (l : List UInt8) : ∃ e D' J' br', CkTo D J br l e D' J' br' := by
 by_cases h : br = 0
 ·by_cases h2 : D.n / 2 - 1 < parts l.length
  ·exact ⟨_, _, _, _, .full h h2⟩
  ·obtain ⟨n, hn⟩ := putsE_nat D ((1 - J.area) * (D.n / 2) + 1) (putF 67 (J.gen + 1) 0 l) (upto (parts l.length))
   by_cases h3 : n = 0
   ·subst h3
    obtain ⟨D1, hD1⟩ : ∃ D1, putsE D ((1 - J.area) * (D.n / 2) + 1) (putF 67 (J.gen + 1) 0 l) (upto (parts l.length)) = (0, D1) := ⟨_, Prod.ext (by rw [hn]; rfl) rfl⟩
    obtain ⟨k, hk⟩ := wrote_nat D1 (((1 - J.area) * (D1.n / 2) : Nat) : Int) (headB (J.gen + 1) J.op (J.first + J.recs.length) l.length)
    by_cases h4 : k = 0
    ·exact ⟨_, _, _, _, .yes D1 _ h (by omega) hD1 (Prod.ext (by rw [hk, h4]; rfl) rfl)⟩
    ·exact ⟨_, _, _, _, .brk2 k h4 D1 _ h (by omega) hD1 (Prod.ext hk rfl)⟩
   ·exact ⟨_, _, _, _, .brk1 n h3 _ h (by omega) (Prod.ext hn rfl)⟩
 ·exact ⟨_, _, _, _, .broken h⟩
structure JOk (n : Nat) (J : Jn) : Prop where
 area : J.area ≤ 1
 used : J.used ≤ n / 2 - 1
 gen : J.gen ≤ 1000000000
 op : J.op ≤ 1000000000
 first : 1 ≤ J.first ∧ J.first + J.recs.length ≤ 1000000000
 few : J.recs.length ≤ 9000
 size : J.size ≤ 1048576
 st : J.st.length = J.size
 recs : ∀ l ∈ J.recs, l.length ≤ 1048576
def PTo (w w' : World) (S Sd : Nat → Prop) (d jb : Nat) (D' : Dsk) (J' : Jn) (br' : Nat) : Prop := ∃ S' Sd', JE w' S' jb d J' (br' : Int) ∧ DiskAt w' Sd' d D' ∧ (∀ b, S' b → ¬ Sd' b) ∧ (∀ b, S' b → S b ∨ w.heap.size ≤ b) ∧ (∀ b, Sd' b → (Sd b ∨ w.heap.size ≤ b) ∧ b < w'.heap.size) ∧ Off (fun b => S b ∨ Sd b) w w'
theorem pto_same {w : World} {S Sd : Nat → Prop} {d jb k br : Nat} {D : Dsk} {J : Jn} (hj : JE w S jb d J (br : Int)) (hd : DiskAt w Sd d D) (hlt : ∀ b, Sd b → b < w.heap.size) (hSS : ∀ b, S b → ¬ Sd b) : PTo w (w.drewN k) S Sd d jb D J br :=
 ⟨S, Sd, hj.off ((off_drew w k).mono (fun _ _ q => q.elim)) (T := fun _ => False) (fun _ _ q => q), hd.grown ⟨rfl, rfl, rfl, Nat.le_refl _, fun _ _ _ => rfl⟩, hSS, fun _ hb => .inl hb, fun b hb => ⟨.inl hb, hlt b hb⟩, (off_drew w k).mono (fun _ _ q => q.elim)⟩
theorem papp_at {Sd S : Nat → Prop} {d jb br e br' : Nat} {D D' : Dsk} {J J' : Jn} {l : List UInt8} {A : Option Addr} {cap : Nat} {w : World} (ht : AppTo D J br l e D' J' br') (h : DiskAt w Sd d D) (hlt : ∀ b, Sd b → b < w.heap.size) (hj : JE w S jb d J (br : Int)) (hSS : ∀ b, S b → ¬ Sd b) (h4 : 4 ≤ D.n) (hwr : D.wr.length + 70000 < 1000000) (hJ : JOk D.n J) (hl : l.length ≤ 1048576) (hcap : l.length ≤ cap) (hcm : cap ≤ maxLen)
  (hA : (A = none ∧ l = [] ∧ cap = 0) ∨ ∃ g off, A = some ⟨g, off, none⟩ ∧ g < w.heap.size ∧ w.rangeAt g off (u8s l)) (hAS : ∀ g off, A = some ⟨g, off, none⟩ → ¬ (Sd g ∨ g = jb)) :
  Calls Tryz.prog 13 #[.pointer (some ⟨jb, 0, none⟩), .slice A l.length cap] w fun r w' => r = .returned (.int .i64 (e : Int)) ∧ PTo w w' S Sd d jb D' J' br' := by
 have hop : J.op ≤ 4611686018427387904 ∧ J.first + J.recs.length ≤ 4611686018427387904 := ⟨by have := hJ.op; omega, by have := hJ.first; omega⟩
 have hA2 : (l = [] ∧ cap = 0) ∨ ∃ g off, A = some ⟨g, off, none⟩ ∧ g < w.heap.size ∧ ¬ (Sd g ∨ g = jb) ∧ w.rangeAt g off (u8s l) := hA.imp (fun q => q.2) (fun ⟨g, off, e, h1, h2⟩ => ⟨g, off, e, h1, hAS g off e, h2⟩)
 cases ht with
 | broken hb =>
  refine (append_broken Sd S d jb D J (br : Int) (by omega) l.length A cap w h hj hJ.used h4 hcap hcm).mono ?_
  rintro r w' ⟨rfl, k, rfl⟩
  exact ⟨rfl, pto_same hj h hlt hSS⟩
 | full h0 hno =>
  subst h0
  refine (append_no Sd S d jb D J l A cap w h hj.ok hJ.used h4 hl hcap hcm hno).mono ?_
  rintro r w' ⟨rfl, k, rfl⟩
  exact ⟨rfl, pto_same hj h hlt hSS⟩
 | brk x hx D2 h0 hok hput =>
  subst h0
  refine (append_brk (e : Int) (by omega) D' Sd S d jb D J l A cap w h hlt hj.ok hSS hwr h4 hJ.area hJ.used hl hcap hcm hok hput hop hA2).mono ?_
  rintro r w' ⟨rfl, Sd', h1, h2, h3, h5, h6⟩
  exact ⟨rfl, S, Sd', h1, h2, h3, fun b hb => .inl hb, h5, h6⟩
 | yes D2 h0 hok hput =>
  subst h0
  refine (append_ok D' Sd S d jb D J l A cap w h hlt hj.ok hSS hwr h4 hJ.area hJ.used hl hcap hcm hok hput hop (by have := hJ.few; omega) hA2).mono ?_
  rintro r w' ⟨rfl, S', Sd', h1, h2, h3, h5, h6, h7⟩
  exact ⟨rfl, S', Sd', h1.e, h2, h3, h5, h6, h7⟩
theorem pck_at {Sd S : Nat → Prop} {d jb br e br' : Nat} {D D' : Dsk} {J J' : Jn} {l : List UInt8} {A : Option Addr} {cap : Nat} {w : World} (ht : CkTo D J br l e D' J' br') (h : DiskAt w Sd d D) (hlt : ∀ b, Sd b → b < w.heap.size) (hj : JE w S jb d J (br : Int)) (hSS : ∀ b, S b → ¬ Sd b) (h4 : 4 ≤ D.n) (hwr : D.wr.length + 70000 < 1000000) (hJ : JOk D.n J) (hl : l.length ≤ 1048576) (hcap : l.length ≤ cap) (hcm : cap ≤ maxLen)
  (hA : (A = none ∧ l = [] ∧ cap = 0) ∨ ∃ g off, A = some ⟨g, off, none⟩ ∧ g < w.heap.size ∧ w.rangeAt g off (u8s l)) (hAS : ∀ g off, A = some ⟨g, off, none⟩ → ¬ (Sd g ∨ g = jb)) :
  Calls Tryz.prog 14 #[.pointer (some ⟨jb, 0, none⟩), .slice A l.length cap] w fun r w' => r = .returned (.int .i64 (e : Int)) ∧ PTo w w' S Sd d jb D' J' br' := by
 have hop : J.gen ≤ 4611686018427387904 ∧ J.op ≤ 4611686018427387904 ∧ J.first + J.recs.length ≤ 4611686018427387904 := ⟨by have := hJ.gen; omega, by have := hJ.op; omega, by have := hJ.first; omega⟩
 cases ht with
 | broken hb =>
  refine (ck_broken Sd S d jb D J (br : Int) (by omega) l.length A cap w h hj h4 hcap hcm).mono ?_
  rintro r w' ⟨rfl, k, rfl⟩
  exact ⟨rfl, pto_same hj h hlt hSS⟩
 | full h0 hno =>
  subst h0
  refine (ck_no Sd S d jb D J l A cap w h hj.ok h4 hl hcap hcm hno).mono ?_
  rintro r w' ⟨rfl, k, rfl⟩
  exact ⟨rfl, pto_same hj h hlt hSS⟩
 | brk1 x hx D1 h0 hok hput =>
  subst h0
  refine (ck_brk1 (e : Int) (by omega) D' Sd S d jb D J l A cap w h hlt hj.ok hSS hwr h4 hJ.area hl hcap hcm hok hput hop hA hAS).mono ?_
  rintro r w' ⟨rfl, Sd', h1, h2, h3, h5, h6⟩
  exact ⟨rfl, S, Sd', h1, h2, h3, fun b hb => .inl hb, h5, h6⟩
 | brk2 x hx D1 D2 h0 hok hput hseal =>
  subst h0
  refine (ck_brk2 (e : Int) (by omega) D1 D' Sd S d jb D J l A cap w h hlt hj.ok hSS hwr h4 hJ.area hl hcap hcm hok hput hseal hop hA hAS).mono ?_
  rintro r w' ⟨rfl, Sd', h1, h2, h3, h5, h6⟩
  exact ⟨rfl, S, Sd', h1, h2, h3, fun b hb => .inl hb, h5, h6⟩
 | yes D1 D2 h0 hok hput hseal =>
  subst h0
  refine (ck_ok D1 D' Sd S d jb D J l A cap w h hlt hj.ok hSS hwr h4 hJ.area hl hcap hcm hok hput hseal hop hA hAS).mono ?_
  rintro r w' ⟨rfl, S', Sd', h1, h2, h3, h5, h6, h7⟩
  exact ⟨rfl, S', Sd', h1.e, h2, h3, h5, h6, h7⟩
def RTo (w w' : World) (T Sm : Nat → Prop) (m rb : Nat) (D' : Dsk) (J' : Jn) (br' : Nat) : Prop := ∃ T' Sm', RJAt w' T' rb m J' br' ∧ RefAt w' Sm' m D' ∧ (∀ b, T' b → ¬ Sm' b) ∧ (∀ b, T' b → T b ∨ w.heap.size ≤ b) ∧ (∀ b, Sm' b → (Sm b ∨ w.heap.size ≤ b) ∧ b < w'.heap.size) ∧ Off (fun b => T b ∨ Sm b) w w'
theorem rto_same {w : World} {T Sm : Nat → Prop} {m rb k br : Nat} {D : Dsk} {J : Jn} (hj : RJAt w T rb m J br) (hd : RefAt w Sm m D) (hlt : ∀ b, Sm b → b < w.heap.size) (hSS : ∀ b, T b → ¬ Sm b) : RTo w (w.drewN k) T Sm m rb D J br :=
 ⟨T, Sm, hj.off (off_drew w k) (fun _ _ q => q), hd.grown ⟨rfl, rfl, rfl, Nat.le_refl _, fun _ _ _ => rfl⟩, hSS, fun _ hb => .inl hb, fun b hb => ⟨.inl hb, hlt b hb⟩, (off_drew w k).mono (fun _ _ q => q.elim)⟩
theorem rapp_at {Sm T : Nat → Prop} {m rb br e br' : Nat} {D D' : Dsk} {J J' : Jn} {l : List UInt8} {w : World} (ht : AppTo D J br l e D' J' br') (h : RefAt w Sm m D) (hlt : ∀ b, Sm b → b < w.heap.size) (hj : RJAt w T rb m J br) (hSS : ∀ b, T b → ¬ Sm b) (h4 : 4 ≤ D.n) (hwr : D.wr.length + 70000 < 1000000) (hJ : JOk D.n J) (hl : l.length ≤ 1048576) :
  Calls Tryz.prog 77 #[.pointer (some ⟨rb, 0, none⟩), strV l] w fun r w' => r = .returned (.int .i64 (e : Int)) ∧ RTo w w' T Sm m rb D' J' br' := by
 have hop : J.op ≤ 4611686018427387904 ∧ J.first + J.recs.length ≤ 4611686018427387904 := ⟨by have := hJ.op; omega, by have := hJ.first; omega⟩
 cases ht with
 | broken hb =>
  refine (rapp_broken br T rb m J l w hj hb).mono ?_
  rintro r w' ⟨rfl, rfl⟩
  exact ⟨rfl, rto_same (k := 0) hj h hlt hSS⟩
 | full h0 hno =>
  subst h0
  refine (rapp_full Sm T rb m D J l w h hj h4 hl hJ.used hno).mono ?_
  rintro r w' ⟨rfl, k, rfl⟩
  exact ⟨rfl, rto_same hj h hlt hSS⟩
 | brk x hx D2 h0 hok hput =>
  subst h0
  refine (rapp_brk Sm T rb m D J l w h hj h4 hl hSS hJ.area hJ.used hok hop hwr e hx D' hput).mono ?_
  rintro r w' ⟨rfl, Sd', h1, h2, h3, h5, h6⟩
  exact ⟨rfl, T, Sd', h1, h2, h3, fun b hb => .inl hb, h5, h6⟩
 | yes D2 h0 hok hput =>
  subst h0
  refine (rapp_yes Sm T rb m D J l w h hj h4 hl hSS hJ.area hJ.used hok hop hwr D' hput (by have := hJ.few; omega)).mono ?_
  rintro r w' ⟨rfl, S', Sd', h1, h2, h3, h5, h6, h7⟩
  exact ⟨rfl, S', Sd', h1, h2, h3, h5, h6, h7⟩
theorem rck_at {Sm T : Nat → Prop} {m rb br e br' : Nat} {D D' : Dsk} {J J' : Jn} {l : List UInt8} {w : World} (ht : CkTo D J br l e D' J' br') (h : RefAt w Sm m D) (hlt : ∀ b, Sm b → b < w.heap.size) (hj : RJAt w T rb m J br) (hSS : ∀ b, T b → ¬ Sm b) (h4 : 4 ≤ D.n) (hwr : D.wr.length + 70000 < 1000000) (hJ : JOk D.n J) (hl : l.length ≤ 1048576) :
  Calls Tryz.prog 76 #[.pointer (some ⟨rb, 0, none⟩), strV l] w fun r w' => r = .returned (.int .i64 (e : Int)) ∧ RTo w w' T Sm m rb D' J' br' := by
 have hop : J.gen ≤ 4611686018427387904 ∧ J.op ≤ 4611686018427387904 ∧ J.first + J.recs.length ≤ 4611686018427387904 := ⟨by have := hJ.gen; omega, by have := hJ.op; omega, by have := hJ.first; omega⟩
 cases ht with
 | broken hb =>
  refine (rck_broken br T rb m J l w hj hb).mono ?_
  rintro r w' ⟨rfl, rfl⟩
  exact ⟨rfl, rto_same (k := 0) hj h hlt hSS⟩
 | full h0 hno =>
  subst h0
  refine (rck_full Sm T rb m D J l w h hj h4 hl hno).mono ?_
  rintro r w' ⟨rfl, k, rfl⟩
  exact ⟨rfl, rto_same hj h hlt hSS⟩
 | brk1 x hx D1 h0 hok hput =>
  subst h0
  refine (rck_brk1 Sm T rb m D J l w h hj h4 hl hSS hJ.area hok hop hwr e hx D' hput).mono ?_
  rintro r w' ⟨rfl, Sd', h1, h2, h3, h5, h6⟩
  exact ⟨rfl, T, Sd', h1, h2, h3, fun b hb => .inl hb, h5, h6⟩
 | brk2 x hx D1 D2 h0 hok hput hseal =>
  subst h0
  refine (rck_brk2 Sm T rb m D J l w h hj h4 hl hSS hJ.area hok hop hwr e hx D1 hput D' hseal).mono ?_
  rintro r w' ⟨rfl, Sd', h1, h2, h3, h5, h6⟩
  exact ⟨rfl, T, Sd', h1, h2, h3, fun b hb => .inl hb, h5, h6⟩
 | yes D1 D2 h0 hok hput hseal =>
  subst h0
  refine (rck_yes Sm T rb m D J l w h hj h4 hl hSS hJ.area hok hop hwr D1 hput D' hseal).mono ?_
  rintro r w' ⟨rfl, S', Sd', h1, h2, h3, h5, h6, h7⟩
  exact ⟨rfl, S', Sd', h1, h2, h3, h5, h6, h7⟩
structure Quad (w0 w : World) (S Sd T Sm : Nat → Prop) (d jb m rb : Nat) (D : Dsk) (J : Jn) (br : Nat) (E : Dsk) (I : Jn) (bi : Nat) : Prop where
 jnl : JE w S jb d J (br : Int)
 disk : DiskAt w Sd d D
 rj : RJAt w T rb m I bi
 ref : RefAt w Sm m E
 sj : ∀ b, S b → w0.heap.size ≤ b ∧ b < w.heap.size ∧ ¬ Sd b ∧ ¬ T b ∧ ¬ Sm b
 sd : ∀ b, Sd b → w0.heap.size ≤ b ∧ b < w.heap.size ∧ ¬ T b ∧ ¬ Sm b
 st : ∀ b, T b → w0.heap.size ≤ b ∧ b < w.heap.size ∧ ¬ Sm b
 sm : ∀ b, Sm b → w0.heap.size ≤ b ∧ b < w.heap.size
 off : Off (fun b => w0.heap.size ≤ b) w0 w
section
variable {w0 w w' : World} {S Sd T Sm : Nat → Prop} {d jb m rb br bi br' : Nat} {D E D' : Dsk} {J I J' : Jn}
theorem Quad.new (h : Quad w0 w S Sd T Sm d jb m rb D J br E I bi) (ho : Off (fun _ => False) w w') : Quad w0 w' S Sd T Sm d jb m rb D J br E I bi :=
 have hs := ho.size
 ⟨h.jnl.off ho (fun _ _ q => q), h.disk.off ho (fun _ _ _ q => q), h.rj.off ho (fun _ _ q => q), h.ref.off ho (fun _ _ _ q => q), fun b hb => let q := h.sj b hb; ⟨q.1, by omega, q.2.2⟩, fun b hb => let q := h.sd b hb; ⟨q.1, by omega, q.2.2⟩, fun b hb => let q := h.st b hb; ⟨q.1, by omega, q.2.2⟩, fun b hb => let q := h.sm b hb; ⟨q.1, by omega⟩, h.off.trans (ho.mono (fun _ _ q => q.elim))⟩
theorem Quad.beside (h : Quad w0 w S Sd T Sm d jb m rb D J br E I bi) {U : Nat → Prop} (ho : Off U w w') (hU : ∀ b, U b → w0.heap.size ≤ b ∧ ¬ S b ∧ ¬ Sd b ∧ ¬ T b ∧ ¬ Sm b) : Quad w0 w' S Sd T Sm d jb m rb D J br E I bi :=
 have hs := ho.size
 ⟨h.jnl.off ho (fun b hb q => (hU b q).2.1 hb), h.disk.off ho (fun b _ hb q => (hU b q).2.2.1 hb), h.rj.off ho (fun b hb q => (hU b q).2.2.2.1 hb), h.ref.off ho (fun b _ hb q => (hU b q).2.2.2.2 hb), fun b hb => let q := h.sj b hb; ⟨q.1, by omega, q.2.2⟩, fun b hb => let q := h.sd b hb; ⟨q.1, by omega, q.2.2⟩, fun b hb => let q := h.st b hb; ⟨q.1, by omega, q.2.2⟩, fun b hb => let q := h.sm b hb; ⟨q.1, by omega⟩, h.off.trans (ho.mono (fun b _ q => (hU b q).1))⟩
theorem Quad.prog (h : Quad w0 w S Sd T Sm d jb m rb D J br E I bi) (hp : PTo w w' S Sd d jb D' J' br') : ∃ S' Sd', Quad w0 w' S' Sd' T Sm d jb m rb D' J' br' E I bi ∧ (∀ b, S' b → S b ∨ w.heap.size ≤ b) ∧ (∀ b, Sd' b → Sd b ∨ w.heap.size ≤ b) ∧ Off (fun b => S b ∨ Sd b) w w' := by
 obtain ⟨S', Sd', h1, h2, h3, h4, h5, h6⟩ := hp
 have hs := h.off.size
 have hs' := h6.size
 have hjlt : ∀ b, S' b → b < w'.heap.size := by
  obtain ⟨sv, rv, vs, h1⟩ := h1
  exact h1.lt
 have nt : ∀ b, T b → ¬ (S b ∨ Sd b) := fun b hb q => q.elim (fun q => (h.sj b q).2.2.2.1 hb) (fun q => (h.sd b q).2.2.1 hb)
 have nm : ∀ b, Sm b → ¬ (S b ∨ Sd b) := fun b hb q => q.elim (fun q => (h.sj b q).2.2.2.2 hb) (fun q => (h.sd b q).2.2.2 hb)
 refine ⟨S', Sd', ⟨h1, h2, h.rj.off h6 nt, h.ref.off h6 (fun b _ hb => nm b hb), fun b hb => ⟨?_, hjlt b hb, h3 b hb, fun q => ?_, fun q => ?_⟩, fun b hb => ⟨?_, (h5 b hb).2, fun q => ?_, fun q => ?_⟩, fun b hb => let q := h.st b hb; ⟨q.1, by omega, q.2.2⟩, fun b hb => let q := h.sm b hb; ⟨q.1, by omega⟩, h.off.trans (h6.mono (fun b _ q => q.elim (fun q => (h.sj b q).1) (fun q => (h.sd b q).1)))⟩, h4, fun b hb => (h5 b hb).1, h6⟩
 ·exact (h4 b hb).elim (fun q => (h.sj b q).1) (fun q => by omega)
 ·exact (h4 b hb).elim (fun q2 => (h.sj b q2).2.2.2.1 q) (fun q2 => by have := (h.st b q).2.1; omega)
 ·exact (h4 b hb).elim (fun q2 => (h.sj b q2).2.2.2.2 q) (fun q2 => by have := (h.sm b q).2; omega)
 ·exact (h5 b hb).1.elim (fun q => (h.sd b q).1) (fun q => by omega)
 ·exact (h5 b hb).1.elim (fun q2 => (h.sd b q2).2.2.1 q) (fun q2 => by have := (h.st b q).2.1; omega)
 ·exact (h5 b hb).1.elim (fun q2 => (h.sd b q2).2.2.2 q) (fun q2 => by have := (h.sm b q).2; omega)
theorem Quad.doc (h : Quad w0 w S Sd T Sm d jb m rb D J br E I bi) (hp : RTo w w' T Sm m rb D' J' br') : ∃ T' Sm', Quad w0 w' S Sd T' Sm' d jb m rb D J br D' J' br' ∧ (∀ b, T' b → T b ∨ w.heap.size ≤ b) ∧ (∀ b, Sm' b → Sm b ∨ w.heap.size ≤ b) ∧ Off (fun b => T b ∨ Sm b) w w' := by
 obtain ⟨T', Sm', h1, h2, h3, h4, h5, h6⟩ := hp
 have hs := h.off.size
 have hs' := h6.size
 have hjlt : ∀ b, T' b → b < w'.heap.size := by
  obtain ⟨lv, h1⟩ := h1
  exact h1.lt
 have ns : ∀ b, S b → ¬ (T b ∨ Sm b) := fun b hb q => q.elim (fun q => (h.sj b hb).2.2.2.1 q) (fun q => (h.sj b hb).2.2.2.2 q)
 have nd : ∀ b, Sd b → ¬ (T b ∨ Sm b) := fun b hb q => q.elim (fun q => (h.sd b hb).2.2.1 q) (fun q => (h.sd b hb).2.2.2 q)
 refine ⟨T', Sm', ⟨h.jnl.off h6 ns, h.disk.off h6 (fun b _ hb => nd b hb), h1, h2, fun b hb => ?_, fun b hb => ?_, fun b hb => ⟨?_, hjlt b hb, h3 b hb⟩, fun b hb => ⟨?_, (h5 b hb).2⟩, h.off.trans (h6.mono (fun b _ q => q.elim (fun q => (h.st b q).1) (fun q => (h.sm b q).1)))⟩, h4, fun b hb => (h5 b hb).1, h6⟩
 ·have q := h.sj b hb
  exact ⟨q.1, by omega, q.2.2.1, fun q2 => (h4 b q2).elim (fun q3 => q.2.2.2.1 q3) (fun q3 => by omega), fun q2 => (h5 b q2).1.elim (fun q3 => q.2.2.2.2 q3) (fun q3 => by omega)⟩
 ·have q := h.sd b hb
  exact ⟨q.1, by omega, fun q2 => (h4 b q2).elim (fun q3 => q.2.2.1 q3) (fun q3 => by omega), fun q2 => (h5 b q2).1.elim (fun q3 => q.2.2.2 q3) (fun q3 => by omega)⟩
 ·exact (h4 b hb).elim (fun q => (h.st b q).1) (fun q => by omega)
 ·exact (h5 b hb).1.elim (fun q => (h.sm b q).1) (fun q => by omega)
theorem Quad.plt (h : Quad w0 w S Sd T Sm d jb m rb D J br E I bi) : ∀ b, Sd b → b < w.heap.size := fun b hb => (h.sd b hb).2.1
theorem Quad.mlt (h : Quad w0 w S Sd T Sm d jb m rb D J br E I bi) : ∀ b, Sm b → b < w.heap.size := fun b hb => (h.sm b hb).2
end
theorem brow_bytes {w : World} {B g cap : Nat} {l : List UInt8} (h : BRow w B (.slice (some ⟨g, 0, none⟩) l.length cap) l) : ByteAt w g l.length := fun j hj => by
 obtain ⟨_, ⟨e, _⟩ | ⟨g2, cap2, cur, e, hB, hb, h1, h2, _, ht⟩⟩ := h
 ·cases e
 ·cases e
  refine ⟨⟨((l[j]'hj).toNat : Int), ?_⟩, frozen_blk hb j⟩
  rw [cell_blk hb]
  have h3 : (u8s l)[j]? = some (.int .u8 ((l[j]'hj).toNat : Int)) := by simp [u8s, hj]
  rw [← ht, List.getElem?_take] at h3
  split at h3
  ·simpa using h3
  ·cases h3
def DoTo (ck : Bool) (D : Dsk) (J : Jn) (br : Nat) (l : List UInt8) (e : Nat) (D' : Dsk) (J' : Jn) (br' : Nat) : Prop := if ck = true then CkTo D J br l e D' J' br' else AppTo D J br l e D' J' br'
theorem do_to (ck : Bool) (D : Dsk) (J : Jn) (br : Nat) (l : List UInt8) : ∃ e D' J' br', DoTo ck D J br l e D' J' br' := by
 cases ck with
 | true => exact ck_to D J br l
 | false => exact app_to D J br l
def DoesEnd (w0 : World) (d jb m rb : Nat) (D' : Dsk) (J' : Jn) (br' : Nat) (e : Ending) (w' : World) : Prop := e = .returned (.bool true) ∧ ∃ S' Sd' T' Sm', Quad w0 w' S' Sd' T' Sm' d jb m rb D' J' br' D' J' br'
theorem does_at {w0 : World} {S Sd T Sm : Nat → Prop} {d jb m rb br e br' : Nat} {D D' : Dsk} {J J' : Jn} (k : UInt8) (z : Int) (l : List UInt8) (A : Option Addr) (cap : Nat) (hl : l.length ≤ 3000) (hcap : l.length ≤ cap) (hcm : cap ≤ maxLen) (w : World) (hA : BArg w A l cap) (hq : Quad w0 w S Sd T Sm d jb m rb D J br D J br) (ht : DoTo (decide (k.toNat % 9 = 4)) D J br (rep l (k.toNat / 9 + 1)) e D' J' br') (h4 : 4 ≤ D.n) (hwr : D.wr.length + 70000 < 1000000) (hJ : JOk D.n J) :
  Calls Tryz.prog 48 #[.pointer (some ⟨jb, 0, none⟩), .pointer (some ⟨rb, 0, none⟩), .agg #[.int .u8 (k.toNat : Int), .slice A l.length cap, .int .i64 z]] w (DoesEnd w0 d jb m rb D' J' br') := by
 have hrl := rep_small (k := k) hl
 obtain ⟨q, hqn⟩ : ∃ q, q = l.length := ⟨_, rfl⟩
 obtain ⟨y, hy⟩ : ∃ y, y = w.alloc (.cells #[.int .u8 (k.toNat : Int), .slice A l.length cap, .int .i64 z] 37) := ⟨_, rfl⟩
 have h1 := (MapKept.heap_alloc w (.cells #[.int .u8 (k.toNat : Int), .slice A l.length cap, .int .i64 z] 37)).1
 have h2 := World.grownBy_alloc w (.cells #[.int .u8 (k.toNat : Int), .slice A l.length cap, .int .i64 z] 37) none
 have h3 : y.heap.size = w.heap.size + 1 := by rw [hy]; exact World.size_alloc ..
 rw [← hy] at h1 h2
 have HQY := Lib.hid (hq.new (off_grown h2))
 have HBY : Hid (BArg y A l cap) := hA.below (grown_below0 h2 (Nat.le_refl _))
 have HBC := Lib.hid (bytes_at k z l A cap hl hcap hcm y HBY.out)
 have HWY : Hid (w0.heap.size ≤ y.heap.size) := by have := hq.off.size; have := h2.size; show _ ≤ _; omega
 have c0 : y.cell? ⟨w.heap.size, 0, none⟩ = some (.int .u8 (k.toNat : Int)) := cell_blk h1 0
 have c1 : y.cell? ⟨w.heap.size, 1, none⟩ = some (.slice A q cap) := by rw [hqn]; exact cell_blk h1 1
 have c2 : y.cell? ⟨w.heap.size, 2, none⟩ = some (.int .i64 z) := cell_blk h1 2
 have HC0 : Hid (∀ v, Below y.heap.size y v → v.cell? ⟨w.heap.size, 0, none⟩ = some (.int .u8 (k.toNat : Int))) := fun v hv => (hv.cell (p := ⟨w.heap.size, 0, none⟩) (by show w.heap.size < _; omega)).trans (cell_blk h1 0)
 have hk : k.toNat < 256 := k.toNat_lt
 obtain ⟨L, hL⟩ : ∃ L, L = rep l (k.toNat / 9 + 1) := ⟨_, rfl⟩
 rw [← hL] at ht hrl HBC
 rw [← hqn] at hy ⊢
 rw [← hqn] at HBC
 obtain ⟨kk, hkk⟩ : ∃ x, x = k.toNat := ⟨_, rfl⟩
 rw [← hkk] at hy c0 HBC HC0 hk ⊢
 have HT := Lib.hid ht
 have HN := Lib.hid h4
 have HWR := Lib.hid hwr
 have HJ := Lib.hid hJ
 have HLL := Lib.hid hrl.1
 have HEQ : Hid (((bs L).toList == (bs L).toList) = true) := by show _ = _; simp
 have HEE : Hid (((e : Int) == (e : Int)) = true) := by show _ = _; simp
 have HKK := Lib.hid hkk
 clear ht h4 hwr hJ hrl h1 h2 h3 hq hA hl hcap hcm hL hkk hqn
 by_cases hck : kk % 9 = 4
 have hd : ((kk : Int) % 9 == 4) = true := by simp; omega
 have HT2 : Hid (CkTo D J br L e D' J' br') := by
  have := HT.out
  rw [← HKK.out] at this
  unfold DoTo at this
  rwa [if_pos (by simpa using hck)] at this
 clear hck HT
 go_enter Tryz.func48, Tryz.ntmps48
 go_upto_region 1 with fail
 rw [← hy]
 clear hy
 go_wp2_with fail
 refine HBC.out.mono ?_
 rintro e w2 ⟨v, rfl, hr, hb⟩
 have HQ2 := Lib.hid (HQY.out.new (off_below hb))
 have c0b := HC0.out w2 hb
 have HR2 := Lib.hid hr
 have HYW : Hid (y.heap.size ≤ w2.heap.size) := hb.size
 have hcv := run_str hr
 obtain ⟨Av, capv, hv, hc1, hc2, ha1, ha2⟩ := brow_arg hr
 subst hv
 have HAV := Lib.hid (And.intro hc1 (And.intro hc2 (And.intro ha1 ha2)))
 clear hr hb hc1 hc2 ha1 ha2 c0 c1 c2
 go_upto_region 5 with fail
 clear hcv
 go_wp2_with fail
 refine (pck_at HT2.out HQ2.out.disk HQ2.out.plt HQ2.out.jnl (fun b hb => (HQ2.out.sj b hb).2.2.1) HN.out HWR.out HJ.out HLL.out HAV.out.1 HAV.out.2.1 HAV.out.2.2.1 (fun g off e hs => absurd (HAV.out.2.2.2 g off e) (Nat.not_le.2 (hs.elim (HQY.out.plt g) (fun hs => (HQY.out.sj g (by rw [hs]; obtain ⟨sv, rv, vs, hx⟩ := HQY.out.jnl; exact hx.own.1)).2.1))))).mono ?_
 rintro r w3 ⟨rfl, hp⟩
 obtain ⟨S3, Sd3, hq3, hs3, hsd3, ho3⟩ := HQ2.out.prog hp
 have HQ3 := Lib.hid hq3
 have HS3 := Lib.hid (And.intro hs3 hsd3)
 have HO3 := Lib.hid ho3
 clear hp hq3 hs3 hsd3 ho3
 go_wp2_with fail
 refine (rck_at HT2.out HQ3.out.ref HQ3.out.mlt HQ3.out.rj (fun b hb => (HQ3.out.st b hb).2.2) HN.out HWR.out HJ.out HLL.out).mono ?_
 rotate_left
 have hd : ((kk : Int) % 9 == 4) = false := by simp; omega
 have HT2 : Hid (AppTo D J br L e D' J' br') := by
  have := HT.out
  rw [← HKK.out] at this
  unfold DoTo at this
  rwa [if_neg (by simpa using hck)] at this
 clear hck HT
 go_enter Tryz.func48, Tryz.ntmps48
 go_upto_region 1 with fail
 rw [← hy]
 clear hy
 go_wp2_with fail
 refine HBC.out.mono ?_
 rintro e w2 ⟨v, rfl, hr, hb⟩
 have HQ2 := Lib.hid (HQY.out.new (off_below hb))
 have c0b := HC0.out w2 hb
 have HR2 := Lib.hid hr
 have HYW : Hid (y.heap.size ≤ w2.heap.size) := hb.size
 have hcv := run_str hr
 obtain ⟨Av, capv, hv, hc1, hc2, ha1, ha2⟩ := brow_arg hr
 subst hv
 have HAV := Lib.hid (And.intro hc1 (And.intro hc2 (And.intro ha1 ha2)))
 clear hr hb hc1 hc2 ha1 ha2 c0 c1 c2
 go_upto_region 6 with fail
 clear hcv
 go_wp2_with fail
 refine (papp_at HT2.out HQ2.out.disk HQ2.out.plt HQ2.out.jnl (fun b hb => (HQ2.out.sj b hb).2.2.1) HN.out HWR.out HJ.out HLL.out HAV.out.1 HAV.out.2.1 HAV.out.2.2.1 (fun g off e hs => absurd (HAV.out.2.2.2 g off e) (Nat.not_le.2 (hs.elim (HQY.out.plt g) (fun hs => (HQY.out.sj g (by rw [hs]; obtain ⟨sv, rv, vs, hx⟩ := HQY.out.jnl; exact hx.own.1)).2.1))))).mono ?_
 rintro r w3 ⟨rfl, hp⟩
 obtain ⟨S3, Sd3, hq3, hs3, hsd3, ho3⟩ := HQ2.out.prog hp
 have HQ3 := Lib.hid hq3
 have HS3 := Lib.hid (And.intro hs3 hsd3)
 have HO3 := Lib.hid ho3
 clear hp hq3 hs3 hsd3 ho3
 go_wp2_with fail
 refine (rapp_at HT2.out HQ3.out.ref HQ3.out.mlt HQ3.out.rj (fun b hb => (HQ3.out.st b hb).2.2) HN.out HWR.out HJ.out HLL.out).mono ?_
 rotate_left
 all_goals
  rintro r w4 ⟨rfl, hp⟩
  obtain ⟨T4, Sm4, hq4, hs4, hsm4, ho4⟩ := HQ3.out.doc hp
  have HQ4 := Lib.hid hq4
  have HS4 := Lib.hid (And.intro hs4 hsm4)
  have HO4 := Lib.hid ho4
  have HO24 : Hid (Off (fun b => (S b ∨ Sd b) ∨ (T b ∨ Sm b)) w2 w4) := (HO3.out.mono (fun _ _ q => .inl q)).trans (ho4.mono (fun _ _ q => .inr q))
  have HRN : Hid (∀ g, w0.heap.size ≤ g → y.heap.size ≤ g → g < w2.heap.size → ¬ ((S g ∨ Sd g) ∨ (T g ∨ Sm g)) ∧ ¬ S3 g ∧ ¬ Sd3 g ∧ ¬ T4 g ∧ ¬ Sm4 g) := fun g _ h1 h2 => by
   have a1 : ¬ S g := fun q => by have := (HQY.out.sj g q).2.1; omega
   have a2 : ¬ Sd g := fun q => by have := (HQY.out.sd g q).2.1; omega
   have a3 : ¬ T g := fun q => by have := (HQY.out.st g q).2.1; omega
   have a4 : ¬ Sm g := fun q => by have := (HQY.out.sm g q).2; omega
   have s3 := HO3.out.size
   exact ⟨fun q => q.elim (fun q => q.elim a1 a2) (fun q => q.elim a3 a4), fun q => (HS3.out.1 g q).elim a1 (fun q => by omega), fun q => (HS3.out.2 g q).elim a2 (fun q => by omega), fun q => (HS4.out.1 g q).elim a3 (fun q => by omega), fun q => (HS4.out.2 g q).elim a4 (fun q => by omega)⟩
  have HR4 : Hid (BRow w4 y.heap.size (.slice Av L.length capv) L) := Sec.row_off HR2.out HO24.out (fun g hg => (HRN.out g (Nat.le_trans HWY.out (World.ownsRow.lt HR2.out g hg).1) (World.ownsRow.lt HR2.out g hg).1 (World.ownsRow.lt HR2.out g hg).2).1)
  clear hp hq4 hs4 hsm4 ho4
  have hcv4 := run_str HR4.out
  have heq := HEQ.out
  have hee := HEE.out
  go_upto_region 8 with fail
  clear hcv4 heq hee
  by_cases hn0 : L = []
  ·have e0 : L.length = 0 := by rw [hn0]; rfl
   rw [e0]
   have HE0 := Lib.hid e0
   clear e0 hn0
   go_wp2_with fail
   refine wp_loop_rounds 1 ?_
   rw [rounds_succ]
   go_wp2_with fail
   go_ret
   exact ⟨rfl, _, _, _, _, HQ4.out⟩
  ·obtain ⟨g, cap2, hv2, h5, h6, h7, h8, h9⟩ := HR2.out.some hn0
   cases hv2
   have hba := brow_bytes HR4.out
   have HNG := Lib.hid (HRN.out g (Nat.le_trans HWY.out h7) h7 h8)
   have HWG : Hid (w0.heap.size ≤ g) := Nat.le_trans HWY.out h7
   have HBA := Lib.hid hba
   obtain ⟨n, hn⟩ : ∃ n, n = L.length := ⟨_, rfl⟩
   have HNN : Hid (n ≤ 1048576) := by show _ ≤ _; rw [hn]; exact HLL.out
   rw [← hn] at h5 HBA ⊢
   have h10 : n ≤ capv := h5
   clear hba hn0 h5 h6 h7 h8 h9 hn
   go_wp2_with fail
   go_loopw [12] (fun tv wq => ∃ t : Nat, t ≤ n ∧ tv = .int .i64 (t : Int) ∧ ByteAt wq g n ∧ Quad w0 wq S3 Sd3 T4 Sm4 d jb m rb D' J' br' D' J' br') (fun tv _ => n - (intOf tv).toNat)
   case atStart => exact ⟨0, Nat.zero_le _, rfl, HBA.out, HQ4.out⟩
   case round =>
    obtain ⟨t, ht, rfl, hB, hoq⟩ := hrel
    have HB := Lib.hid hB
    have HOQ := Lib.hid hoq
    clear hB hoq
    by_cases htt : t < n
    ·have hd1 : decide (t < n) = true := by simp; omega
     obtain ⟨⟨yy, hyy⟩, hzf⟩ := HB.out t htt
     have t0 : (0 : Int) ≤ (t : Int) := by omega
     have t1 : (t : Int) < (n : Int) := by omega
     have t2 : (t : Int) ≤ 1048576 := by have := HNN.out; omega
     go_wp2_with fail
     go_roundw
     case rel => exact ⟨t + 1, by omega, by go_num, HB.out.set htt, HOQ.out.beside (Off.of_grown (grown_set _ g t _) (S := fun b => b = g) (fun k e => by cases e; rfl)) (fun b hb => by rw [hb]; exact ⟨HWG.out, HNG.out.2⟩)⟩
     case measure => simp [intOf]; omega
    ·have hd1 : decide (t < n) = false := by simp; omega
     clear htt
     go_wp2_with fail
     go_ret
     exact ⟨rfl, _, _, _, _, HOQ.out⟩
end Go.Proofs.YtgdedgfohjplmaaGreat.Jnl
