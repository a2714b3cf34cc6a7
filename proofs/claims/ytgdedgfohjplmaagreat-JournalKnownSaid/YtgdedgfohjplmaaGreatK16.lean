/- A part of the proof of JournalKnown: KTells JnlOpenNo KPlayD KPlaysO. -/
import Derived.Test.YtgdedgfohjplmaaGreatK15
import Derived.Test.YtgdedgfohjplmaaGreatK00
import Derived.Test.YtgdedgfohjplmaaGreatK06
set_option maxRecDepth 100000
set_option maxHeartbeats 40000000
namespace Go.Proofs.YtgdedgfohjplmaaGreat.Jnl
open Go.RowKit Go.Maps Sec
theorem rnext_at {w : World} {T : Nat → Prop} {rb m br : Nat} {J : Jn} (h : RJAt w T rb m J br) (hn : J.first + J.recs.length < 9223372036854775808) :
  Calls Tryz.prog 70 #[.pointer (some ⟨rb, 0, none⟩)] w fun e w' => e = .returned (.int .i64 ((J.first + J.recs.length : Nat) : Int)) ∧ ∃ k, w' = w.drewN k := by
 obtain ⟨lv, h⟩ := h
 exact rnext_blk rb m J lv br w h.blk h.row hn
theorem next_at {w : World} {S : Nat → Prop} {jb d : Nat} {br : Int} {J : Jn} (h : JE w S jb d J br) (hn : J.first + J.recs.length < 9223372036854775808) :
  Calls Tryz.prog 10 #[.pointer (some ⟨jb, 0, none⟩)] w fun e w' => e = .returned (.int .i64 ((J.first + J.recs.length : Nat) : Int)) ∧ ∃ k, w' = w.drewN k := by
 obtain ⟨sv, rv, vs, h⟩ := h
 obtain ⟨A, cap, rfl, _, _⟩ := row_len h.rows
 exact next_e jb d J sv _ A J.recs.length cap rfl hn w h.blk
theorem drewN_off (w : World) (m : Nat) : Off (fun _ => False) w (w.drewN m) := ⟨rfl, rfl, rfl, Nat.le_refl _, fun _ _ _ => rfl⟩
theorem tells_at {w0 w : World} {S Sd T Sm : Nat → Prop} {d jb m rb br : Nat} {D : Dsk} {J : Jn} (hq : Quad w0 w S Sd T Sm d jb m rb D J br D J br) (h4 : 4 ≤ D.n) (hJ : JOk D.n J) :
  Calls Tryz.prog 40 #[.pointer (some ⟨jb, 0, none⟩), .pointer (some ⟨rb, 0, none⟩)] w fun e w' => e = .returned (.bool true) ∧ Off (fun _ => False) w w' := by
 have hnx : J.first + J.recs.length < 9223372036854775808 := by have := hJ.first; omega
 have HQ := Lib.hid hq
 have HJ := Lib.hid hJ
 have HNX := Lib.hid hnx
 have H4 := Lib.hid h4
 have hst : J.st.length ≤ 100000000 := by rw [hJ.st]; have := hJ.size; omega
 have HST := Lib.hid hst
 have HLATE : Hid (∀ v, Off (fun b => w.heap.size ≤ b) w v → Quad w0 v S Sd T Sm d jb m rb D J br D J br) := fun v hv => hq.beside hv (fun b hb => ⟨by have := hq.off.size; omega, fun q => by have := (hq.sj b q).2.1; omega, fun q => by have := (hq.sd b q).2.1; omega, fun q => by have := (hq.st b q).2.1; omega, fun q => by have := (hq.sm b q).2; omega⟩)
 have HC1 : Hid (∀ q, Calls Tryz.prog 9 #[.pointer (some ⟨jb, 0, none⟩)] (w.drewN q) fun e w' => e = .returned (.int .i64 (J.first : Int)) ∧ w' = w.drewN q) := fun q => first_e S jb d J _ (hq.new (drewN_off w q)).jnl
 have HC2 : Hid (∀ q, Calls Tryz.prog 10 #[.pointer (some ⟨jb, 0, none⟩)] (w.drewN q) fun e w' => e = .returned (.int .i64 ((J.first + J.recs.length : Nat) : Int)) ∧ ∃ k, w' = (w.drewN q).drewN k) := fun q => next_at (hq.new (drewN_off w q)).jnl hnx
 have HC3 : Hid (∀ q, Calls Tryz.prog 70 #[.pointer (some ⟨rb, 0, none⟩)] (w.drewN q) fun e w' => e = .returned (.int .i64 ((J.first + J.recs.length : Nat) : Int)) ∧ ∃ k, w' = (w.drewN q).drewN k) := fun q => rnext_at (hq.new (drewN_off w q)).rj hnx
 have HC4 : Hid (∀ q, Calls Tryz.prog 11 #[.pointer (some ⟨jb, 0, none⟩)] (w.drewN q) fun e w' => e = .returned (.int .i64 ((D.n / 2 - 1 - J.used : Nat) : Int)) ∧ ∃ k, w' = (w.drewN q).drewN k) := fun q => free_e Sd S d jb D J _ (hq.new (drewN_off w q)).disk (hq.new (drewN_off w q)).jnl hJ.used h4
 have HC5 : Hid (∀ q, Calls Tryz.prog 71 #[.pointer (some ⟨rb, 0, none⟩)] (w.drewN q) fun e w' => e = .returned (.int .i64 ((D.n / 2 - 1 - J.used : Nat) : Int)) ∧ ∃ k, w' = (w.drewN q).drewN k) := fun q => by
  obtain ⟨lv, h⟩ := (hq.new (drewN_off w q)).rj
  exact rfree_blk rb m Sm D J lv br _ (hq.new (drewN_off w q)).ref h.blk hJ.used h4
 have HC6 : Hid (∀ q, Calls Tryz.prog 12 #[.pointer (some ⟨jb, 0, none⟩)] (w.drewN q) fun e w' => e = .returned (.int .i64 (br : Int)) ∧ w' = w.drewN q) := fun q => by
  obtain ⟨sv, rv, vs, h⟩ := (hq.new (drewN_off w q)).jnl
  exact broken_e jb d J sv rv _ h.blk
 have HRB : Hid (∀ v, Off (fun b => w.heap.size ≤ b) w v → ∃ A cap, RJBlk v rb m J (.slice A J.recs.length cap) br ∧ StrRow v 0 (.slice A J.recs.length cap) (recV J)) := fun v hv => by
  obtain ⟨lv, h⟩ := (HLATE.out v hv).rj
  obtain ⟨A, cap, e, _, _⟩ := row_len h.row
  rw [recV_length] at e
  subst e
  exact ⟨A, cap, h.blk, h.row⟩
 obtain ⟨lv, hrj⟩ := hq.rj
 have c4 : w.cell? ⟨rb, 4, none⟩ = some (.int .i64 (J.first : Int)) := hrj.blk.cell 4
 have c8 : w.cell? ⟨rb, 8, none⟩ = some (.int .i64 (br : Int)) := hrj.blk.cell 8
 obtain ⟨fi, hfi⟩ : ∃ x, x = J.first := ⟨_, rfl⟩
 obtain ⟨nx, hnxx⟩ : ∃ x, x = J.first + J.recs.length := ⟨_, rfl⟩
 obtain ⟨fr, hfr⟩ : ∃ x, x = D.n / 2 - 1 - J.used := ⟨_, rfl⟩
 rw [← hfi] at c4 HC1
 rw [← hnxx] at HC2 HC3
 rw [← hfr] at HC4 HC5
 have HFI := Lib.hid hfi
 have HNXX := Lib.hid hnxx
 have HFR := Lib.hid hfr
 have hb1 : fi ≤ 1000000000 := by have := hJ.first; omega
 have hb2 : 1 ≤ fi := by have := hJ.first; omega
 have hb3 : nx ≤ 1000000000 := by have := hJ.first; omega
 clear hq h4 hJ hnx hst hrj hfi hnxx hfr
 go_enter Tryz.func40, Tryz.ntmps40
 go_wp2_with fail
 go_quiet (first
  | (go_at_call 9; exact Calls.quiet_of_same (HC1.out _))
  | (go_at_call 10; exact Calls.quiet_of (HC2.out _))
  | (go_at_call 70; exact Calls.quiet_of (HC3.out _))
  | (go_at_call 11; exact Calls.quiet_of (HC4.out _))
  | (go_at_call 71; exact Calls.quiet_of (HC5.out _))
  | (go_at_call 12; exact Calls.quiet_of_same (HC6.out _)))
 clear c4 c8 HC1 HC2 HC3 HC4 HC5 HC6
 go_wp2_with fail
 have HO0 : Hid (Off (fun b => w.heap.size ≤ b) w (w.drewN nq)) := (drewN_off w nq).mono (fun _ _ q => q.elim)
 refine (state_e S jb d J (w.drewN nq) (HLATE.out _ HO0.out).jnl HST.out).mono ?_
 rintro e w1 ⟨v, rfl, hr, hb⟩
 have HO1 : Hid (Off (fun b => w.heap.size ≤ b) w w1) := ⟨hb.os, hb.tape, hb.output, hb.size, fun k hk _ => hb.block k hk⟩
 have HR1 : Hid (BRow w1 w.heap.size v J.st) := hr
 obtain ⟨Av, capv, hv, hc1, hc2, _, _⟩ := brow_arg hr
 subst hv
 have hcv := fun n : Nat => run_str (w := w1.drewN n) (B := w.heap.size) (v := .slice Av J.st.length capv) (l := J.st) (HR1.out.grown ⟨rfl, rfl, rfl, Nat.le_refl _, fun _ _ _ => rfl⟩)
 obtain ⟨A6, cap6, hB1, _⟩ := HRB.out w1 HO1.out
 have c5 : w1.cell? ⟨rb, 5, none⟩ = some (strV J.st) := hB1.cell 5
 have heq : ((bs J.st).toList == (bs J.st).toList) = true := by simp
 clear hr hb hB1
 go_wp2_with fail
 go_quiet (fail)
 clear hcv c5 heq
 obtain ⟨n, hn⟩ : ∃ n, n = J.st.length := ⟨_, rfl⟩
 have HNS : Hid (n ≤ 100000000) := by show _ ≤ _; rw [hn]; exact HST.out
 have HSH : Hid (0 < n → ∃ g, Av = some ⟨g, 0, none⟩ ∧ w.heap.size ≤ g ∧ ByteAt w1 g n) := fun h0 => by
  obtain ⟨g, cap2, hv2, h5, h6, h7, h8, h9⟩ := HR1.out.some (fun e => by rw [hn, e] at h0; exact absurd h0 (by decide))
  cases hv2
  exact ⟨g, rfl, h7, by rw [hn]; exact brow_bytes HR1.out⟩
 have hcn : n ≤ capv := by rw [hn]; exact hc1
 rw [← hn]
 have HO2 : Hid (Off (fun b => w.heap.size ≤ b) w (w1.drewN nq)) := HO1.out.trans ((drewN_off w1 nq).mono (fun _ _ q => q.elim))
 have HSH2 : Hid (∀ g, Av = some ⟨g, 0, none⟩ → 0 < n → ByteAt (w1.drewN nq) g n) := fun g e h0 => by
  obtain ⟨g2, e2, _, h⟩ := HSH.out h0
  rw [e] at e2
  cases e2
  exact h
 clear hc1 hn
 obtain ⟨w2, hw2⟩ : ∃ v, v = w1.drewN nq := ⟨_, rfl⟩
 rw [← hw2] at HO2 HSH2
 rw [← hw2]
 clear hw2
 go_wp2_with fail
 go_loopw [7] (fun tv wq => ∃ t : Nat, t ≤ n ∧ tv = .int .i64 (t : Int) ∧ (∀ g, Av = some ⟨g, 0, none⟩ → 0 < n → ByteAt wq g n) ∧ Off (fun b => w.heap.size ≤ b) w wq) (fun tv _ => n - (intOf tv).toNat)
 case atStart => exact ⟨0, Nat.zero_le _, rfl, HSH2.out, HO2.out⟩
 case round =>
  obtain ⟨t, ht, rfl, hB, hoq⟩ := hrel
  have HB := Lib.hid hB
  have HOQ := Lib.hid hoq
  clear hB hoq
  by_cases htt : t < n
  ·obtain ⟨g, hg, hwg, _⟩ := HSH.out (by omega)
   have hba := HB.out g hg (by omega)
   have HGG := Lib.hid hg
   subst hg
   have hd1 : decide (t < n) = true := by simp; omega
   obtain ⟨⟨yy, hyy⟩, hzf⟩ := hba t htt
   have HBA := Lib.hid hba
   have t0 : (0 : Int) ≤ (t : Int) := by omega
   have t1 : (t : Int) < (n : Int) := by omega
   have t2 : (t : Int) ≤ 100000000 := by have := HNS.out; omega
   clear hba
   go_wp2_with fail
   go_roundw
   case rel => exact ⟨t + 1, by omega, by go_num, fun g2 e2 _ => by cases e2; exact HBA.out.set htt, HOQ.out.trans (Off.of_grown (grown_set _ g t _) (fun k e => by cases e; exact hwg))⟩
   case measure => simp [intOf]; omega
  ·have hd1 : decide (t < n) = false := by simp; omega
   obtain ⟨A7, cap7, hB7, _⟩ := HRB.out wr HOQ.out
   have c4 : wr.cell? ⟨rb, 4, none⟩ = some (.int .i64 (fi : Int)) := by rw [HFI.out]; exact hB7.cell 4
   have f1 : (0 : Int) ≤ (fi : Int) - 1 := by omega
   clear htt hB7 HB
   go_wp2_with fail
   clear c4
   obtain ⟨w3, hw3⟩ : ∃ v, v = wr := ⟨_, rfl⟩
   rw [← hw3] at HOQ ⊢
   clear hw3
   go_loopw [8] (fun kv wq => ∃ zn : Nat, kv = .int .i64 (zn : Int) ∧ fi ≤ zn + 1 ∧ zn ≤ nx + 1 ∧ Off (fun b => w.heap.size ≤ b) w wq) (fun kv _ => nx + 2 - (intOf kv).toNat)
   case atStart => exact ⟨fi - 1, by congr 1; omega, by omega, by have := HNXX.out; have := HFI.out; omega, HOQ.out⟩
   case round =>
    obtain ⟨zn, rfl, hz1, hz2, hoz⟩ := hrel
    have HOZ := Lib.hid hoz
    have HZ1 := Lib.hid hz1
    have HZ2 := Lib.hid hz2
    clear hoz hz1 hz2
    go_wp2_with fail
    have hnn := rnext_at (HLATE.out wr HOZ.out).rj HNX.out
    rw [← HNXX.out] at hnn
    refine hnn.mono ?_
    rintro e w4 ⟨rfl, k4, hw4⟩
    have HO4 : Hid (Off (fun b => w.heap.size ≤ b) w w4) := by rw [hw4]; exact HOZ.out.trans ((drewN_off wr k4).mono (fun _ _ q => q.elim))
    clear hw4 hnn
    have HNXT : Hid (∀ v, Off (fun b => w.heap.size ≤ b) w v → Calls Tryz.prog 70 #[.pointer (some ⟨rb, 0, none⟩)] v fun e w' => e = .returned (.int .i64 (nx : Int)) ∧ Off (fun b => w.heap.size ≤ b) w w' ∧ ∃ k, w' = v.drewN k) := fun v hv => by
     have := rnext_at (HLATE.out v hv).rj HNX.out
     rw [← HNXX.out] at this
     exact this.mono fun e w' ⟨h1, k, h2⟩ => ⟨h1, by rw [h2]; exact hv.trans ((drewN_off v k).mono (fun _ _ q => q.elim)), k, h2⟩
    by_cases hle : zn ≤ nx
    case neg =>
     have d1 : decide (zn ≤ nx) = false := by simp; omega
     clear hle
     go_wp2_with fail
     go_ret
     exact ⟨rfl, HO4.out.mono (fun k hk h => by omega)⟩
    have d1 : decide (zn ≤ nx) = true := by simp; omega
    have z1 : (zn : Int) ≤ 1000000000 := by omega
    have HZI : Hid (wrap64 ((zn : Int) + 1) = ((zn + 1 : Nat) : Int)) := by show _ = _; unfold wrap64; omega
    have hcn : ∀ w : World, (convert 28 9 (.slice none 0 0)).run Tryz.prog w = .ok (.string ⟨#[]⟩) w := fun w => run_convert_bytes_nil (P := Tryz.prog) w 28 5 Tryz.underlying28 Tryz.underlying5 0 0 _ Tryz.underlying9
    by_cases hlo : zn < fi
    ·have g1 : decide (fi ≤ zn) = false := by simp; omega
     have HLO := Lib.hid hlo
     clear hle hlo
     go_wp2_with fail
     clear d1
     refine (record_none_e S jb d J zn w4 (HLATE.out w4 HO4.out).jnl (.inl (by have h1 := HLO.out; have h2 := HFI.out; omega)) HNX.out).mono ?_
     rintro e w5 ⟨rfl, k5, hw5⟩
     have HO5 : Hid (Off (fun b => w.heap.size ≤ b) w w5) := by rw [hw5]; exact HO4.out.trans ((drewN_off w4 k5).mono (fun _ _ q => q.elim))
     clear hw5
     obtain ⟨A7, cap7, hB7, _⟩ := HRB.out w5 HO5.out
     have c4 : w5.cell? ⟨rb, 4, none⟩ = some (.int .i64 (fi : Int)) := by rw [HFI.out]; exact hB7.cell 4
     clear hB7
     go_wp2_with fail
     refine wp_loop_rounds 1 ?_
     rw [rounds_succ]
     go_wp2_with fail
     go_roundw
     case rel => exact ⟨zn + 1, by (first | rfl | rw [HZI.out] | go_num), by have := HZ1.out; omega, by have := HLO.out; have h2 := HNXX.out; have := HFI.out; omega, HO5.out⟩
     case measure => simp only [intOf]; (first | rw [HZI.out] | skip); have := HZ2.out; omega
    ·have g1 : decide (fi ≤ zn) = true := by simp; omega
     by_cases hhi : zn < nx
     ·have g2 : decide (zn < nx) = true := by simp; omega
      have HHI := Lib.hid hhi
      have HLO : Hid (fi ≤ zn) := by show _ ≤ _; omega
      obtain ⟨i, hi⟩ : ∃ i, zn = fi + i := ⟨zn - fi, by omega⟩
      have HI := Lib.hid hi
      have hil : i < J.recs.length := by have := HNXX.out; have := HFI.out; omega
      have hget : J.recs[i]? = some (J.recs[i]'hil) := List.getElem?_eq_getElem hil
      obtain ⟨l, hl⟩ : ∃ l, l = J.recs[i]'hil := ⟨_, rfl⟩
      rw [← hl] at hget
      have HGET := Lib.hid hget
      have hlm : l ∈ J.recs := List.mem_of_getElem? hget
      have HLL : Hid (l.length ≤ 1048576) := HJ.out.recs l hlm
      have HIL := Lib.hid hil
      clear hle hlo hhi hi hl hget hlm hil
      go_wp2_with fail
      clear d1
      have hrec := record_e S jb d J i l w4 (HLATE.out w4 HO4.out).jnl HGET.out (by have := HLL.out; omega) HNX.out
      rw [← HFI.out, ← HI.out] at hrec
      refine hrec.mono ?_
      rintro e w5 ⟨v5, rfl, hr5, hb5⟩
      clear hrec
      have HO5 : Hid (Off (fun b => w.heap.size ≤ b) w w5) := HO4.out.trans ⟨hb5.os, hb5.tape, hb5.output, hb5.size, fun k hk _ => hb5.block k hk⟩
      have HR5 : Hid (BRow w5 w.heap.size v5 l) := brow_less hr5 HO4.out.size
      obtain ⟨A5, cap5, hv5, hc51, hc52, _, _⟩ := brow_arg hr5
      subst hv5
      clear hr5 hb5
      obtain ⟨A7, cap7, hB7, hS7⟩ := HRB.out w5 HO5.out
      have c4 : w5.cell? ⟨rb, 4, none⟩ = some (.int .i64 (fi : Int)) := by rw [HFI.out]; exact hB7.cell 4
      clear hB7 hS7
      go_upto_region 15 with ((refine (HNXT.out _ HO5.out).mono ?_; rintro e w6 ⟨rfl, ho6, k6, hk6⟩; have HO6 := Lib.hid ho6; have HK6 : Hid (w6 = w5.drewN k6) := hk6; clear ho6 hk6))
      have HK6b := HK6
      obtain ⟨A7, cap7, hB7, hS7⟩ := HRB.out w6 HO6.out
      obtain ⟨A8, cap8, hv8, hc8, hget8⟩ := str_slice hS7
      rw [recV_length] at hv8 hc8
      cases hv8
      obtain ⟨gL, hgL, hcL⟩ := hget8 i (strV l) (by simp [recV, HGET.out])
      subst hgL
      obtain ⟨rl, hrl⟩ : ∃ x, x = J.recs.length := ⟨_, rfl⟩
      have hil2 : i < rl := by rw [hrl]; exact HIL.out
      have c46 : w6.cell? ⟨rb, 4, none⟩ = some (.int .i64 (fi : Int)) := by rw [HFI.out]; exact hB7.cell 4
      have c66 : w6.cell? ⟨rb, 6, none⟩ = some (.slice (some ⟨gL, 0, none⟩) rl cap7) := by rw [hrl]; exact hB7.cell 6
      have hs1 : IntKind.i64.wrap ((zn : Int) - (fi : Int)) = (i : Int) := by have := HI.out; rw [IntKind.wrap_i64]; omega
      have i0 : (0 : Int) ≤ (i : Int) := by omega
      have i1 : (i : Int) < (rl : Int) := by omega
      have HC46 := Lib.hid c46
      clear hB7 hS7 hc8 hget8 c4 hrl
      go_quiet (fail)
      clear c66 hcL hs1 i0 i1 hil2 c46
      have HO6n : Hid (Off (fun b => w.heap.size ≤ b) w (w6.drewN nq)) := HO6.out.trans ((drewN_off w6 nq).mono (fun _ _ q => q.elim))
      have c4n : (w6.drewN nq).cell? ⟨rb, 4, none⟩ = some (.int .i64 (fi : Int)) := HC46.out
      obtain ⟨w6n, hw6n⟩ : ∃ v, v = w6.drewN nq := ⟨_, rfl⟩
      have HR6 : Hid (BRow w6n w.heap.size (.slice A5 l.length cap5) l) := by rw [hw6n, HK6b.out]; exact Sec.row_off (Sec.row_off HR5.out (drewN_off w5 k6) (fun _ _ q => q)) (drewN_off _ nq) (fun _ _ q => q)
      rw [← hw6n] at HO6n c4n ⊢
      clear hw6n
      go_wp2_with fail
      refine (HNXT.out w6n HO6n.out).mono ?_
      rintro e w7 ⟨rfl, ho7, k7, hk7⟩
      have HO7 := Lib.hid ho7
      have HR7 : Hid (BRow w7 w.heap.size (.slice A5 l.length cap5) l) := by rw [hk7]; exact Sec.row_off HR6.out (drewN_off w6n k7) (fun _ _ q => q)
      have hcv7 := run_str HR7.out
      have heq7 : ((bs l).toList == (bs l).toList) = true := by simp
      clear ho7 hk7 c4n
      go_upto_region 18 with fail
      clear hcv7 heq7
      obtain ⟨n3, hn3⟩ : ∃ n, n = l.length := ⟨_, rfl⟩
      have HN3 : Hid (n3 ≤ 1048576) := by show _ ≤ _; rw [hn3]; exact HLL.out
      have HSH3 : Hid (0 < n3 → ∃ g, A5 = some ⟨g, 0, none⟩ ∧ w.heap.size ≤ g ∧ ByteAt w7 g n3) := fun h0 => by
       obtain ⟨g, cap2, hv2, h5, h6, h7, h8, h9⟩ := HR7.out.some (fun e => by rw [hn3, e] at h0; exact absurd h0 (by decide))
       cases hv2
       exact ⟨g, rfl, h7, by rw [hn3]; exact brow_bytes HR7.out⟩
      have hcn3 : n3 ≤ cap5 := by rw [hn3]; exact hc51
      rw [← hn3]
      clear hc51 hn3
      go_wp2_with fail
      go_loopw [12] (fun tv wq => ∃ t : Nat, t ≤ n3 ∧ tv = .int .i64 (t : Int) ∧ (∀ g, A5 = some ⟨g, 0, none⟩ → 0 < n3 → ByteAt wq g n3) ∧ Off (fun b => w.heap.size ≤ b) w wq) (fun tv _ => n3 - (intOf tv).toNat)
      case atStart => exact ⟨0, Nat.zero_le _, rfl, fun g e h0 => by obtain ⟨g2, e2, _, h⟩ := HSH3.out h0; rw [e] at e2; cases e2; exact h, HO7.out⟩
      case round =>
       obtain ⟨t, ht, rfl, hB, hoq⟩ := hrel
       have HB := Lib.hid hB
       have HOQ := Lib.hid hoq
       clear hB hoq
       by_cases htt : t < n3
       ·obtain ⟨g, hg, hwg, _⟩ := HSH3.out (by omega)
        have hba := HB.out g hg (by omega)
        subst hg
        have hd1 : decide (t < n3) = true := by simp; omega
        obtain ⟨⟨yy, hyy⟩, hzf⟩ := hba t htt
        have HBA := Lib.hid hba
        have t0 : (0 : Int) ≤ (t : Int) := by omega
        have t1 : (t : Int) < (n3 : Int) := by omega
        have t2 : (t : Int) ≤ 100000000 := by have := HN3.out; omega
        clear hba
        go_wp2_with fail
        go_roundw
        case rel => exact ⟨t + 1, by omega, by go_num, fun g2 e2 _ => by cases e2; exact HBA.out.set htt, HOQ.out.trans (Off.of_grown (grown_set _ g t _) (fun k e => by cases e; exact hwg))⟩
        case measure => simp [intOf]; omega
       ·have hd1 : decide (t < n3) = false := by simp; omega
        clear htt HB
        go_wp2_with fail
        go_roundw
        case rel => exact ⟨zn + 1, by (first | rfl | rw [HZI.out] | go_num), by have := HZ1.out; omega, by have := HHI.out; omega, HOQ.out⟩
        case measure => simp only [intOf]; (first | rw [HZI.out] | skip); have := HZ2.out; omega
     ·have g2 : decide (zn < nx) = false := by simp; omega
      have HHI : Hid (zn = nx) := by show _ = _; omega
      clear hle hlo hhi
      go_wp2_with fail
      clear d1
      refine (record_none_e S jb d J zn w4 (HLATE.out w4 HO4.out).jnl (.inr (by have h1 := HHI.out; have h2 := HNXX.out; omega)) HNX.out).mono ?_
      rintro e w5 ⟨rfl, k5, hw5⟩
      have HO5 : Hid (Off (fun b => w.heap.size ≤ b) w w5) := by rw [hw5]; exact HO4.out.trans ((drewN_off w4 k5).mono (fun _ _ q => q.elim))
      clear hw5
      obtain ⟨A7, cap7, hB7, _⟩ := HRB.out w5 HO5.out
      have c4 : w5.cell? ⟨rb, 4, none⟩ = some (.int .i64 (fi : Int)) := by rw [HFI.out]; exact hB7.cell 4
      clear hB7
      go_wp2_with fail
      refine (HNXT.out w5 HO5.out).mono ?_
      rintro e w6 ⟨rfl, ho6, k6, hk6⟩
      have HO6 := Lib.hid ho6
      have c6 : w6.cell? ⟨rb, 4, none⟩ = some (.int .i64 (fi : Int)) := by rw [hk6]; exact c4
      clear ho6 hk6 c4
      go_wp2_with fail
      refine (HNXT.out w6 HO6.out).mono ?_
      rintro e w7 ⟨rfl, ho7, k7, hk7⟩
      have HO7 := Lib.hid ho7
      clear ho7 hk7 c6
      go_wp2_with fail
      refine wp_loop_rounds 1 ?_
      rw [rounds_succ]
      go_wp2_with fail
      go_roundw
      case rel => exact ⟨zn + 1, by (first | rfl | rw [HZI.out] | go_num), by have := HZ1.out; omega, by have := HHI.out; omega, HO7.out⟩
      case measure => simp only [intOf]; (first | rw [HZI.out] | skip); have := HZ2.out; omega
theorem open_spoilt {P0 P1 : Option Jn → Prop} (R : Option Jn) (Sd : Nat → Prop) (d : Nat) (D : Dsk) (w : World) (h : DiskAt w Sd d D) (hlt : ∀ b, Sd b → b < w.heap.size) (ho : D.off = false) (h4 : 4 ≤ D.n) (k0 : AreaOk D 0 P0) (k1 : AreaOk D 1 P1)
  (hR : ∀ r, Pre P0 P1 2 r → r = R) (hRn : R = none) (hfr : ¬ ∀ b, b < 2 → D.now (b * (D.n / 2)) = noughts) :
  Calls Tryz.prog 4 #[.pointer (some ⟨d, 0, none⟩)] w fun e w' => e = .returned (.tuple #[.pointer none, .int .i64 30]) ∧ Off (fun _ => False) w w' := by
 have HD := Lib.hid h
 have HLT := Lib.hid hlt
 have HO := Lib.hid ho
 have HK0 := Lib.hid k0
 have HK1 := Lib.hid k1
 have HR := Lib.hid hR
 have HFR := Lib.hid hfr
 have HN := Lib.hid h4
 have d4 : decide ((D.n : Int) < 4) = false := by simp; omega
 have doff := ho
 clear h hlt ho k0 k1 hR hfr h4
 go_enter Tryz.func4, Tryz.ntmps4
 go_wp2_with fail
 refine (sectors_at Sd d D w HD.out).mono ?_
 rintro e wq ⟨rfl, hwq⟩
 subst hwq
 go_wp2_with fail
 refine (off_at Sd d D w HD.out).mono ?_
 rintro e wq ⟨rfl, hwq⟩
 subst hwq
 rw [doff]
 clear doff d4
 go_wp2_with fail
 go_loopw [4, 5, 18] (fun jv fv kv wr => ∃ (k : Nat) (r : Option Jn) (fr : Bool), kv = .int .i64 (k : Int) ∧ k ≤ 2 ∧ fv = .bool fr ∧ Pre P0 P1 k r ∧ (fr = true → ∀ b, b < k → D.now (b * (D.n / 2)) = noughts) ∧ JPtr w wr d jv r ∧ Off (fun _ => False) w wr) (fun _ _ kv _ => 2 - (intOf kv).toNat)
 case atStart => exact ⟨0, none, true, rfl, by decide, rfl, rfl, fun _ b hb => absurd hb (Nat.not_lt_zero b), rfl, Off.refl _ _⟩
 case round =>
  obtain ⟨k, r, fr, rfl, hk2, rfl, hpre, hfr, hptr, hoff⟩ := hrel
  by_cases hk : k < 2
  ·have d1 : decide ((k : Int) < 2) = true := by simp; omega
   have HK := Lib.hid hk
   have HPRE := Lib.hid hpre
   have HFRB := Lib.hid hfr
   have HPTR := Lib.hid hptr
   have HOFF := Lib.hid hoff
   clear hk2 hpre hfr hptr hoff hk
   go_upto_region 13 with fail
   have hb1 := (MapKept.heap_alloc wr (.cells (JC d ⟨k, 0, 0, 0, 0, [], [], 0⟩ (.slice none 0 0) (.slice none 0 0)) 50)).1
   have hg1 := World.grownBy_alloc wr (.cells (JC d ⟨k, 0, 0, 0, 0, [], [], 0⟩ (.slice none 0 0) (.slice none 0 0)) 50) none
   have hs1 : (wr.alloc (.cells (JC d ⟨k, 0, 0, 0, 0, [], [], 0⟩ (.slice none 0 0) (.slice none 0 0)) 50)).heap.size = wr.heap.size + 1 := World.size_alloc ..
   obtain ⟨w1, hw1⟩ : ∃ w1, w1 = wr.alloc (.cells (JC d ⟨k, 0, 0, 0, 0, [], [], 0⟩ (.slice none 0 0) (.slice none 0 0)) 50) := ⟨_, rfl⟩
   obtain ⟨xb, hxb⟩ : ∃ xb, xb = wr.heap.size := ⟨_, rfl⟩
   rw [← hw1, ← hxb] at hb1 hs1
   rw [← hw1] at hg1
   have e1 : (wr.alloc (Obj.cells #[Value.pointer (some ⟨d, 0, none⟩), .int .i64 (k : Int), .int .i64 0, .int .i64 0, .int .i64 0, .int .i64 0, .slice none 0 0, .slice none 0 0, .int .i64 0, .int .i64 0] 50)) = w1 := hw1.symm
   rw [e1, ← hxb]
   clear e1
   have HB1 : Hid (JBlk w1 xb d ⟨k, 0, 0, 0, 0, [], [], 0⟩ (.slice none 0 0) (.slice none 0 0)) := hb1
   have HG1 := Lib.hid hg1
   have HWK : Hid (wrap64 ((k : Int) + 1) = ((k + 1 : Nat) : Int)) := by show _ = _; have := HK.out; unfold wrap64; omega
   have HXB : Hid (w.heap.size ≤ xb ∧ wr.heap.size ≤ xb) := by
    have h1 := HOFF.out.size
    exact ⟨by omega, by omega⟩
   have HD1 : Hid (DiskAt w1 Sd d D) := (HD.out.off HOFF.out (fun _ _ _ h => h)).grown HG1.out
   clear hb1 hg1 hs1 hw1 hxb
   -- what is left of the round, behind the flag
   cases fr with
   | true =>
    go_wp2_with fail
    refine (sector_at Sd d D xb _ _ _ 0 w1 HD1.out HB1.out (sec_lt HK.out HN.out) HO.out).mono ?_
    rintro e w2 ⟨gb, rfl, hgb, hgb2, hrb, hg2⟩
    have hrb' : w2.rangeAt gb 0 (u8s (D.now (k * (D.n / 2)))) := hrb
    have HG2 := Lib.hid hg2
    have HGB := Lib.hid (And.intro hgb hgb2)
    clear hrb hg2 hgb hgb2
    go_wp2_with fail
    have hz : (w2.alloc (.cells #[.int .u8 0] 5)).cell? ⟨w2.heap.size, 0, none⟩ = some (.int .u8 0) := cell_blk (MapKept.heap_alloc w2 _).1 0
    have hg2b := World.grownBy_alloc w2 (.cells #[.int .u8 0] 5) none
    obtain ⟨w2b, hw2b⟩ : ∃ w2b, w2b = w2.alloc (.cells #[.int .u8 0] 5) := ⟨_, rfl⟩
    obtain ⟨zb, hzb⟩ : ∃ zb, zb = w2.heap.size := ⟨_, rfl⟩
    rw [← hw2b, ← hzb] at hz
    rw [← hw2b] at hg2b ⊢
    rw [← hzb]
    have HG3 : Hid (w1.grownBy w2b none) := HG2.out.andThen hg2b (fun _ h => .inr h)
    have HLN : Hid ((D.now (k * (D.n / 2))).length = 128) := area_len HK.out HK0.out HK1.out
    refine (count_zeros gb zb 128 128 1 (D.now (k * (D.n / 2))) w2b HLN.out (rangeAt_grown hrb' hg2b) hz).mono ?_
    rintro e wq ⟨rfl, hwq⟩
    have hwq := hwq.symm
    subst hwq
    have hcf := count_full2 _ HLN.out
    obtain ⟨f2, hf2⟩ : ∃ f2, f2 = decide (D.now (k * (D.n / 2)) = noughts) := ⟨_, rfl⟩
    rw [← hf2] at hcf
    have HF2 := Lib.hid hf2
    obtain ⟨cn, hcn⟩ : ∃ cn, cn = (D.now (k * (D.n / 2))).count 0 := ⟨_, rfl⟩
    rw [← hcn] at hcf
    rw [← hcn]
    have HCF := Lib.hid hcf
    clear hcf hrb' hz hg2b hw2b hzb hf2 hcn
    have HF : Hid ((((cn : Nat) : Int) == 128) = true → ∀ b, b < k + 1 → D.now (b * (D.n / 2)) = noughts) := fun h b hb => by
     rw [HCF.out, HF2.out] at h
     by_cases e : b = k
     ·rw [e]; exact of_decide_eq_true h
     ·exact HFRB.out (by trivial) b (by omega)
    have HD3 : Hid (DiskAt w2b Sd d D) := HD1.out.grown HG3.out
    have HB3 : Hid (JBlk w2b xb d ⟨k, 0, 0, 0, 0, [], [], 0⟩ (.slice none 0 0) (.slice none 0 0)) := HB1.out.grown HG3.out
    have HP3 : Hid (JPtr w w2b d u4 r) := (HPTR.out.off (Off.of_grown HG1.out (S := fun _ => False) (by simp)) (fun _ _ h => h)).off (Off.of_grown HG3.out (S := fun _ => False) (by simp)) (fun _ _ h => h)
    have HO3 : Hid (Off (fun _ => False) w w2b) := (HOFF.out.trans (Off.of_grown HG1.out (by simp))).trans (Off.of_grown HG3.out (by simp))
    have HX3 : Hid (xb < w2b.heap.size) := HB3.out.lt
    have HPX : Hid (∀ w4, Off (fun b => b = xb) w2b w4 → JPtr w w4 d u4 r) := fun w4 ho => HPTR.out.off (((Off.of_grown HG1.out (by simp) : Off (fun b => b = xb) wr w1).trans (Off.of_grown HG3.out (by simp))).trans ho) (fun b hb e => by have := HXB.out.2; omega)
    clear HPTR
    go_upto_region 14 with fail
    refine wp_region_noPanic ?_
    refine wp_region_held_drew (S := fun _ => True) (by kernel_rfl) ?hSw2ba (fun hHeld => ?_)
    case hSw2ba => trivial
    refine ztk 0 rfl ?_
    refine zrd 1 rfl (fun K hK => ?_)
    go_simp
    refine (load_area (P := if k = 0 then P0 else P1) Sd d D xb k w2b.drew (HD3.out.grown ⟨rfl, rfl, rfl, Nat.le_refl _, fun _ _ _ => rfl⟩) (fun b hb => Nat.lt_of_lt_of_le (HLT.out b hb) HO3.out.size) (fun hb => by have h1 := HLT.out _ hb; have h2 := HXB.out.1; omega) HB3.out HO.out (by have := HK.out; omega) (by have := HN.out; omega) (area_ok HK.out HK0.out HK1.out)).mono ?_
    rintro e w4 ⟨r', hP, rfl, hJ, ho4⟩
    have HPP := Lib.hid hP
    have HJ := Lib.hid hJ
    have HO4 : Hid (Off (fun b => b = xb) w2b w4) := (Off.of_grown (row := none) ⟨rfl, rfl, rfl, Nat.le_refl _, fun _ _ _ => rfl⟩ (by simp) : Off (fun b => b = xb) w2b w2b.drew).trans ho4
    clear hP hJ ho4
    go_wp2_with fail
    refine hK.out _ _ ?q (fun hHeld => ?_)
    case q => (try dsimp only); (try trivial)
    clear hK K
    try simp only [zpt]
    have HP4 : Hid (JPtr w w4 d u4 r) := HPX.out w4 HO4.out
    have HOW : Hid (Off (fun _ => False) w w4) := (HO3.out.trans_new HO4.out (fun b hb => hb ▸ HXB.out.1))
    clear HP3
    rcases r' with _ | J'
    ·refine ztk 2 rfl ?_
     refine ztu 3 rfl ?_
     refine ztu 4 rfl ?_
     refine ztu 5 rfl ?_
     refine ztu 6 rfl ?_
     refine ztu 7 rfl ?_
     refine ztu 8 rfl ?_
     refine ztu 9 rfl ?_
     refine ztu 10 rfl ?_
     refine ztu 11 rfl ?_
     refine ztu 12 rfl ?_
     refine ztu 13 rfl ?_
     refine ztu 14 rfl ?_
     refine ztu 15 rfl ?_
     refine ztu 16 rfl ?_
     refine ztu 17 rfl ?_
     refine ztk 18 rfl ?_
     refine wpAnyH_done (by kernel_rfl) ?_ _
     refine NoPanic.normal ?_
     clear hHeld
     go_wp2_with fail
     go_roundw
     case rel => exact ⟨k + 1, choose r none, _, (by rw [HWK.out]), by have := HK.out; omega, rfl, Pre.next HK.out HPRE.out HPP.out, HF.out, by rw [choose_none]; exact HP4.out, HOW.out⟩
     case measure => rw [HWK.out]; have := HK.out; simp only [intOf]; omega
    ·rcases r with _ | J
     ·have hn := HP4.out
      subst hn
      refine ztk 2 rfl ?_
      refine ztk 3 rfl ?_
      refine ztk 4 rfl ?_
      refine ztk 5 rfl ?_
      refine ztu 6 rfl ?_
      refine ztu 7 rfl ?_
      refine ztu 8 rfl ?_
      refine ztu 9 rfl ?_
      refine ztu 10 rfl ?_
      refine ztu 11 rfl ?_
      refine ztu 12 rfl ?_
      refine ztu 13 rfl ?_
      refine ztu 14 rfl ?_
      refine ztu 15 rfl ?_
      refine ztu 16 rfl ?_
      refine ztk 17 rfl ?_
      refine ztk 18 rfl ?_
      refine wpAnyH_done (by kernel_rfl) ?_ _
      refine NoPanic.normal ?_
      clear hHeld
      go_wp2_with fail
      go_roundw
      case rel => exact ⟨k + 1, choose none (some J'), _, (by rw [HWK.out]), by have := HK.out; omega, rfl, Pre.next HK.out HPRE.out HPP.out, HF.out, new_ptr HJ.out HK.out HXB.out.1 HO3.out.size HX3.out HO4.out.size rfl, HOW.out⟩
      case measure => rw [HWK.out]; have := HK.out; simp only [intOf]; omega
     ·obtain ⟨jb, hjb, hjw, hja, svj, rvj, vsj, hjj⟩ := HP4.out
      subst hjb
      obtain ⟨svx, rvx, vsx, hxx⟩ := (HJ.out J' rfl).2
      have cx : w4.cell? ⟨xb, 2, none⟩ = some (.int .i64 (J'.gen : Int)) := hxx.blk.cell 2
      have cj : w4.cell? ⟨jb, 2, none⟩ = some (.int .i64 (J.gen : Int)) := hjj.blk.cell 2
      clear hxx hjj
      refine ztk 2 rfl ?_
      refine ztk 3 rfl ?_
      refine ztk 4 rfl ?_
      refine ztk 5 rfl ?_
      refine ztk 6 rfl ?_
      refine ztk 7 rfl ?_
      refine ztk 8 rfl ?_
      refine ztk 9 rfl ?_
      refine ztk 11 rfl ?_
      refine ztk 12 rfl ?_
      refine ztk 13 rfl ?_
      refine ztk 14 rfl ?_
      refine zrd2 10 15 rfl rfl (fun K hK => ?_) (fun K hK => ?_)
      go_simp
      refine hK.out _ _ ?q (fun hHeld => ?_)
      case q => (try dsimp only); (try trivial)
      clear hK K
      try simp only [zpt]
      refine zrd 15 rfl (fun K hK => ?_)
      rotate_left
      go_simp
      refine hK.out _ _ ?q (fun hHeld => ?_)
      case q => (try dsimp only); (try trivial)
      clear hK K
      try simp only [zpt]
      refine zrd 10 rfl (fun K hK => ?_)
      rotate_left
      all_goals
       go_simp
       refine hK.out _ _ ?q (fun hHeld => ?_)
       case q => (try dsimp only); (try trivial)
       clear hK K
       try simp only [zpt]
       refine ztk 16 rfl ?_
       refine ztk 17 rfl ?_
       refine ztk 18 rfl ?_
       refine wpAnyH_done (by kernel_rfl) ?_ _
       refine NoPanic.normal ?_
       clear hHeld
       by_cases hgt : J.gen < J'.gen
       ·have dg : decide ((J.gen : Int) < (J'.gen : Int)) = true := by simp; omega
        go_wp2_with fail
        go_roundw
        case rel => exact ⟨k + 1, choose (some J) (some J'), _, (by rw [HWK.out]), by have := HK.out; omega, rfl, Pre.next HK.out HPRE.out HPP.out, HF.out, by rw [show choose (some J) (some J') = some J' from if_pos hgt]; exact new_ptr HJ.out HK.out HXB.out.1 HO3.out.size HX3.out HO4.out.size rfl, HOW.out⟩
        case measure => rw [HWK.out]; have := HK.out; simp only [intOf]; omega
       ·have dg : decide ((J.gen : Int) < (J'.gen : Int)) = false := by simp; omega
        go_wp2_with fail
        go_roundw
        case rel => exact ⟨k + 1, choose (some J) (some J'), _, (by rw [HWK.out]), by have := HK.out; omega, rfl, Pre.next HK.out HPRE.out HPP.out, HF.out, by rw [show choose (some J) (some J') = some J from if_neg hgt]; exact HP4.out, HOW.out⟩
        case measure => rw [HWK.out]; have := HK.out; simp only [intOf]; omega
   | false =>
    have HF : Hid (false = true → ∀ b, b < k + 1 → D.now (b * (D.n / 2)) = noughts) := fun h => Bool.noConfusion h
    have HP3 : Hid (JPtr w w1 d u4 r) := HPTR.out.off (Off.of_grown HG1.out (S := fun _ => False) (by simp)) (fun _ _ h => h)
    have HO3 : Hid (Off (fun _ => False) w w1) := HOFF.out.trans (Off.of_grown HG1.out (by simp))
    have HX3 : Hid (xb < w1.heap.size) := HB1.out.lt
    have HD3 := HD1
    have HB3 := HB1
    have HPX : Hid (∀ w4, Off (fun b => b = xb) w1 w4 → JPtr w w4 d u4 r) := fun w4 ho => HPTR.out.off (((Off.of_grown HG1.out (by simp) : Off (fun b => b = xb) wr w1)).trans ho) (fun b hb e => by have := HXB.out.2; omega)
    clear HPTR
    go_upto_region 14 with fail
    refine wp_region_noPanic ?_
    refine wp_region_held_drew (S := fun _ => True) (by kernel_rfl) ?hSw1a (fun hHeld => ?_)
    case hSw1a => trivial
    refine ztk 0 rfl ?_
    refine zrd 1 rfl (fun K hK => ?_)
    go_simp
    refine (load_area (P := if k = 0 then P0 else P1) Sd d D xb k w1.drew (HD3.out.grown ⟨rfl, rfl, rfl, Nat.le_refl _, fun _ _ _ => rfl⟩) (fun b hb => Nat.lt_of_lt_of_le (HLT.out b hb) HO3.out.size) (fun hb => by have h1 := HLT.out _ hb; have h2 := HXB.out.1; omega) HB3.out HO.out (by have := HK.out; omega) (by have := HN.out; omega) (area_ok HK.out HK0.out HK1.out)).mono ?_
    rintro e w4 ⟨r', hP, rfl, hJ, ho4⟩
    have HPP := Lib.hid hP
    have HJ := Lib.hid hJ
    have HO4 : Hid (Off (fun b => b = xb) w1 w4) := (Off.of_grown (row := none) ⟨rfl, rfl, rfl, Nat.le_refl _, fun _ _ _ => rfl⟩ (by simp) : Off (fun b => b = xb) w1 w1.drew).trans ho4
    clear hP hJ ho4
    go_wp2_with fail
    refine hK.out _ _ ?q (fun hHeld => ?_)
    case q => (try dsimp only); (try trivial)
    clear hK K
    try simp only [zpt]
    have HP4 : Hid (JPtr w w4 d u4 r) := HPX.out w4 HO4.out
    have HOW : Hid (Off (fun _ => False) w w4) := (HO3.out.trans_new HO4.out (fun b hb => hb ▸ HXB.out.1))
    clear HP3
    rcases r' with _ | J'
    ·refine ztk 2 rfl ?_
     refine ztu 3 rfl ?_
     refine ztu 4 rfl ?_
     refine ztu 5 rfl ?_
     refine ztu 6 rfl ?_
     refine ztu 7 rfl ?_
     refine ztu 8 rfl ?_
     refine ztu 9 rfl ?_
     refine ztu 10 rfl ?_
     refine ztu 11 rfl ?_
     refine ztu 12 rfl ?_
     refine ztu 13 rfl ?_
     refine ztu 14 rfl ?_
     refine ztu 15 rfl ?_
     refine ztu 16 rfl ?_
     refine ztu 17 rfl ?_
     refine ztk 18 rfl ?_
     refine wpAnyH_done (by kernel_rfl) ?_ _
     refine NoPanic.normal ?_
     clear hHeld
     go_wp2_with fail
     go_roundw
     case rel => exact ⟨k + 1, choose r none, _, (by rw [HWK.out]), by have := HK.out; omega, rfl, Pre.next HK.out HPRE.out HPP.out, HF.out, by rw [choose_none]; exact HP4.out, HOW.out⟩
     case measure => rw [HWK.out]; have := HK.out; simp only [intOf]; omega
    ·rcases r with _ | J
     ·have hn := HP4.out
      subst hn
      refine ztk 2 rfl ?_
      refine ztk 3 rfl ?_
      refine ztk 4 rfl ?_
      refine ztk 5 rfl ?_
      refine ztu 6 rfl ?_
      refine ztu 7 rfl ?_
      refine ztu 8 rfl ?_
      refine ztu 9 rfl ?_
      refine ztu 10 rfl ?_
      refine ztu 11 rfl ?_
      refine ztu 12 rfl ?_
      refine ztu 13 rfl ?_
      refine ztu 14 rfl ?_
      refine ztu 15 rfl ?_
      refine ztu 16 rfl ?_
      refine ztk 17 rfl ?_
      refine ztk 18 rfl ?_
      refine wpAnyH_done (by kernel_rfl) ?_ _
      refine NoPanic.normal ?_
      clear hHeld
      go_wp2_with fail
      go_roundw
      case rel => exact ⟨k + 1, choose none (some J'), _, (by rw [HWK.out]), by have := HK.out; omega, rfl, Pre.next HK.out HPRE.out HPP.out, HF.out, new_ptr HJ.out HK.out HXB.out.1 HO3.out.size HX3.out HO4.out.size rfl, HOW.out⟩
      case measure => rw [HWK.out]; have := HK.out; simp only [intOf]; omega
     ·obtain ⟨jb, hjb, hjw, hja, svj, rvj, vsj, hjj⟩ := HP4.out
      subst hjb
      obtain ⟨svx, rvx, vsx, hxx⟩ := (HJ.out J' rfl).2
      have cx : w4.cell? ⟨xb, 2, none⟩ = some (.int .i64 (J'.gen : Int)) := hxx.blk.cell 2
      have cj : w4.cell? ⟨jb, 2, none⟩ = some (.int .i64 (J.gen : Int)) := hjj.blk.cell 2
      clear hxx hjj
      refine ztk 2 rfl ?_
      refine ztk 3 rfl ?_
      refine ztk 4 rfl ?_
      refine ztk 5 rfl ?_
      refine ztk 6 rfl ?_
      refine ztk 7 rfl ?_
      refine ztk 8 rfl ?_
      refine ztk 9 rfl ?_
      refine ztk 11 rfl ?_
      refine ztk 12 rfl ?_
      refine ztk 13 rfl ?_
      refine ztk 14 rfl ?_
      refine zrd2 10 15 rfl rfl (fun K hK => ?_) (fun K hK => ?_)
      go_simp
      refine hK.out _ _ ?q (fun hHeld => ?_)
      case q => (try dsimp only); (try trivial)
      clear hK K
      try simp only [zpt]
      refine zrd 15 rfl (fun K hK => ?_)
      rotate_left
      go_simp
      refine hK.out _ _ ?q (fun hHeld => ?_)
      case q => (try dsimp only); (try trivial)
      clear hK K
      try simp only [zpt]
      refine zrd 10 rfl (fun K hK => ?_)
      rotate_left
      all_goals
       go_simp
       refine hK.out _ _ ?q (fun hHeld => ?_)
       case q => (try dsimp only); (try trivial)
       clear hK K
       try simp only [zpt]
       refine ztk 16 rfl ?_
       refine ztk 17 rfl ?_
       refine ztk 18 rfl ?_
       refine wpAnyH_done (by kernel_rfl) ?_ _
       refine NoPanic.normal ?_
       clear hHeld
       by_cases hgt : J.gen < J'.gen
       ·have dg : decide ((J.gen : Int) < (J'.gen : Int)) = true := by simp; omega
        go_wp2_with fail
        go_roundw
        case rel => exact ⟨k + 1, choose (some J) (some J'), _, (by rw [HWK.out]), by have := HK.out; omega, rfl, Pre.next HK.out HPRE.out HPP.out, HF.out, by rw [show choose (some J) (some J') = some J' from if_pos hgt]; exact new_ptr HJ.out HK.out HXB.out.1 HO3.out.size HX3.out HO4.out.size rfl, HOW.out⟩
        case measure => rw [HWK.out]; have := HK.out; simp only [intOf]; omega
       ·have dg : decide ((J.gen : Int) < (J'.gen : Int)) = false := by simp; omega
        go_wp2_with fail
        go_roundw
        case rel => exact ⟨k + 1, choose (some J) (some J'), _, (by rw [HWK.out]), by have := HK.out; omega, rfl, Pre.next HK.out HPRE.out HPP.out, HF.out, by rw [show choose (some J) (some J') = some J from if_neg hgt]; exact HP4.out, HOW.out⟩
        case measure => rw [HWK.out]; have := HK.out; simp only [intOf]; omega
  ·have hk3 : k = 2 := by omega
   subst hk3
   have e0 := HR.out r hpre
   subst e0
   have HOFF := Lib.hid hoff
   have HW : Hid (∀ b, Sd b → b < wr.heap.size) := fun b hb => Nat.lt_of_lt_of_le (HLT.out b hb) HOFF.out.size
   have HDR : Hid (DiskAt wr Sd d D) := HD.out.off HOFF.out (fun _ _ _ h => h)
   clear hk2 hk hpre hoff
   subst hRn
   have hn := hptr
   subst hn
   cases fr with
   | true => exact absurd (hfr rfl) HFR.out
   | false =>
    clear hfr
    go_wp2_with fail
    go_ret2
    exact ⟨rfl, HOFF.out⟩
theorem open_nil (w : World) : Calls Tryz.prog 4 #[.pointer none] w fun e w' => e = .returned (.tuple #[.pointer none, .int .i64 1]) ∧ w = w' := by
 go_enter Tryz.func4, Tryz.ntmps4
 go_wp2_with fail
 go_ret2
 exact ⟨rfl, rfl⟩
theorem open_small (Sd : Nat → Prop) (d : Nat) (D : Dsk) (w : World) (h : DiskAt w Sd d D) (h4 : D.n < 4) : Calls Tryz.prog 4 #[.pointer (some ⟨d, 0, none⟩)] w fun e w' => e = .returned (.tuple #[.pointer none, .int .i64 2]) ∧ w = w' := by
 have HD := Lib.hid h
 have d4 : decide ((D.n : Int) < 4) = true := by simp; omega
 clear h h4
 go_enter Tryz.func4, Tryz.ntmps4
 go_wp2_with fail
 refine (sectors_at Sd d D w HD.out).mono ?_
 rintro e wq ⟨rfl, hwq⟩
 subst hwq
 go_wp2_with fail
 go_ret2
 exact ⟨rfl, rfl⟩
theorem open_off (Sd : Nat → Prop) (d : Nat) (D : Dsk) (w : World) (h : DiskAt w Sd d D) (h4 : 4 ≤ D.n) (ho : D.off = true) : Calls Tryz.prog 4 #[.pointer (some ⟨d, 0, none⟩)] w fun e w' => e = .returned (.tuple #[.pointer none, .int .i64 20]) ∧ w = w' := by
 have HD := Lib.hid h
 have d4 : decide ((D.n : Int) < 4) = false := by simp; omega
 have HO := Lib.hid ho
 clear h h4 ho
 go_enter Tryz.func4, Tryz.ntmps4
 go_wp2_with fail
 refine (sectors_at Sd d D w HD.out).mono ?_
 rintro e wq ⟨rfl, hwq⟩
 subst hwq
 go_wp2_with fail
 refine (off_at Sd d D w HD.out).mono ?_
 rintro e wq ⟨rfl, hwq⟩
 subst hwq
 rw [HO.out]
 go_wp2_with fail
 go_ret2
 exact ⟨rfl, rfl⟩
theorem full_push {D : Dsk} (h : Full D) (i : Nat) (l : List UInt8) : Full (D.push i l) := by
 show upd D.now i l = behind D.base (D.wr ++ [(i, l)])
 rw [behind_snoc, ← h]
def HeadPl (K : Nat) (b : List UInt8) : Prop := (∃ g o f s, b = headB g o f s ∧ (1 ≤ g ∧ g ≤ K) ∧ (1 ≤ o ∧ o ≤ K) ∧ (1 ≤ f ∧ f ≤ K) ∧ s ≤ 1048576) ∨ ∃ g o f s, NoHd b g o f s
theorem HeadPl.mono {K K' : Nat} {b : List UInt8} (h : HeadPl K b) (hK : K ≤ K') : HeadPl K' b := h.imp (fun ⟨g, o, f, s, e, h1, h2, h3, h4⟩ => ⟨g, o, f, s, e, ⟨h1.1, by omega⟩, ⟨h2.1, by omega⟩, ⟨h3.1, by omega⟩, h4⟩) id
theorem HeadPl.len {K : Nat} {b : List UInt8} (h : HeadPl K b) : b.length = 128 := by
 rcases h with ⟨g, o, f, s, rfl, _⟩ | ⟨g, o, f, s, h⟩
 ·exact headB_length ..
 ·exact h.len
theorem NoHd.nohead {b : List UInt8} {g o f n : Nat} (h : NoHd b g o f n) : NoHead b := by
 have e8 : (256 : Nat) ^ 8 = 18446744073709551616 := rfl
 have e4 : (256 : Nat) ^ 4 = 4294967296 := rfl
 refine ⟨g, o, f, n, ⟨h.len, ⟨h.p0, by have := h.b0; omega, h.b0⟩, ⟨h.p1, by have := h.b1; omega, h.b1⟩, ⟨h.p2, by have := h.b2; omega, h.b2⟩, ⟨h.p3, by have := h.b3; omega, by have := h.b3; omega⟩⟩, fun q => h.no ⟨q.1, q.2.1, q.2.2.1, q.2.2.2.2⟩⟩
structure PlayD (n K : Nat) (arm : Bool) (D : Dsk) : Prop where
 len : D.n = n
 full : Full D
 h0 : HeadPl K (D.now (0 * (n / 2)))
 h1 : HeadPl K (D.now (1 * (n / 2)))
 t0 : Tame D.now (0 * (n / 2)) (n / 2)
 t1 : Tame D.now (1 * (n / 2)) (n / 2)
 live : arm = false → D.off = false ∧ D.armed = none
structure JK (n K : Nat) (J : Jn) : Prop where
 area : J.area ≤ 1
 used : J.used ≤ n / 2 - 1
 gen : 1 ≤ J.gen ∧ J.gen ≤ K
 op : 1 ≤ J.op ∧ J.op ≤ K
 first : 1 ≤ J.first ∧ J.first + J.recs.length ≤ K
 size : J.size ≤ 1048576
 st : J.st.length = J.size
 recs : ∀ l ∈ J.recs, l.length ≤ 1048576
theorem JK.ok {n K : Nat} {J : Jn} (h : JK n K J) (hK : K ≤ 9000) : JOk n J :=
 ⟨h.area, h.used, by have := h.gen; omega, by have := h.op; omega, ⟨h.first.1, by have := h.first; omega⟩, by have := h.first; omega, h.size, h.st, h.recs⟩
theorem JK.mono {n K K' : Nat} {J : Jn} (h : JK n K J) (hK : K ≤ K') : JK n K' J := ⟨h.area, h.used, ⟨h.gen.1, by have := h.gen; omega⟩, ⟨h.op.1, by have := h.op; omega⟩, ⟨h.first.1, by have := h.first; omega⟩, h.size, h.st, h.recs⟩
section
variable {n K : Nat} {arm : Bool} {D : Dsk} {J : Jn}
theorem PlayD.mono {K' : Nat} (h : PlayD n K arm D) (hK : K ≤ K') : PlayD n K' arm D := ⟨h.len, h.full, h.h0.mono hK, h.h1.mono hK, h.t0, h.t1, h.live⟩
theorem PlayD.head (h : PlayD n K arm D) {a : Nat} (ha : a ≤ 1) : HeadPl K (D.now (a * (n / 2))) := by
 rcases (show a = 0 ∨ a = 1 by omega) with rfl | rfl
 ·exact h.h0
 ·exact h.h1
theorem PlayD.tame (h : PlayD n K arm D) {a : Nat} (ha : a ≤ 1) : Tame D.now (a * (n / 2)) (n / 2) := by
 rcases (show a = 0 ∨ a = 1 by omega) with rfl | rfl
 ·exact h.t0
 ·exact h.t1
theorem PlayD.push_head (h : PlayD n K arm D) (h4 : 4 ≤ n) {a : Nat} {b : List UInt8} (ha : a ≤ 1) (hb : HeadPl K b) : PlayD n K arm (D.push (a * (n / 2)) b) := by
 have hh : ∀ a', a' ≤ 1 → HeadPl K ((D.push (a * (n / 2)) b).now (a' * (n / 2))) := fun a' ha' => by
  rw [push_now]
  split
  ·exact hb
  ·exact h.head ha'
 have ht : ∀ a', a' ≤ 1 → Tame (D.push (a * (n / 2)) b).now (a' * (n / 2)) (n / 2) := fun a' ha' x hx => by
  rw [push_now, if_neg]
  ·exact h.tame ha' x hx
  ·intro e
   have := place (h := n / 2) (y := 1 + x) (z := 0) ha' ha (by omega) (by omega) (by omega)
   omega
 exact ⟨h.len, full_push h.full _ _, hh 0 (by decide), hh 1 (by decide), ht 0 (by decide), ht 1 (by decide), h.live⟩
theorem PlayD.push_room (h : PlayD n K arm D) (h4 : 4 ≤ n) {a x : Nat} {b : List UInt8} (ha : a ≤ 1) (hx : x < n / 2 - 1) (hb : TameB b) : PlayD n K arm (D.push (a * (n / 2) + 1 + x) b) := by
 have hh : ∀ a', a' ≤ 1 → HeadPl K ((D.push (a * (n / 2) + 1 + x) b).now (a' * (n / 2))) := fun a' ha' => by
  rw [push_now, if_neg]
  ·exact h.head ha'
  ·intro e
   have := place (h := n / 2) (y := 0) (z := 1 + x) ha' ha (by omega) (by omega) (by omega)
   omega
 have ht : ∀ a', a' ≤ 1 → Tame (D.push (a * (n / 2) + 1 + x) b).now (a' * (n / 2)) (n / 2) := fun a' ha' y hy => by
  rw [push_now]
  split
  ·exact hb
  ·exact h.tame ha' y hy
 exact ⟨h.len, full_push h.full _ _, hh 0 (by decide), hh 1 (by decide), ht 0 (by decide), ht 1 (by decide), h.live⟩
theorem PlayD.wrote_by (h : PlayD n K arm D) {i : Nat} {b : List UInt8} (hp : ∀ arm (E : Dsk), PlayD n K arm E → PlayD n K arm (E.push i (pad b))) : PlayD n K arm (wrote D (i : Int) b).2 := by
 have hl := h.live
 unfold Sec.wrote
 split
 ·exact h
 ·split
  ·exact h
  ·split
   ·rw [Int.toNat_natCast]
    exact hp arm D h
   ·rename_i e
    refine ⟨h.len, h.full, h.h0, h.h1, h.t0, h.t1, fun q => ?_⟩
    rw [(hl q).2] at e
    cases e
   ·rename_i k e
    rw [Int.toNat_natCast]
    refine hp arm { D with armed := some k } ⟨h.len, h.full, h.h0, h.h1, h.t0, h.t1, fun q => ?_⟩
    rw [(hl q).2] at e
    cases e
theorem PlayD.wrote_head (h : PlayD n K arm D) (h4 : 4 ≤ n) {a : Nat} {b : List UInt8} (ha : a ≤ 1) (hb : HeadPl K b) : PlayD n K arm (wrote D ((a * (n / 2) : Nat) : Int) b).2 :=
 h.wrote_by (fun _ _ hE => by rw [pad_full hb.len]; exact hE.push_head h4 ha hb)
theorem putF_tame {c : UInt8} {s k i : Nat} {l : List UInt8} (hc : c = 67 ∨ c = 82) (hs : s < 9223372036854775808) (hk : k < 9223372036854775808) (hl : l.length ≤ 1048576) (hi : i < parts l.length) : TameB (putF c s k l i) := .inr ⟨_, _, _, _, _, _, part_is hc hs hk hl hi⟩
theorem putF_length (c : UInt8) (s k : Nat) (l : List UInt8) (i : Nat) : (putF c s k l i).length = 128 := partB_length _ _ _ _ _ _ (chunk_le l i)
theorem PlayD.puts (h : PlayD n K arm D) (h4 : 4 ≤ n) {a at0 : Nat} {c : UInt8} {s k : Nat} {l : List UInt8} (ha : a ≤ 1) (hc : c = 67 ∨ c = 82) (hs : s < 9223372036854775808) (hk : k < 9223372036854775808) (hl : l.length ≤ 1048576) : ∀ M, M ≤ parts l.length → at0 + M ≤ n / 2 - 1 → PlayD n K arm (putsE D (a * (n / 2) + (1 + at0)) (putF c s k l) (upto M)).2
 | 0, _, _ => h
 | M + 1, hM, hr => by
  have ih := PlayD.puts h h4 (at0 := at0) ha hc hs hk hl M (by omega) (by omega)
  rw [upto_succ, putsE_snoc]
  unfold putE
  split
  ·refine ih.wrote_by (fun _ E hE => ?_)
   rw [pad_full (putF_length ..), show a * (n / 2) + (1 + at0) + M = a * (n / 2) + 1 + (at0 + M) by omega]
   exact hE.push_room h4 ha (by omega) (putF_tame hc hs hk hl (by omega))
  ·exact ih
theorem DoTo.play {ck : Bool} {br e br' : Nat} {l : List UInt8} {D' : Dsk} {J' : Jn} (h : DoTo ck D J br l e D' J' br') (hD : PlayD n K arm D) (hJ : JK n K J) (h4 : 4 ≤ n) (hK : K ≤ 9000) (hl : l.length ≤ 1048576) : PlayD n (K + 1) arm D' ∧ JK n (K + 1) J' := by
 have hn := hD.len
 cases ck with
 | true =>
  have h2 : CkTo D J br l e D' J' br' := h
  clear h
  have hs : J.gen + 1 < 9223372036854775808 := by have := hJ.gen; omega
  cases h2 with
  | broken h => exact ⟨hD.mono (by omega), hJ.mono (by omega)⟩
  | full h0 h => exact ⟨hD.mono (by omega), hJ.mono (by omega)⟩
  | brk1 x hx D1 h0 h hput =>
   rw [hn] at hput h
   have := hD.puts h4 (a := 1 - J.area) (at0 := 0) (c := 67) (s := J.gen + 1) (k := 0) (l := l) (by omega) (.inl rfl) hs (by decide) hl _ (Nat.le_refl _) (by omega)
   rw [Nat.add_zero, hput] at this
   exact ⟨this.mono (by omega), hJ.mono (by omega)⟩
  | brk2 x hx D1 D2 h0 h hput hseal =>
   rw [hn] at hput h
   have := hD.puts h4 (a := 1 - J.area) (at0 := 0) (c := 67) (s := J.gen + 1) (k := 0) (l := l) (by omega) (.inl rfl) hs (by decide) hl _ (Nat.le_refl _) (by omega)
   rw [Nat.add_zero, hput] at this
   have h1 : PlayD n (K + 1) arm D1 := this.mono (by omega)
   rw [h1.len] at hseal
   have h2 := h1.wrote_head h4 (a := 1 - J.area) (b := headB (J.gen + 1) J.op (J.first + J.recs.length) l.length) (by omega) (.inl ⟨_, _, _, _, rfl, ⟨by omega, by have := hJ.gen; omega⟩, ⟨hJ.op.1, by have := hJ.op; omega⟩, ⟨by have := hJ.first; omega, by have := hJ.first; omega⟩, hl⟩)
   rw [hseal] at h2
   exact ⟨h2, hJ.mono (by omega)⟩
  | yes D1 D2 h0 h hput hseal =>
   rw [hn] at hput h
   have := hD.puts h4 (a := 1 - J.area) (at0 := 0) (c := 67) (s := J.gen + 1) (k := 0) (l := l) (by omega) (.inl rfl) hs (by decide) hl _ (Nat.le_refl _) (by omega)
   rw [Nat.add_zero, hput] at this
   have h1 : PlayD n (K + 1) arm D1 := this.mono (by omega)
   rw [h1.len] at hseal
   have h2 := h1.wrote_head h4 (a := 1 - J.area) (b := headB (J.gen + 1) J.op (J.first + J.recs.length) l.length) (by omega) (.inl ⟨_, _, _, _, rfl, ⟨by omega, by have := hJ.gen; omega⟩, ⟨hJ.op.1, by have := hJ.op; omega⟩, ⟨by have := hJ.first; omega, by have := hJ.first; omega⟩, hl⟩)
   rw [hseal] at h2
   refine ⟨h2, ⟨by show 1 - J.area ≤ 1; omega, h, ⟨by show 1 ≤ J.gen + 1; omega, by show J.gen + 1 ≤ _; have := hJ.gen; omega⟩, ⟨hJ.op.1, by have := hJ.op; exact Nat.le_succ_of_le this.2⟩, ⟨by show 1 ≤ J.first + _; have := hJ.first; omega, by show J.first + J.recs.length + 0 ≤ _; have := hJ.first; omega⟩, hl, rfl, fun l hl => by cases hl⟩⟩
 | false =>
  have h2 : AppTo D J br l e D' J' br' := h
  clear h
  have hs : J.op < 9223372036854775808 := by have := hJ.op; omega
  have hk : J.first + J.recs.length < 9223372036854775808 := by have := hJ.first; omega
  have hu := hJ.used
  cases h2 with
  | broken h => exact ⟨hD.mono (by omega), hJ.mono (by omega)⟩
  | full h0 h => exact ⟨hD.mono (by omega), hJ.mono (by omega)⟩
  | brk x hx D1 h0 h hput =>
   rw [hn] at hput h
   have := hD.puts h4 (a := J.area) (at0 := J.used) (c := 82) (s := J.op) (k := J.first + J.recs.length) (l := l) hJ.area (.inr rfl) hs hk hl _ (Nat.le_refl _) (by omega)
   rw [hput] at this
   exact ⟨this.mono (by omega), hJ.mono (by omega)⟩
  | yes D1 h0 h hput =>
   rw [hn] at hput h
   have := hD.puts h4 (a := J.area) (at0 := J.used) (c := 82) (s := J.op) (k := J.first + J.recs.length) (l := l) hJ.area (.inr rfl) hs hk hl _ (Nat.le_refl _) (by omega)
   rw [hput] at this
   have hj := hJ.mono (K' := K + 1) (by omega)
   refine ⟨this.mono (by omega), ⟨hj.area, by show J.used + parts l.length ≤ _; omega, hj.gen, hj.op, ⟨hj.first.1, by show J.first + (J.recs ++ [l]).length ≤ _; rw [List.length_append]; show J.first + (J.recs.length + 1) ≤ _; have := hJ.first; omega⟩, hj.size, hj.st, fun x hx => ?_⟩⟩
   rcases List.mem_append.1 hx with hx | hx
   ·exact hJ.recs x hx
   ·rw [List.mem_singleton.1 hx]
    exact hl
theorem recs_used {now : Nat → List UInt8} {base half op first used k last u : Nat} {ls : List (List UInt8)} (h : Recs now base half op first used k last ls u) (hu : used ≤ half - 1) : u ≤ half - 1 := by
 induction h with
 | stop h => exact hu
 | step h h1 h2 r ih => exact ih h.room
theorem recs_small {now : Nat → List UInt8} {base half op first used k last u : Nat} {ls : List (List UInt8)} (h : Recs now base half op first used k last ls u) (hh : half ≤ 9000) : ∀ l ∈ ls, l.length ≤ 1048576 := by
 induction h with
 | stop h => intro l hl; cases hl
 | step h h1 h2 r ih =>
  intro l hl
  rcases List.mem_cons.1 hl with hl | hl
  ·rw [hl]
   have h3 := joined_le _ _ (fun j hj => (h.run j hj).len)
   have := h.room
   omega
  ·exact ih l hl
structure Says (n K a : Nat) (D : Dsk) (r : Option Jn) : Prop where
 doc : AreaIs D a r
 prog : AreaOk D a (fun x => x = r)
 num : ∀ J, r = some J → J.area = a ∧ JK n (K + 50) J ∧ J.op ≤ K ∧ Bears D J
theorem PlayD.says (h : PlayD n K arm D) (h4 : 4 ≤ n) (h80 : n ≤ 80) (hK : K ≤ 9000) {a : Nat} (ha : a ≤ 1) : ∃ r, Says n K a D r := by
 have hn := h.len
 have ht := h.tame ha
 rcases h.head ha with ⟨g, o, f, s, e, hg, ho, hf, hs⟩ | ⟨g, o, f, s, hnh⟩
 ·have hc : Clean D.now (a * (D.n / 2)) (D.n / 2) := fun x hx => by
   rw [hn] at hx ⊢
   rcases ht x hx with ⟨c, s, k, i, n, hn, h1, h2⟩ | h
   ·exact .inl ⟨c, hn.c0, h1, h2⟩
   ·exact .inr h
  rw [← hn] at e
  have hok : HeadOk (D.now (a * (D.n / 2))) g o f s := ⟨⟨hg.1, by omega⟩, ⟨ho.1, by omega⟩, ⟨hf.1, by omega⟩, hs, e⟩
  have hshort : (Wn D.now (a * (D.n / 2)) (D.n / 2) 0 67 0 ∨ ∃ s' M fs, Wy D.now (a * (D.n / 2)) (D.n / 2) 0 67 0 s' M fs ∧ (s' ≠ g ∨ (joined fs M).length ≠ s)) → ∃ r, Says n K a D r := fun hw =>
   ⟨none, .short g o f s hok hw, .short g o f s e ⟨hg.1, by omega⟩ ⟨ho.1, by omega⟩ ⟨hf.1, by omega⟩ hs hw, fun J hJ => by cases hJ⟩
  rcases whole_exists hc 0 67 0 (Nat.zero_le _) with ⟨s', M, fs, hw⟩ | hw
  ·by_cases h1 : s' = g
   ·by_cases h2 : (joined fs M).length = s
    ·subst h1
     have hroom := hw.room
     obtain ⟨ls, u, hr, hlen⟩ := recs_exists hc o f (D.n / 2 - 1 - M) M 0 0 rfl (by omega)
     have hb : Bears D ⟨a, s', o, f, s, joined fs M, ls, u⟩ := ⟨ha, e, ⟨hg.1, by show s' ≤ _; omega⟩, ⟨ho.1, by show o ≤ _; omega⟩, ⟨hf.1, by show f + ls.length ≤ _; omega⟩, hs, M, fs, hw, rfl, h2, hr⟩
     refine ⟨some ⟨a, s', o, f, s, joined fs M, ls, u⟩, .bears _ rfl hb, .bears _ rfl hb, fun J hJ => ?_⟩
     cases hJ
     have hu := recs_used hr (by omega)
     exact ⟨rfl, ⟨ha, by rw [← hn]; exact hu, ⟨hg.1, by show s' ≤ _; omega⟩, ⟨ho.1, by show o ≤ _; omega⟩, ⟨hf.1, by show f + ls.length ≤ _; omega⟩, hs, h2, recs_small hr (by omega)⟩, ho.2, hb⟩
    ·exact hshort (.inr ⟨s', M, fs, hw, .inr h2⟩)
   ·exact hshort (.inr ⟨s', M, fs, hw, .inl h1⟩)
  ·exact hshort (.inl hw)
 ·rw [← hn] at hnh
  exact ⟨none, .nohead hnh.nohead, .nohd g o f s hnh, fun J hJ => by cases hJ⟩
inductive OpenTo (D : Dsk) : Option Jn → Nat → Dsk → Option Jn → Prop
 | found (J : Jn) : OpenTo D (some J) 0 (opened D (some J)).2 (some (opened D (some J)).1)
 | fresh (h : ∀ b, b < 2 → D.now (b * (D.n / 2)) = noughts) : OpenTo D none 0 (opened D none).2 (some newJ)
 | spoilt (h : ¬ ∀ b, b < 2 → D.now (b * (D.n / 2)) = noughts) : OpenTo D none 30 D none
theorem open_to (D : Dsk) (R : Option Jn) : ∃ e D' R', OpenTo D R e D' R' := by
 cases R with
 | some J => exact ⟨_, _, _, .found J⟩
 | none =>
  by_cases h : ∀ b, b < 2 → D.now (b * (D.n / 2)) = noughts
  ·exact ⟨_, _, _, .fresh h⟩
  ·exact ⟨_, _, _, .spoilt h⟩
theorem OpenTo.play {R R' : Option Jn} {e : Nat} {D' : Dsk} (h : OpenTo D R e D' R') (hD : PlayD n K false D) (h4 : 4 ≤ n) (hK1 : 1 ≤ K) (hR : ∀ J, R = some J → JK n (K + 50) J ∧ J.op ≤ K) : PlayD n (K + 51) false D' ∧ ∀ J, R' = some J → JK n (K + 51) J := by
 have hn := hD.len
 cases h with
 | found J =>
  obtain ⟨hj, ho⟩ := hR J rfl
  have hD' := hD.mono (K' := K + 51) (by omega)
  refine ⟨?_, fun J' e => ?_⟩
  ·show PlayD n (K + 51) false (D.push (J.area * (D.n / 2)) (headB J.gen (J.op + 1) J.first J.size))
   rw [hn]
   exact hD'.push_head h4 hj.area (.inl ⟨_, _, _, _, rfl, ⟨hj.gen.1, by have := hj.gen; omega⟩, ⟨by omega, by omega⟩, ⟨hj.first.1, by have := hj.first; omega⟩, hj.size⟩)
  ·cases e
   exact ⟨hj.area, hj.used, ⟨hj.gen.1, by have := hj.gen.2; exact Nat.le_succ_of_le this⟩, ⟨by show 1 ≤ J.op + 1; omega, by show J.op + 1 ≤ _; omega⟩, ⟨hj.first.1, by have := hj.first.2; exact Nat.le_succ_of_le this⟩, hj.size, hj.st, hj.recs⟩
 | fresh hz =>
  have hD' := hD.mono (K' := K + 51) (by omega)
  refine ⟨?_, fun J' e => ?_⟩
  ·have h1 := hD'.push_room h4 (a := 0) (x := 0) (b := putF 67 1 0 [] 0) (by decide) (by omega) (putF_tame (.inl rfl) (by decide) (by decide) (by decide) (by decide))
   have h2 := h1.push_head h4 (a := 0) (b := headB 1 1 1 0) (by decide) (.inl ⟨_, _, _, _, rfl, ⟨by decide, by omega⟩, ⟨by decide, by omega⟩, ⟨by decide, by omega⟩, by decide⟩)
   rw [← hn] at h2
   rw [← hn]
   exact h2
  ·cases e
   exact ⟨by decide, by show 1 ≤ _; omega, ⟨by decide, by show 1 ≤ _; omega⟩, ⟨by decide, by show 1 ≤ _; omega⟩, ⟨by decide, by show 1 + 0 ≤ _; omega⟩, by decide, rfl, fun l hl => by cases hl⟩
 | spoilt hz => exact ⟨hD.mono (by omega), fun J e => by cases e⟩
theorem PlayD.same (h : PlayD n K arm D) {E : Dsk} {arm' : Bool} (hn : E.n = D.n) (hw : E.now = D.now) (hb : E.base = D.base) (hr : E.wr = D.wr) (hl : arm' = false → E.off = false ∧ E.armed = none) : PlayD n K arm' E :=
 ⟨hn.trans h.len, by unfold Full; rw [hw, hb, hr]; exact h.full, by rw [hw]; exact h.h0, by rw [hw]; exact h.h1, by rw [hw]; exact h.t0, by rw [hw]; exact h.t1, hl⟩
end
def POpen (w : World) (Sd : Nat → Prop) (d : Nat) (D' : Dsk) (R' : Option Jn) (e : Nat) (r : Ending) (w' : World) : Prop :=
 match R' with
 | some J => ∃ jb S Sd', r = .returned (.tuple #[.pointer (some ⟨jb, 0, none⟩), .int .i64 (e : Int)]) ∧ JE w' S jb d J 0 ∧ DiskAt w' Sd' d D' ∧ (∀ b, S b → w.heap.size ≤ b ∧ ¬ Sd' b) ∧ (∀ b, Sd' b → (Sd b ∨ w.heap.size ≤ b) ∧ b < w'.heap.size) ∧ Off Sd w w'
 | none => r = .returned (.tuple #[.pointer none, .int .i64 (e : Int)]) ∧ Off (fun _ => False) w w'
def ROpen (w : World) (Sm : Nat → Prop) (m : Nat) (D' : Dsk) (R' : Option Jn) (e : Nat) (r : Ending) (w' : World) : Prop :=
 match R' with
 | some J => ∃ rb T Sm', r = .returned (.tuple #[.pointer (some ⟨rb, 0, none⟩), .int .i64 (e : Int)]) ∧ RJAt w' T rb m J 0 ∧ RefAt w' Sm' m D' ∧ (∀ b, T b → w.heap.size ≤ b ∧ ¬ Sm' b) ∧ (∀ b, Sm' b → (Sm b ∨ w.heap.size ≤ b) ∧ b < w'.heap.size) ∧ Off Sm w w'
 | none => r = .returned (.tuple #[.pointer none, .int .i64 (e : Int)]) ∧ Off (fun _ => False) w w'
section
variable {n K e : Nat} {D D' : Dsk} {r0 r1 R' : Option Jn} {w : World}
theorem choose_two (A B : Jn) : choose (some A) (some B) = if A.gen < B.gen then some B else some A := rfl
theorem choose_num (s0 : Says n K 0 D r0) (s1 : Says n K 1 D r1) : ∀ J, choose r0 r1 = some J → J.area ≤ 1 ∧ JK n (K + 50) J ∧ J.op ≤ K ∧ Bears D J := fun J hJ => by
 have k0 := s0.num
 have k1 := s1.num
 cases r0 with
 | none =>
  have : r1 = some J := hJ
  obtain ⟨h1, h2⟩ := k1 J this
  exact ⟨by omega, h2⟩
 | some A =>
  cases r1 with
  | none =>
   have : some A = some J := hJ
   obtain ⟨h1, h2⟩ := k0 J this
   exact ⟨by omega, h2⟩
  | some B =>
   rw [choose_two] at hJ
   split at hJ
   ·obtain ⟨h1, h2⟩ := k1 J hJ
    exact ⟨by omega, h2⟩
   ·obtain ⟨h1, h2⟩ := k0 J hJ
    exact ⟨by omega, h2⟩
theorem popen_at {Sd : Nat → Prop} {d : Nat} (s0 : Says n K 0 D r0) (s1 : Says n K 1 D r1) (ht : OpenTo D (choose r0 r1) e D' R') (h : DiskAt w Sd d D) (hlt : ∀ b, Sd b → b < w.heap.size) (ho : D.off = false) (harm : D.armed = none) (hwr : D.wr.length + 70000 < 1000000) (h4 : 4 ≤ D.n) (hK : K ≤ 9000) :
  Calls Tryz.prog 4 #[.pointer (some ⟨d, 0, none⟩)] w (POpen w Sd d D' R' e) := by
 have hnum := choose_num s0 s1
 have hpre : ∀ r, Pre (fun x => x = r0) (fun x => x = r1) 2 r → r = choose r0 r1 := by
  rintro r ⟨a, b, rfl, rfl, rfl⟩
  rfl
 obtain ⟨R, hR⟩ : ∃ R, R = choose r0 r1 := ⟨_, rfl⟩
 rw [← hR] at ht hnum hpre
 cases ht with
 | found J =>
  obtain ⟨a1, a2, a3, a4⟩ := hnum J rfl
  refine (open_at (some J) Sd d D w h hlt ho harm hwr h4 s0.prog s1.prog hpre (fun q => by cases q) (fun J' q => by cases q; exact ⟨by omega, by have := a2.gen; omega, by have := a2.first; omega, a2.size⟩)).mono ?_
  rintro r w' ⟨jb, S, Sd', rfl, hj, hrest⟩
  exact ⟨jb, S, Sd', rfl, hj.e, hrest⟩
 | fresh hz =>
  refine (open_at none Sd d D w h hlt ho harm hwr h4 s0.prog s1.prog hpre (fun _ => hz) (fun J' q => by cases q)).mono ?_
  rintro r w' ⟨jb, S, Sd', rfl, hj, hrest⟩
  exact ⟨jb, S, Sd', rfl, hj.e, hrest⟩
 | spoilt hz =>
  refine (open_spoilt none Sd d D w h hlt ho h4 s0.prog s1.prog hpre rfl hz).mono ?_
  rintro r w' ⟨rfl, hrest⟩
  exact ⟨rfl, hrest⟩
theorem ropen_to {Sm : Nat → Prop} {m : Nat} {arm : Bool} (hD : PlayD n K arm D) (s0 : Says n K 0 D r0) (s1 : Says n K 1 D r1) (ht : OpenTo D (choose r0 r1) e D' R') (h : RefAt w Sm m D) (hlt : ∀ b, Sm b → b < w.heap.size) (ho : D.off = false) (harm : D.armed = none) (hwr : D.wr.length + 70000 < 1000000) (h4 : 4 ≤ D.n) (hK : K ≤ 9000) :
  Calls Tryz.prog 38 #[.pointer (some ⟨m, 0, none⟩)] w (ROpen w Sm m D' R' e) := by
 have hnum := choose_num s0 s1
 have t0 : Tame D.now (0 * (D.n / 2)) (D.n / 2) := by rw [hD.len]; exact hD.t0
 have t1 : Tame D.now (1 * (D.n / 2)) (D.n / 2) := by rw [hD.len]; exact hD.t1
 have hf := hD.full
 have found : ∀ J, choose r0 r1 = some J → Calls Tryz.prog 38 #[.pointer (some ⟨m, 0, none⟩)] w (ROpenEnd w Sm m D (choose r0 r1)) := fun J hch => by
  obtain ⟨a1, a2, a3, a4⟩ := hnum J hch
  have hop : J.op + 1 ≤ 4611686018427387904 ∧ J.gen ≤ 4611686018427387904 ∧ J.first ≤ 4611686018427387904 ∧ J.size ≤ 1048576 ∧ J.area ≤ 1 := ⟨by omega, by have := a2.gen; omega, by have := a2.first; omega, a2.size, a1⟩
  cases h0 : r0 with
  | none =>
   have h1 : r1 = some J := by rw [h0] at hch; exact hch
   have := ropen_d J Sm m D w h hlt ho harm hf (by omega) h4 t0 t1 r0 r1 s0.doc s1.doc h0 h1 hch hop a2.st
   rwa [h0] at this
  | some A =>
   cases h1 : r1 with
   | none =>
    have hA : A = J := by rw [h0, h1] at hch; exact Option.some.inj hch
    subst hA
    have := ropen_a A Sm m D w h hlt ho harm hf (by omega) h4 t0 t1 r0 r1 s0.doc s1.doc h0 h1 hch hop a2.st
    rwa [h0, h1] at this
   | some B =>
    have hch2 := hch
    rw [h0, h1] at hch2
    rw [choose_two] at hch2
    split at hch2
    ·rename_i hgt
     have hB : B = J := Option.some.inj hch2
     subst hB
     have := ropen_c B Sm m D w h hlt ho harm hf (by omega) h4 t0 t1 r0 r1 s0.doc s1.doc A h0 h1 hgt hch hop a2.st
     rwa [h0, h1] at this
    ·rename_i hgt
     have hA : A = J := Option.some.inj hch2
     subst hA
     have := ropen_b A Sm m D w h hlt ho harm hf (by omega) h4 t0 t1 r0 r1 s0.doc s1.doc B h0 h1 hgt hch hop a2.st
     rwa [h0, h1] at this
 have hnone : choose r0 r1 = none → r0 = none ∧ r1 = none := fun q => by
  cases r0 with
  | none => exact ⟨rfl, q⟩
  | some A =>
   cases r1 with
   | none => cases q
   | some B =>
    rw [choose_two] at q
    split at q <;> cases q
 have hlen : ∀ b, b < 2 → (D.now (b * (D.n / 2))).length = 128 := fun b hb => by
  rw [hD.len]
  exact (hD.head (by omega)).len
 obtain ⟨R, hR⟩ : ∃ R, R = choose r0 r1 := ⟨_, rfl⟩
 rw [← hR] at ht found
 cases ht with
 | found J =>
  refine (found J rfl).mono ?_
  rintro r w' ⟨rb, T, Sm', rfl, hj, hrest⟩
  exact ⟨rb, T, Sm', rfl, hj, hrest⟩
 | fresh hz =>
  obtain ⟨rfl, rfl⟩ := hnone hR.symm
  refine (ropen_fresh Sm m D w h hlt ho harm hf (by omega) h4 t0 t1 s0.doc s1.doc hlen hz).mono ?_
  rintro r w' ⟨rb, T, Sm', rfl, hj, hrest⟩
  exact ⟨rb, T, Sm', rfl, hj, hrest⟩
 | spoilt hz =>
  obtain ⟨rfl, rfl⟩ := hnone hR.symm
  refine (ropen_spoilt Sm m D w h hlt ho harm hf (by omega) h4 t0 t1 s0.doc s1.doc hlen hz).mono ?_
  rintro r w' ⟨rfl, hrest⟩
  exact ⟨rfl, hrest⟩
end
structure Duo (w0 w : World) (Sd Sm : Nat → Prop) (d m : Nat) (D E : Dsk) : Prop where
 disk : DiskAt w Sd d D
 ref : RefAt w Sm m E
 sd : ∀ b, Sd b → w0.heap.size ≤ b ∧ b < w.heap.size ∧ ¬ Sm b
 sm : ∀ b, Sm b → w0.heap.size ≤ b ∧ b < w.heap.size
 off : Off (fun b => w0.heap.size ≤ b) w0 w
def PSt (w0 w : World) (d m : Nat) (D : Dsk) (R : Option Jn) (br : Nat) (jv kv : Value) : Prop :=
 match R with
 | some J => ∃ jb rb S Sd T Sm, jv = .pointer (some ⟨jb, 0, none⟩) ∧ kv = .pointer (some ⟨rb, 0, none⟩) ∧ Quad w0 w S Sd T Sm d jb m rb D J br D J br
 | none => jv = .pointer none ∧ kv = .pointer none ∧ ∃ Sd Sm, Duo w0 w Sd Sm d m D D
section
variable {w0 w w' w2 w3 : World} {S Sd T Sm : Nat → Prop} {d jb m rb br bi : Nat} {D E D' E' : Dsk} {J I : Jn} {R R' : Option Jn} {jv kv : Value}
theorem Quad.duo (h : Quad w0 w S Sd T Sm d jb m rb D J br E I bi) : Duo w0 w Sd Sm d m D E :=
 ⟨h.disk, h.ref, fun b hb => let q := h.sd b hb; ⟨q.1, q.2.1, q.2.2.2⟩, h.sm, h.off⟩
theorem PSt.duo (h : PSt w0 w d m D R br jv kv) : ∃ Sd Sm, Duo w0 w Sd Sm d m D D := by
 cases R with
 | none => exact h.2.2
 | some J =>
  obtain ⟨jb, rb, S, Sd, T, Sm, _, _, hq⟩ := h
  exact ⟨Sd, Sm, hq.duo⟩
theorem Duo.new (h : Duo w0 w Sd Sm d m D E) (ho : Off (fun _ => False) w w') : Duo w0 w' Sd Sm d m D E :=
 have hs := ho.size
 ⟨h.disk.off ho (fun _ _ _ q => q), h.ref.off ho (fun _ _ _ q => q), fun b hb => let q := h.sd b hb; ⟨q.1, by omega, q.2.2⟩, fun b hb => let q := h.sm b hb; ⟨q.1, by omega⟩, h.off.trans (ho.mono (fun _ _ q => q.elim))⟩
theorem PSt.new (h : PSt w0 w d m D R br jv kv) (ho : Off (fun _ => False) w w') : PSt w0 w' d m D R br jv kv := by
 cases R with
 | none => exact ⟨h.1, h.2.1, let ⟨Sd, Sm, q⟩ := h.2.2; ⟨Sd, Sm, q.new ho⟩⟩
 | some J =>
  obtain ⟨jb, rb, S, Sd, T, Sm, h1, h2, hq⟩ := h
  exact ⟨jb, rb, S, Sd, T, Sm, h1, h2, hq.new ho⟩
theorem PSt.off (h : PSt w0 w d m D R br jv kv) : Off (fun b => w0.heap.size ≤ b) w0 w := by
 obtain ⟨Sd, Sm, q⟩ := h.duo
 exact q.off
theorem Duo.disk' {Sd' : Nat → Prop} (h : Duo w0 w Sd Sm d m D E) (hd : DiskAt w' Sd' d D') (hs : ∀ b, Sd' b → (Sd b ∨ w.heap.size ≤ b) ∧ b < w'.heap.size) (ho : Off Sd w w') : Duo w0 w' Sd' Sm d m D' E :=
 have hsz := ho.size
 have h0 := h.off.size
 ⟨hd, h.ref.off ho (fun b _ hb q => (h.sd b q).2.2 hb), fun b hb => ⟨(hs b hb).1.elim (fun q => (h.sd b q).1) (fun q => by omega), (hs b hb).2, fun q => (hs b hb).1.elim (fun q2 => (h.sd b q2).2.2 q) (fun q2 => by have := (h.sm b q).2; omega)⟩, fun b hb => let q := h.sm b hb; ⟨q.1, by omega⟩, h.off.trans (ho.mono (fun b _ q => (h.sd b q).1))⟩
theorem Duo.ref' {Sm' : Nat → Prop} (h : Duo w0 w Sd Sm d m D E) (hd : RefAt w' Sm' m E') (hs : ∀ b, Sm' b → (Sm b ∨ w.heap.size ≤ b) ∧ b < w'.heap.size) (ho : Off Sm w w') : Duo w0 w' Sd Sm' d m D E' :=
 have hsz := ho.size
 have h0 := h.off.size
 ⟨h.disk.off ho (fun b _ hb q => (h.sd b hb).2.2 q), hd, fun b hb => let q := h.sd b hb; ⟨q.1, by omega, fun q2 => (hs b q2).1.elim (fun q3 => q.2.2 q3) (fun q3 => by omega)⟩, fun b hb => ⟨(hs b hb).1.elim (fun q => (h.sm b q).1) (fun q => by omega), (hs b hb).2⟩, h.off.trans (ho.mono (fun b _ q => (h.sm b q).1))⟩
theorem Duo.wide (h : Duo w0 w Sd Sm d m D E) : DiskAt w (fun b => Sd b ∨ w.heap.size ≤ b) d D := h.disk.mono (fun _ _ q => .inl q)
theorem Duo.rwide (h : Duo w0 w Sd Sm d m D E) : RefAt w (fun b => Sm b ∨ w.heap.size ≤ b) m E := h.ref.mono (fun _ _ q => .inl q)
theorem Duo.disk2 (h : Duo w0 w Sd Sm d m D E) (hd : DiskAt w' (fun b => Sd b ∨ w.heap.size ≤ b) d D') (ho : Off (fun b => Sd b ∨ w.heap.size ≤ b) w w') : Duo w0 w' (fun b => (Sd b ∨ w.heap.size ≤ b) ∧ b < w'.heap.size) Sm d m D' E :=
 h.disk' (hd.mono (fun _ hk q => ⟨q, hk⟩)) (fun _ q => q) (ho.mono (fun _ hk q => q.elim id (fun q => by omega)))
theorem Duo.ref2 (h : Duo w0 w Sd Sm d m D E) (hd : RefAt w' (fun b => Sm b ∨ w.heap.size ≤ b) m E') (ho : Off (fun b => Sm b ∨ w.heap.size ≤ b) w w') : Duo w0 w' Sd (fun b => (Sm b ∨ w.heap.size ≤ b) ∧ b < w'.heap.size) d m D E' :=
 h.ref' (hd.mono (fun _ hk q => ⟨q, hk⟩)) (fun _ q => q) (ho.mono (fun _ hk q => q.elim id (fun q => by omega)))
theorem Duo.popen {e : Nat} {r : Ending} (h : Duo w0 w Sd Sm d m D E) (hp : POpen w Sd d D' R' e r w2) : RefAt w2 Sm m E ∧ (∀ b, Sm b → b < w2.heap.size) := by
 have : ∃ U : Nat → Prop, Off U w w2 ∧ ∀ b, U b → Sd b := by
  cases R' with
  | none => exact ⟨_, hp.2, fun _ q => q.elim⟩
  | some J =>
   obtain ⟨jb, S, Sd', _, _, _, _, _, h6⟩ := hp
   exact ⟨_, h6, fun _ q => q⟩
 obtain ⟨U, hU, hs⟩ := this
 have := hU.size
 exact ⟨h.ref.off hU (fun b _ hb q => (h.sd b (hs b q)).2.2 hb), fun b hb => by have := (h.sm b hb).2; omega⟩
theorem Duo.opens {e : Nat} {r r2 : Ending} (h : Duo w0 w Sd Sm d m D D) (hp : POpen w Sd d D' R' e r w2) (hr : ROpen w2 Sm m D' R' e r2 w3) (hD' : R' = none → D' = D) : ∃ jv kv, r = .returned (.tuple #[jv, .int .i64 (e : Int)]) ∧ r2 = .returned (.tuple #[kv, .int .i64 (e : Int)]) ∧ PSt w0 w3 d m D' R' 0 jv kv := by
 have hb := h.popen hp
 cases R' with
 | none =>
  obtain ⟨rfl, h2⟩ := hp
  obtain ⟨rfl, h3⟩ := hr
  rw [hD' rfl]
  exact ⟨_, _, rfl, rfl, rfl, rfl, Sd, Sm, (h.new h2).new h3⟩
 | some J =>
  obtain ⟨jb, S, Sd', rfl, p1, p2, p3, p4, p5⟩ := hp
  obtain ⟨rb, T, Sm', rfl, q1, q2, q3, q4, q5⟩ := hr
  have s0 := h.off.size
  have s2 := p5.size
  have s3 := q5.size
  have plt : ∀ b, S b → b < w2.heap.size := by
   obtain ⟨sv, rv, vs, x⟩ := p1
   exact x.lt
  have qlt : ∀ b, T b → b < w3.heap.size := by
   obtain ⟨lv, x⟩ := q1
   exact x.lt
  have nS : ∀ b, S b → ¬ Sm b := fun b hb2 q => by have := (p3 b hb2).1; have := (h.sm b q).2; omega
  have nD : ∀ b, Sd' b → ¬ Sm b := fun b hb2 q => (p4 b hb2).1.elim (fun q2 => (h.sd b q2).2.2 q) (fun q2 => by have := (h.sm b q).2; omega)
  refine ⟨_, _, rfl, rfl, jb, rb, S, Sd', T, Sm', rfl, rfl, ⟨p1.off q5 nS, p2.off q5 (fun b _ hb2 => nD b hb2), q1, q2, fun b hb2 => ?_, fun b hb2 => ?_, fun b hb2 => ⟨?_, qlt b hb2, (q3 b hb2).2⟩, fun b hb2 => ⟨?_, (q4 b hb2).2⟩, ?_⟩⟩
  ·have h1 := p3 b hb2
   have h2 := plt b hb2
   exact ⟨by omega, by omega, h1.2, fun q => by have := (q3 b q).1; omega, fun q => (q4 b q).1.elim (fun q => nS b hb2 q) (fun q => by omega)⟩
  ·have h2 := (p4 b hb2).2
   exact ⟨(p4 b hb2).1.elim (fun q => (h.sd b q).1) (fun q => by omega), by omega, fun q => by have := (q3 b q).1; omega, fun q => (q4 b q).1.elim (fun q => nD b hb2 q) (fun q => by omega)⟩
  ·have := (q3 b hb2).1
   omega
  ·exact (q4 b hb2).1.elim (fun q => (h.sm b q).1) (fun q => by omega)
  ·exact (h.off.trans (p5.mono (fun b _ q => (h.sd b q).1))).trans (q5.mono (fun b _ q => (h.sm b q).1))
theorem OpenTo.same {e : Nat} (h : OpenTo D R e D' R') (hR : R' = none) : D' = D := by
 cases h with
 | found J => cases hR
 | fresh h => cases hR
 | spoilt h => rfl
theorem pto_disk {S' : Nat → Prop} (hj : JE w S jb d J (br : Int)) (hd : DiskAt w' S' d D') (hs : ∀ b, S' b → (Sd b ∨ w.heap.size ≤ b) ∧ b < w'.heap.size) (ho : Off Sd w w') (hSS : ∀ b, S b → ¬ Sd b) : PTo w w' S Sd d jb D' J br :=
 have hlt : ∀ b, S b → b < w.heap.size := by
  obtain ⟨sv, rv, vs, x⟩ := hj
  exact x.lt
 ⟨S, S', hj.off ho hSS, hd, fun b hb q => (hs b q).1.elim (fun q => hSS b hb q) (fun q => by have := hlt b hb; omega), fun _ hb => .inl hb, hs, ho.mono (fun _ _ q => .inr q)⟩
theorem rto_disk {S' : Nat → Prop} (hj : RJAt w T rb m J br) (hd : RefAt w' S' m D') (hs : ∀ b, S' b → (Sm b ∨ w.heap.size ≤ b) ∧ b < w'.heap.size) (ho : Off Sm w w') (hSS : ∀ b, T b → ¬ Sm b) : RTo w w' T Sm m rb D' J br :=
 have hlt : ∀ b, T b → b < w.heap.size := by
  obtain ⟨lv, x⟩ := hj
  exact x.lt
 ⟨T, S', hj.off ho hSS, hd, fun b hb q => (hs b q).1.elim (fun q => hSS b hb q) (fun q => by have := hlt b hb; omega), fun _ hb => .inl hb, hs, ho.mono (fun _ _ q => .inr q)⟩
end
end Go.Proofs.YtgdedgfohjplmaaGreat.Jnl
