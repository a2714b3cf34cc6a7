/- NetTurns: the walk. -/
import Derived.Deep.CutRange
import Derived.Test.YtonfpifikblnjaaNetTurnsData
namespace Go.Proofs.Ytonfpifikblnjaa.Net
open Go.RowKit

set_option maxRecDepth 100000 in
set_option maxHeartbeats 8000000 in
theorem turns_walk (ends i : Int) (A : Option Addr) (l : List ActV) (cap : Nat) (w : World) (h : ActsAt w (fun b => w.heap.size ≤ b) A l) (hc1 : l.length ≤ cap) (hc2 : cap ≤ maxLen) :
    Calls Try.prog 7 #[.int .i64 ends, .slice A l.length cap, .int .i64 i] w fun e w' => e = .returned (.bool true) ∧ Below w.heap.size w w' := by
  have FIN : Hid (∀ w' : World, Off (fun b => w.heap.size ≤ b) w w' → Below w.heap.size w w') := fun w' h => h.below (Nat.le_refl _) (fun k hk h => by omega)
  have HF := Lib.hid (few_at _ A l cap 200 w h hc1 hc2)
  have HA := Lib.hid h
  obtain ⟨r, hr⟩ : ∃ r, r = fewB l 200 := ⟨_, rfl⟩
  rw [← hr] at HF
  have HR := Lib.hid hr
  clear h hc1 hc2 hr
  go_enter Try.func7, Try.ntmps7
  go_wp2_with fail
  refine HF.out.mono ?_
  rintro e w' ⟨rfl, rfl⟩
  cases r
  case false =>
    go_wp2_with fail
    refine (works_at w').mono ?_
    rintro e w2 ⟨rfl, hg⟩
    have HG := Lib.hid hg
    clear hg
    go_wp2_with fail
    go_ret
    exact ⟨rfl, FIN.out _ (Off.of_grown HG.out (by simp))⟩
  obtain ⟨hl200, hl100⟩ := fewB_true HR.out.symm
  have HL := Lib.hid (And.intro hl200 hl100)
  clear HF HR hl200 hl100
  go_wp2_with fail
  refine (new_at ends w').mono ?_
  rintro e w0 ⟨na, rfl, hna, hg0⟩
  have HNA := Lib.hid hna
  have HG0 := Lib.hid hg0
  clear hna hg0
  go_wp2_with fail
  refine (new_at ends w0).mono ?_
  rintro e w1 ⟨nb, rfl, hnb, hg1⟩
  generalize (max 1 (min 64 ends)).toNat = n at hnb HNA
  have HP : Hid (Pair w' w1 na nb (fun b => w'.heap.size ≤ b ∧ b < w0.heap.size) (fun b => w0.heap.size ≤ b ∧ b < w1.heap.size) (fresh n) (fresh n)) :=
    ⟨HNA.out.grown hg1, hnb, fun x hx hy => by have := hx.2; have := hy.1; omega, fun x hx => hx.1, fun x hx => Nat.le_trans HG0.out.size hx.1, (Off.of_grown HG0.out (by simp)).trans (Off.of_grown hg1 (by simp))⟩
  clear hnb hg1 HNA HG0
  go_wp2_with fail
  go_loopw [9] (fun iv wr => ∃ (k : Nat) (Sa Sb : Nat → Prop) (D : Nt), k ≤ l.length ∧ iv = .int .i64 (k : Int) ∧ Pair w' wr na nb Sa Sb D D ∧ Ends D) (fun iv _ => l.length - (intOf iv).toNat)
  case atStart => exact ⟨0, _, _, _, Nat.zero_le _, rfl, HP.out, fun p hp => by obtain ⟨j, hj⟩ := hp; simp [fresh] at hj⟩
  case round =>
    obtain ⟨k, Sa, Sb, D, hk, rfl, hP, hE⟩ := hrel
    clear HP
    have HP := Lib.hid hP
    have HE := Lib.hid hE
    clear hP hE
    by_cases hlt : k < l.length
    · have hkd : decide ((k : Int) < (l.length : Int)) = true := by simp; omega
      have hkd2 : decide (k < l.length) = true := by simpa using hlt
      have k0 : (0 : Int) ≤ (k : Int) := by omega
      have k1 : (k : Int) < (l.length : Int) := by omega
      obtain ⟨ga, off, c, rfl, hc, hga, hgalt, a0, a1, a2, a3⟩ := (HA.out.off HP.out.off).at_ hlt
      have hcb : c.b.length ≤ 1000 := by have := HL.out.2 c (List.mem_of_getElem? hc); omega
      have HDA := Lib.hid (does_at Sa na D c wr HP.out.a hcb)
      have HLT := Lib.hid hlt
      have HCB := Lib.hid hcb
      have HAT : Hid (ActAt wr ga (off + k * 4) c) := ⟨a0, a1, a2, a3⟩
      have HNG : Hid (¬ w'.heap.size ≤ ga) := hga
      clear hc hga hgalt hlt hcb
      go_wp2_with fail
      refine HDA.out.mono ?_
      rintro e v ⟨Ap, capp, rfl, _, Sa1, hna, hta⟩
      have HPA := Lib.hid (HP.out.turnA hna hta)
      have hat := HAT.out.off hta.off.toOff (fun hs => HNG.out (HP.out.fromA _ hs))
      have HDB := Lib.hid (does_at Sb nb D c v HPA.out.b HCB.out)
      clear a0 a1 a2 a3
      obtain ⟨a0, a1, a2, a3⟩ := hat
      clear hna hta HDA
      go_wp2_with fail
      refine HDB.out.mono ?_
      rintro e v2 ⟨Ap2, capp2, rfl, _, Sb1, hnb, htb⟩
      have HPB := Lib.hid (HPA.out.turnB hnb htb)
      clear hnb htb HDB a0 a1 a2 a3
      go_wp2_with fail
      go_roundw
      case rel => exact ⟨k + 1, Sa1, Sb1, _, HLT.out, nxt_num k (by have := HLT.out; have := HL.out.1; omega), HPB.out, HE.out.does c⟩
      case measure => exact nxt_meas _ k HLT.out (by have := HLT.out; have := HL.out.1; omega)
    · have hkd : decide ((k : Int) < (l.length : Int)) = false := by simp; omega
      have hkd2 : decide (k < l.length) = false := by simpa using hlt
      clear hlt
      have HWAY := Lib.hid (way_at Sb nb D wr HP.out.b)
      go_wp2_with fail
      refine HWAY.out.mono ?_
      rintro e y ⟨vw, csw, rfl, hcsw, hLw, hgw⟩
      obtain ⟨Av, capv, rfl⟩ := hLw.shape hcsw
      have HP1 := Lib.hid (HP.out.grown hgw)
      have HLW := Lib.hid hLw
      have HCSW := Lib.hid hcsw
      have HGW := Lib.hid hgw
      clear hcsw hLw hgw HWAY
      have HDL := Lib.hid (delay_at Sa na D i y HP1.out.a)
      go_wp2_with fail
      refine HDL.out.mono ?_
      rintro e y1 ⟨rfl, Sa1, hna, hta⟩
      have HP2 := Lib.hid (HP1.out.turnA hna hta)
      have HTA := Lib.hid hta
      have HDR := Lib.hid (drop_at Sb nb D i y1 HP2.out.b)
      clear hna hta HDL
      go_wp2_with fail
      refine HDR.out.mono ?_
      rintro e y2 ⟨rfl, Sb1, hnb, htb⟩
      have HP3 := Lib.hid (HP2.out.turnB hnb htb)
      have HTB0 := Lib.hid htb
      clear hnb htb HDR
      rw [(delay_drop D i).1, (delay_drop D i).2]
      have HE2 := Lib.hid HE.out
      obtain ⟨code, hcode⟩ : ∃ code, code = D.there i := ⟨_, rfl⟩
      rw [← hcode]
      have HCODE := Lib.hid hcode
      clear hcode
      go_upto_if 53 with fail
      go_cut [11] from 18 to 174 (fun s11 wx => s11 = .int .i64 code ∧ ∃ (Sa Sb : Nat → Prop) (Da Db : Nt), Pair w' wx na nb Sa Sb Da Db ∧ Da.row 0 = Db.row 0 ∧ (Da.row 0).length = (D.row 0).length)
      case first =>
        by_cases h0 : code = 0
        · have hth : D.there i = 0 := by rw [← HCODE.out]; exact h0
          obtain ⟨z, rfl, hz⟩ := Nt.there_in hth
          obtain ⟨p, hp⟩ : ∃ p, p = D.nth 0 z := ⟨_, rfl⟩
          have hget : (csw.map (·.1))[z]? = some p := by rw [HCSW.out, Nt.nth_get hz, hp]
          have hfix : Fix wr.heap.size y y2.drew := (((Fix.refl wr.heap.size y).off HTA.out.off.toOff (fun b hb hlt hs => by
            have := HP.out.a.lt b hs; omega)).off HTB0.out.off.toOff (fun b hb hlt hs => by
            have := HP.out.b.lt b hs; omega)).grown (drew_grown y2 none)
          obtain ⟨gv, Apv, cv, rfl, hB, v0, v1, v2, hby⟩ := (HLW.out.fix hfix).get hget
          have hgvlt : gv < y.heap.size := (HLW.out.row.lt gv rfl).2
          have hdd : (D.drop (z : Int)).2 = D.less 0 z := by unfold Nt.drop; rw [if_pos hth, Int.toNat_natCast]
          have hda : (D.delay (z : Int)).2 = (D.less 0 z).more 0 p := by unfold Nt.delay; rw [if_pos hth, Int.toNat_natCast, hp]
          have hds := delay_send D HP.out.a.ok HE2.out z hz
          rw [← hp] at hds
          have hpb : p.b.length ≤ 1000 := by rw [hp]; exact HP.out.a.ok.small 0 _ (Nt.nth_mem hz)
          have hP3 := HP3.out.grown (drew_grown y2 none)
          rw [hdd, hda] at hP3
          have hsend := send_at Sb1 nb (D.less 0 z) p Apv cv y2.drew hP3.b (RowR.of_bytes cv hby) hpb
          rw [hds] at hsend
          have HSEND := Lib.hid hsend
          have HNG : Hid (¬ Sb1 gv) := fun hs => by
            rcases HTB0.out.sub gv hs with e | e
            · have := HP.out.b.lt gv e; omega
            · have := HTA.out.off.size; omega
          have HS : Hid (y2.drew.cell? ⟨gv, z * 3, none⟩ = some (.int .i64 p.src) ∧ y2.drew.cell? ⟨gv, z * 3 + 1, none⟩ = some (.int .i64 p.to) ∧ y2.drew.cell? ⟨gv, z * 3 + 2, none⟩ = some (.slice Apv p.b.length cv)) := ⟨v0, v1, v2⟩
          have HP4 := Lib.hid hP3
          have HLEN : Hid ((((D.less 0 z).more 0 p).row 0).length = (D.row 0).length) := turned_len D z hz p
          have z0 : decide ((z : Int) < 0) = false := decide_eq_false (by omega)
          have z1 : decide (((D.row 0).length : Int) ≤ (z : Int)) = false := decide_eq_false (by omega)
          have z1b : decide ((D.row 0).length ≤ z) = false := decide_eq_false (by omega)
          have z2 : (0 : Int) ≤ (z : Int) := by omega
          have z3 : (z : Int) < ((D.row 0).length : Int) := by omega
          subst h0
          clear hth hp hget hfix hB v0 v1 v2 hby hgvlt hdd hda hds hpb hP3 hsend hz
          go_upto_region 12 with fail
          refine wp_region_noPanic ?_
          refine wp_region_held_drew (S := fun w' => w'.cell? ⟨gv, z * 3, none⟩ = some (.int .i64 p.src) ∧ w'.cell? ⟨gv, z * 3 + 1, none⟩ = some (.int .i64 p.to) ∧ w'.cell? ⟨gv, z * 3 + 2, none⟩ = some (.slice Apv p.b.length cv)) (by kernel_rfl) ?hSa (fun hHeld => ?_)
          case hSa => exact HS.out
          refine wpAnyH_take (i := 0) (oi := ⟨_, _, _, _, _, _⟩) (v := ?va0) rfl (by kernel_rfl) (by kernel_rfl) (by kernel_rfl) (fun _ _ _ h => h) (Or.inl ⟨by rfl, ?hya0⟩) hHeld ?_
          case hya0 => (intro wS hSw; (try dsimp only at hSw); go_simp; (first | done | with_reducible rfl))
          try simp only [Act.put, List.setIfInBounds_toArray, List.set_cons_zero, List.set_cons_succ]
          refine wpAnyH_take (i := 1) (oi := ⟨_, _, _, _, _, _⟩) (v := ?va1) rfl (by kernel_rfl) (by kernel_rfl) (by kernel_rfl) (fun _ _ _ h => h) (Or.inl ⟨by rfl, ?hya1⟩) hHeld ?_
          case hya1 => (intro wS hSw; (try dsimp only at hSw); go_simp; (first | done | with_reducible rfl))
          try simp only [Act.put, List.setIfInBounds_toArray, List.set_cons_zero, List.set_cons_succ]
          refine wpAnyH_take (i := 2) (oi := ⟨_, _, _, _, _, _⟩) (v := ?va2) rfl (by kernel_rfl) (by kernel_rfl) (by kernel_rfl) (fun _ _ _ h => h) (Or.inl ⟨by rfl, ?hya2⟩) hHeld ?_
          case hya2 => (intro wS hSw; (try dsimp only at hSw); go_simp; (first | done | with_reducible rfl))
          try simp only [Act.put, List.setIfInBounds_toArray, List.set_cons_zero, List.set_cons_succ]
          refine wpAnyH_take (i := 3) (oi := ⟨_, _, _, _, _, _⟩) (v := ?va3) rfl (by kernel_rfl) (by kernel_rfl) (by kernel_rfl) (fun _ _ _ h => h) (Or.inl ⟨by rfl, ?hya3⟩) hHeld ?_
          case hya3 => (intro wS hSw; (try dsimp only at hSw); go_simp; (first | done | with_reducible rfl))
          try simp only [Act.put, List.setIfInBounds_toArray, List.set_cons_zero, List.set_cons_succ]
          refine wpAnyH_take (i := 4) (oi := ⟨_, _, _, _, _, _⟩) (v := ?va4) rfl (by kernel_rfl) (by kernel_rfl) (by kernel_rfl) (fun _ _ _ h => h) (Or.inl ⟨by rfl, ?hya4⟩) hHeld ?_
          case hya4 => (intro wS hSw; (try dsimp only at hSw); go_simp; (first | done | with_reducible rfl))
          try simp only [Act.put, List.setIfInBounds_toArray, List.set_cons_zero, List.set_cons_succ]
          refine wpAnyH_take (i := 5) (oi := ⟨_, _, _, _, _, _⟩) (v := ?va5) rfl (by kernel_rfl) (by kernel_rfl) (by kernel_rfl) (fun _ _ _ h => h) (Or.inl ⟨by rfl, ?hya5⟩) hHeld ?_
          case hya5 => (intro wS hSw; (try dsimp only at hSw); go_simp; (first | done | with_reducible rfl))
          try simp only [Act.put, List.setIfInBounds_toArray, List.set_cons_zero, List.set_cons_succ]
          refine wpAnyH_take (i := 6) (oi := ⟨_, _, _, _, _, _⟩) (v := ?va6) rfl (by kernel_rfl) (by kernel_rfl) (by kernel_rfl) (fun _ _ _ h => h) (Or.inl ⟨by rfl, ?hya6⟩) hHeld ?_
          case hya6 => (intro wS hSw; (try dsimp only at hSw); go_simp; (first | done | with_reducible rfl))
          try simp only [Act.put, List.setIfInBounds_toArray, List.set_cons_zero, List.set_cons_succ]
          refine wpAnyH_take (i := 7) (oi := ⟨_, _, _, _, _, _⟩) (v := ?va7) rfl (by kernel_rfl) (by kernel_rfl) (by kernel_rfl) (fun _ _ _ h => h) (Or.inl ⟨by rfl, ?hya7⟩) hHeld ?_
          case hya7 => (intro wS hSw; (try dsimp only at hSw); go_simp; (first | done | with_reducible rfl))
          try simp only [Act.put, List.setIfInBounds_toArray, List.set_cons_zero, List.set_cons_succ]
          refine wpAnyH_take (i := 8) (oi := ⟨_, _, _, _, _, _⟩) (v := ?va8) rfl (by kernel_rfl) (by kernel_rfl) (by kernel_rfl) (fun _ _ _ h => h) (Or.inl ⟨by rfl, ?hya8⟩) hHeld ?_
          case hya8 => (intro wS hSw; (try dsimp only at hSw); go_simp; (first | done | with_reducible rfl))
          try simp only [Act.put, List.setIfInBounds_toArray, List.set_cons_zero, List.set_cons_succ]
          refine wpAnyH_take (i := 9) (oi := ⟨_, _, _, _, _, _⟩) (v := ?va9) rfl (by kernel_rfl) (by kernel_rfl) (by kernel_rfl) (fun _ _ _ h => h) (Or.inl ⟨by rfl, ?hya9⟩) hHeld ?_
          case hya9 => (intro wS hSw; (try dsimp only at hSw); go_simp; (first | done | with_reducible rfl))
          try simp only [Act.put, List.setIfInBounds_toArray, List.set_cons_zero, List.set_cons_succ]
          refine wpAnyH_take (i := 10) (oi := ⟨_, _, _, _, _, _⟩) (v := ?va10) rfl (by kernel_rfl) (by kernel_rfl) (by kernel_rfl) (fun _ _ _ h => h) (Or.inl ⟨by rfl, ?hya10⟩) hHeld ?_
          case hya10 => (intro wS hSw; (try dsimp only at hSw); go_simp; (first | done | with_reducible rfl))
          try simp only [Act.put, List.setIfInBounds_toArray, List.set_cons_zero, List.set_cons_succ]
          refine wpAnyH_take (i := 11) (oi := ⟨_, _, _, _, _, _⟩) (v := ?va11) rfl (by kernel_rfl) (by kernel_rfl) (by kernel_rfl) (fun _ _ _ h => h) (Or.inl ⟨by rfl, ?hya11⟩) hHeld ?_
          case hya11 => (intro wS hSw; (try dsimp only at hSw); go_simp; (first | done | with_reducible rfl))
          try simp only [Act.put, List.setIfInBounds_toArray, List.set_cons_zero, List.set_cons_succ]
          refine wpAnyH_take (i := 12) (oi := ⟨_, _, _, _, _, _⟩) (v := ?va12) rfl (by kernel_rfl) (by kernel_rfl) (by kernel_rfl) (fun _ _ _ h => h) (Or.inl ⟨by rfl, ?hya12⟩) hHeld ?_
          case hya12 => (intro wS hSw; (try dsimp only at hSw); go_simp; (first | done | with_reducible rfl))
          try simp only [Act.put, List.setIfInBounds_toArray, List.set_cons_zero, List.set_cons_succ]
          refine wpAnyH_take (i := 13) (oi := ⟨_, _, _, _, _, _⟩) (v := ?va13) rfl (by kernel_rfl) (by kernel_rfl) (by kernel_rfl) (fun _ _ _ h => h) (Or.inl ⟨by rfl, ?hya13⟩) hHeld ?_
          case hya13 => (intro wS hSw; (try dsimp only at hSw); go_simp; (first | done | with_reducible rfl))
          try simp only [Act.put, List.setIfInBounds_toArray, List.set_cons_zero, List.set_cons_succ]
          refine wpAnyH_take (i := 14) (oi := ⟨_, _, _, _, _, _⟩) (v := ?va14) rfl (by kernel_rfl) (by kernel_rfl) (by kernel_rfl) (fun _ _ _ h => h) (Or.inl ⟨by rfl, ?hya14⟩) hHeld ?_
          case hya14 => (intro wS hSw; (try dsimp only at hSw); go_simp; (first | done | with_reducible rfl))
          try simp only [Act.put, List.setIfInBounds_toArray, List.set_cons_zero, List.set_cons_succ]
          refine wpAnyH_take (i := 15) (oi := ⟨_, _, _, _, _, _⟩) (v := ?va15) rfl (by kernel_rfl) (by kernel_rfl) (by kernel_rfl) (fun _ _ _ h => h) (Or.inl ⟨by rfl, ?hya15⟩) hHeld ?_
          case hya15 => (intro wS hSw; (try dsimp only at hSw); go_simp; (first | done | with_reducible rfl))
          try simp only [Act.put, List.setIfInBounds_toArray, List.set_cons_zero, List.set_cons_succ]
          refine wpAnyH_take (i := 16) (oi := ⟨_, _, _, _, _, _⟩) (v := ?va16) rfl (by kernel_rfl) (by kernel_rfl) (by kernel_rfl) (fun _ _ _ h => h) (Or.inl ⟨by rfl, ?hya16⟩) hHeld ?_
          case hya16 => (intro wS hSw; (try dsimp only at hSw); go_simp; (first | done | with_reducible rfl))
          try simp only [Act.put, List.setIfInBounds_toArray, List.set_cons_zero, List.set_cons_succ]
          refine wpAnyH_take (i := 17) (oi := ⟨_, _, _, _, _, _⟩) (v := ?va17) rfl (by kernel_rfl) (by kernel_rfl) (by kernel_rfl) (fun _ _ _ h => h) (Or.inl ⟨by rfl, ?hya17⟩) hHeld ?_
          case hya17 => (intro wS hSw; (try dsimp only at hSw); go_simp; (first | done | with_reducible rfl))
          try simp only [Act.put, List.setIfInBounds_toArray, List.set_cons_zero, List.set_cons_succ]
          refine wpAnyH_take (i := 18) (oi := ⟨_, _, _, _, _, _⟩) (v := ?va18) rfl (by kernel_rfl) (by kernel_rfl) (by kernel_rfl) (fun _ _ _ h => h) (Or.inl ⟨by rfl, ?hya18⟩) hHeld ?_
          case hya18 => (intro wS hSw; (try dsimp only at hSw); go_simp; (first | done | with_reducible rfl))
          try simp only [Act.put, List.setIfInBounds_toArray, List.set_cons_zero, List.set_cons_succ]
          refine wpAnyH_take (i := 19) (oi := ⟨_, _, _, _, _, _⟩) (v := ?va19) rfl (by kernel_rfl) (by kernel_rfl) (by kernel_rfl) (fun _ _ _ h => h) (Or.inl ⟨by rfl, ?hya19⟩) hHeld ?_
          case hya19 => (intro wS hSw; (try dsimp only at hSw); go_simp; (first | done | with_reducible rfl))
          try simp only [Act.put, List.setIfInBounds_toArray, List.set_cons_zero, List.set_cons_succ]
          refine wpAnyH_take (i := 20) (oi := ⟨_, _, _, _, _, _⟩) (v := ?va20) rfl (by kernel_rfl) (by kernel_rfl) (by kernel_rfl) (fun _ _ _ h => h) (Or.inl ⟨by rfl, ?hya20⟩) hHeld ?_
          case hya20 => (intro wS hSw; (try dsimp only at hSw); go_simp; (first | done | with_reducible rfl))
          try simp only [Act.put, List.setIfInBounds_toArray, List.set_cons_zero, List.set_cons_succ]
          refine wpAnyH_take (i := 21) (oi := ⟨_, _, _, _, _, _⟩) (v := ?va21) rfl (by kernel_rfl) (by kernel_rfl) (by kernel_rfl) (fun _ _ _ h => h) (Or.inl ⟨by rfl, ?hya21⟩) hHeld ?_
          case hya21 => (intro wS hSw; (try dsimp only at hSw); go_simp; (first | done | with_reducible rfl))
          try simp only [Act.put, List.setIfInBounds_toArray, List.set_cons_zero, List.set_cons_succ]
          refine wpAnyH_take (i := 22) (oi := ⟨_, _, _, _, _, _⟩) (v := ?va22) rfl (by kernel_rfl) (by kernel_rfl) (by kernel_rfl) (fun _ _ _ h => h) (Or.inl ⟨by rfl, ?hya22⟩) hHeld ?_
          case hya22 => (intro wS hSw; (try dsimp only at hSw); go_simp; (first | done | with_reducible rfl))
          try simp only [Act.put, List.setIfInBounds_toArray, List.set_cons_zero, List.set_cons_succ]
          refine wpAnyH_take (i := 23) (oi := ⟨_, _, _, _, _, _⟩) (v := ?va23) rfl (by kernel_rfl) (by kernel_rfl) (by kernel_rfl) (fun _ _ _ h => h) (Or.inl ⟨by rfl, ?hya23⟩) hHeld ?_
          case hya23 => (intro wS hSw; (try dsimp only at hSw); go_simp; (first | done | with_reducible rfl))
          try simp only [Act.put, List.setIfInBounds_toArray, List.set_cons_zero, List.set_cons_succ]
          refine wpAnyH_take (i := 24) (oi := ⟨_, _, _, _, _, _⟩) (v := ?va24) rfl (by kernel_rfl) (by kernel_rfl) (by kernel_rfl) (fun _ _ _ h => h) (Or.inl ⟨by rfl, ?hya24⟩) hHeld ?_
          case hya24 => (intro wS hSw; (try dsimp only at hSw); go_simp; (first | done | with_reducible rfl))
          try simp only [Act.put, List.setIfInBounds_toArray, List.set_cons_zero, List.set_cons_succ]
          refine wpAnyH_ready (rs := [25]) (by kernel_rfl) (by simp) ?_
          refine AllReadyH.cons (o := ⟨_, _, _, _, _, _⟩) rfl (fun K hK => ?_) AllReadyH.nil
          go_simp
          refine HSEND.out.mono ?_
          rintro e v2 ⟨rfl, Sb2, hn, ht⟩
          have HNB := Lib.hid hn
          have HTB := Lib.hid ht
          clear hn ht HSEND
          go_wp2_with fail
          refine hK.out _ _ ?ka25 (fun hNew => ?_)
          case ka25 => (try dsimp only); exact ⟨cell_off HTB.out.off.toOff HNG.out hHeld.1, cell_off HTB.out.off.toOff HNG.out hHeld.2.1, cell_off HTB.out.off.toOff HNG.out hHeld.2.2⟩
          clear hK K hHeld
          have hHeld := hNew
          clear hNew
          try simp only [Act.put, List.setIfInBounds_toArray, List.set_cons_zero, List.set_cons_succ]
          refine wpAnyH_take (i := 26) (oi := ⟨_, _, _, _, _, _⟩) (v := ?va26) rfl (by kernel_rfl) (by kernel_rfl) (by kernel_rfl) (fun _ _ _ h => h) (Or.inl ⟨by rfl, ?hya26⟩) hHeld ?_
          case hya26 => (intro wS hSw; (try dsimp only at hSw); go_simp; (first | done | with_reducible rfl))
          try simp only [Act.put, List.setIfInBounds_toArray, List.set_cons_zero, List.set_cons_succ]
          refine wpAnyH_take (i := 27) (oi := ⟨_, _, _, _, _, _⟩) (v := ?va27) rfl (by kernel_rfl) (by kernel_rfl) (by kernel_rfl) (fun _ _ _ h => h) (Or.inl ⟨by rfl, ?hya27⟩) hHeld ?_
          case hya27 => (intro wS hSw; (try dsimp only at hSw); go_simp; (first | done | with_reducible rfl))
          try simp only [Act.put, List.setIfInBounds_toArray, List.set_cons_zero, List.set_cons_succ]
          refine wpAnyH_done (by kernel_rfl) ?_ _
          refine NoPanic.normal ?_
          have hP5 := HP4.out.turnB HNB.out HTB.out
          have HP5 := Lib.hid hP5
          clear hP5 hHeld
          go_wp2_with fail
          go_meet
          exact ⟨rfl, _, _, _, _, HP5.out, rfl, HLEN.out⟩
        · have hcb : (code == 0) = false := by simpa using h0
          have h5 : D.there i ≠ 0 := by rw [← HCODE.out]; exact h0
          have hda : (D.delay i).2 = D := by unfold Nt.delay; rw [if_neg h5]
          have hdd : (D.drop i).2 = D := by unfold Nt.drop; rw [if_neg h5]
          have hP3 := HP3.out
          rw [hdd, hda] at hP3
          have HP4 := Lib.hid hP3
          clear h5 hda hdd hP3 h0
          go_wp2_with fail
          go_meet
          exact ⟨rfl, _, _, _, _, HP4.out, rfl, rfl⟩
      case rest =>
        obtain ⟨rfl, Sa2, Sb2, Da, Db, hP, hrow, hlen⟩ := hcut
        have HP6 := Lib.hid hP
        have HROW := Lib.hid (And.intro hrow hlen)
        clear hP hrow hlen
        have HW1 := Lib.hid (way_at Sa2 na Da wc HP6.out.a)
        go_wp2_with fail
        refine HW1.out.mono ?_
        rintro e x1 ⟨vn, csn, rfl, hcsn, hLn, hgn⟩
        have HGN := Lib.hid hgn
        have HLN := Lib.hid hLn
        have HW2 := Lib.hid (way_at Sb2 nb Db x1 (HP6.out.grown hgn).b)
        obtain ⟨An0, capn, rfl⟩ := hLn.shape hcsn
        have HCSN := Lib.hid hcsn
        clear hcsn hLn hgn HW1
        go_wp2_with fail
        refine HW2.out.mono ?_
        rintro e x2 ⟨vo, cso, rfl, hcso, hLo, hgo⟩
        rw [← HROW.out.1] at hcso
        obtain ⟨Ao0, capo, rfl⟩ := hLo.shape hcso
        have HCSO := Lib.hid hcso
        have HLN2 := Lib.hid (HLN.out.grown hgo)
        have HLO2 := Lib.hid (hLo.base HGN.out.size)
        have HP7 := Lib.hid ((HP6.out.grown HGN.out).grown hgo)
        have HGO := Lib.hid hgo
        clear hcso hLo hgo HW2
        obtain ⟨R, hR⟩ : ∃ R, R = (Da.row 0).length := ⟨_, rfl⟩
        have hRD : (D.row 0).length = R := by rw [hR]; exact HROW.out.2.symm
        have hR256 : R ≤ 256 := by rw [hR]; exact HP6.out.a.ok.way
        rw [← hR, hRD]
        have HR := Lib.hid (And.intro hR hR256)
        clear hR hRD hR256
        go_wp2_with fail
        go_loopw [15] (fun iv wr => ∃ (j : Nat) (Sa : Nat → Prop), j ≤ R ∧ iv = .int .i64 (j : Int) ∧ Pair w' wr na nb Sa Sb2 (Da.rot j) Db ∧ Fix wc.heap.size x2 wr ∧ (∀ b, wc.heap.size ≤ b → b < x2.heap.size → ¬ Sa b)) (fun iv _ => R - (intOf iv).toNat)
        case atStart => exact ⟨0, Sa2, Nat.zero_le _, rfl, by rw [rot_zero]; exact HP7.out, Fix.refl _ _, fun b hb _ hs => by have := HP6.out.a.lt b hs; omega⟩
        case round =>
          obtain ⟨j, Sa3, hj, rfl, hP8, hfx, hcl⟩ := hrel
          have HP8 := Lib.hid hP8
          have HFX := Lib.hid hfx
          have HCL := Lib.hid hcl
          clear hP8 hfx hcl
          by_cases hjn : j < R
          · have hjd : decide ((j : Int) < (R : Int)) = true := by simp; omega
            have hjd2 : decide (j < R) = true := by simpa using hjn
            have hdl := delay_at Sa3 na (Da.rot j) 0 _ HP8.out.a
            rw [rot_delay Da j (by rw [← HR.out.1]; exact hjn)] at hdl
            have HDL2 := Lib.hid hdl
            have HJN := Lib.hid hjn
            clear hdl hjn
            go_wp2_with fail
            refine HDL2.out.mono ?_
            rintro e v ⟨rfl, Sa4, hn, ht⟩
            have HP9 := Lib.hid (HP8.out.turnA hn ht)
            have HFX2 := Lib.hid (HFX.out.off ht.off.toOff HCL.out)
            have HCL2 : Hid (∀ b, wc.heap.size ≤ b → b < x2.heap.size → ¬ Sa4 b) := fun b hb hlt hs => by
              rcases ht.sub b hs with e | e
              · exact HCL.out b hb hlt e
              · have := HFX.out.1; omega
            clear hn ht HDL2
            go_wp2_with fail
            go_roundw
            case rel => exact ⟨j + 1, Sa4, HJN.out, nxt_num j (by have := HJN.out; have := HR.out.2; omega), HP9.out, HFX2.out, HCL2.out⟩
            case measure => exact nxt_meas _ j HJN.out (by have := HJN.out; have := HR.out.2; omega)
          · have hjd : decide ((j : Int) < (R : Int)) = false := by simp; omega
            have hjd2 : decide (j < R) = false := by simpa using hjn
            obtain rfl : j = R := by omega
            have hw3 := way_at Sa3 na (Da.rot j) _ HP8.out.a
            rw [show (Da.rot j).row 0 = Da.row 0 by rw [HR.out.1]; exact rot_full Da] at hw3
            have HW3 := Lib.hid hw3
            clear hjn hw3
            go_wp2_with fail
            refine HW3.out.mono ?_
            rintro e x4 ⟨vg, csg, rfl, hcsg, hLg, hgg⟩
            obtain ⟨Ag0, capg, rfl⟩ := hLg.shape hcsg
            rw [← HR.out.1]
            have HCSG := Lib.hid hcsg
            have HLG := Lib.hid hLg
            have HLN4 := Lib.hid (HLN2.out.fix (HFX.out.grown hgg))
            have HLO4 := Lib.hid (HLO2.out.fix (HFX.out.grown hgg))
            have HOFF4 := Lib.hid (HP8.out.off.trans (Off.of_grown hgg (by simp)))
            clear hcsg hLg hgg HW3
            go_wp2_with fail
            go_loopw [17] (fun tv wr => ∃ t : Nat, t ≤ j ∧ tv = .int .i64 (t : Int) ∧ x4.grownBy wr none) (fun tv _ => j - (intOf tv).toNat)
            case atStart => exact ⟨0, Nat.zero_le _, rfl, World.grownBy.refl _ _⟩
            case round =>
              obtain ⟨t, ht, rfl, hgx⟩ := hrel
              have HGX := Lib.hid hgx
              clear hgx
              by_cases htn : t < j
              · have htd : decide ((t : Int) < (j : Int)) = true := by simp; omega
                have htd2 : decide (t < j) = true := by simpa using htn
                have hge : decide ((j : Int) ≤ (t : Int)) = false := decide_eq_false (by omega)
                have hge2 : decide (j ≤ t) = false := decide_eq_false (by omega)
                have t0 : (0 : Int) ≤ (t : Int) := by omega
                have t1 : (t : Int) < (j : Int) := by omega
                obtain ⟨p, hp⟩ : ∃ p, (Da.row 0)[t]? = some p := ⟨_, List.getElem?_eq_getElem (by rw [← HR.out.1]; exact htn)⟩
                have hgw := HGX.out.andThen (drew_grown _ none) (fun _ hj => .inr hj)
                obtain ⟨gn, An, cn, rfl, _, n0, n1, n2, nby⟩ := (HLN4.out.grown hgw).get (k := t) (p := p) (by rw [HCSN.out]; exact hp)
                obtain ⟨go_, Ao, co, rfl, _, o0, o1, o2, oby⟩ := (HLO4.out.grown hgw).get (k := t) (p := p) (by rw [HCSO.out]; exact hp)
                obtain ⟨gg, Ag, cg, rfl, _, g0, g1, g2, gby⟩ := (HLG.out.grown hgw).get (k := t) (p := p) (by rw [HCSG.out]; exact hp)
                have HS := Lib.hid (And.intro (And.intro n0 (And.intro n1 (And.intro n2 nby))) (And.intro (And.intro o0 (And.intro o1 (And.intro o2 oby))) (And.intro g0 (And.intro g1 (And.intro g2 gby)))))
                have HTN := Lib.hid htn
                have HGW := Lib.hid hgw
                clear hp hgw n0 n1 n2 nby o0 o1 o2 oby g0 g1 g2 gby htn
                go_upto_region 26 with fail
                refine wp_region_noPanic ?_
                refine wp_region_held_drew (S := fun w' => (w'.cell? ⟨gn, t * 3, none⟩ = some (.int .i64 p.src) ∧ w'.cell? ⟨gn, t * 3 + 1, none⟩ = some (.int .i64 p.to) ∧ w'.cell? ⟨gn, t * 3 + 2, none⟩ = some (.slice An p.b.length cn) ∧ Bytes w' (fun _ => True) An p.b) ∧ (w'.cell? ⟨go_, t * 3, none⟩ = some (.int .i64 p.src) ∧ w'.cell? ⟨go_, t * 3 + 1, none⟩ = some (.int .i64 p.to) ∧ w'.cell? ⟨go_, t * 3 + 2, none⟩ = some (.slice Ao p.b.length co) ∧ Bytes w' (fun _ => True) Ao p.b) ∧ (w'.cell? ⟨gg, t * 3, none⟩ = some (.int .i64 p.src) ∧ w'.cell? ⟨gg, t * 3 + 1, none⟩ = some (.int .i64 p.to) ∧ w'.cell? ⟨gg, t * 3 + 2, none⟩ = some (.slice Ag p.b.length cg) ∧ Bytes w' (fun _ => True) Ag p.b)) (by kernel_rfl) ?hSb (fun hHeld => ?_)
                case hSb => exact HS.out
                refine wpAnyH_take (i := 0) (oi := ⟨_, _, _, _, _, _⟩) (v := ?vb0) rfl (by kernel_rfl) (by kernel_rfl) (by kernel_rfl) (fun _ _ _ h => h) (Or.inl ⟨by rfl, ?hyb0⟩) hHeld ?_
                case hyb0 => (intro wS hSw; (try dsimp only at hSw); go_simp; (first | done | with_reducible rfl))
                try simp only [Act.put, List.setIfInBounds_toArray, List.set_cons_zero, List.set_cons_succ]
                refine wpAnyH_take (i := 1) (oi := ⟨_, _, _, _, _, _⟩) (v := ?vb1) rfl (by kernel_rfl) (by kernel_rfl) (by kernel_rfl) (fun _ _ _ h => h) (Or.inl ⟨by rfl, ?hyb1⟩) hHeld ?_
                case hyb1 => (intro wS hSw; (try dsimp only at hSw); go_simp; (first | done | with_reducible rfl))
                try simp only [Act.put, List.setIfInBounds_toArray, List.set_cons_zero, List.set_cons_succ]
                refine wpAnyH_take (i := 2) (oi := ⟨_, _, _, _, _, _⟩) (v := ?vb2) rfl (by kernel_rfl) (by kernel_rfl) (by kernel_rfl) (fun _ _ _ h => h) (Or.inl ⟨by rfl, ?hyb2⟩) hHeld ?_
                case hyb2 => (intro wS hSw; (try dsimp only at hSw); go_simp; (first | done | with_reducible rfl))
                try simp only [Act.put, List.setIfInBounds_toArray, List.set_cons_zero, List.set_cons_succ]
                refine wpAnyH_take (i := 3) (oi := ⟨_, _, _, _, _, _⟩) (v := ?vb3) rfl (by kernel_rfl) (by kernel_rfl) (by kernel_rfl) (fun _ _ _ h => h) (Or.inl ⟨by rfl, ?hyb3⟩) hHeld ?_
                case hyb3 => (intro wS hSw; (try dsimp only at hSw); go_simp; (first | done | with_reducible rfl))
                try simp only [Act.put, List.setIfInBounds_toArray, List.set_cons_zero, List.set_cons_succ]
                refine wpAnyH_take (i := 4) (oi := ⟨_, _, _, _, _, _⟩) (v := ?vb4) rfl (by kernel_rfl) (by kernel_rfl) (by kernel_rfl) (fun _ _ _ h => h) (Or.inl ⟨by rfl, ?hyb4⟩) hHeld ?_
                case hyb4 => (intro wS hSw; (try dsimp only at hSw); go_simp; (first | done | with_reducible rfl))
                try simp only [Act.put, List.setIfInBounds_toArray, List.set_cons_zero, List.set_cons_succ]
                refine wpAnyH_take (i := 5) (oi := ⟨_, _, _, _, _, _⟩) (v := ?vb5) rfl (by kernel_rfl) (by kernel_rfl) (by kernel_rfl) (fun _ _ _ h => h) (Or.inl ⟨by rfl, ?hyb5⟩) hHeld ?_
                case hyb5 => (intro wS hSw; (try dsimp only at hSw); go_simp; (first | done | with_reducible rfl))
                try simp only [Act.put, List.setIfInBounds_toArray, List.set_cons_zero, List.set_cons_succ]
                refine wpAnyH_take (i := 6) (oi := ⟨_, _, _, _, _, _⟩) (v := ?vb6) rfl (by kernel_rfl) (by kernel_rfl) (by kernel_rfl) (fun _ _ _ h => h) (Or.inl ⟨by rfl, ?hyb6⟩) hHeld ?_
                case hyb6 => (intro wS hSw; (try dsimp only at hSw); go_simp; (first | done | with_reducible rfl))
                try simp only [Act.put, List.setIfInBounds_toArray, List.set_cons_zero, List.set_cons_succ]
                refine wpAnyH_take (i := 7) (oi := ⟨_, _, _, _, _, _⟩) (v := ?vb7) rfl (by kernel_rfl) (by kernel_rfl) (by kernel_rfl) (fun _ _ _ h => h) (Or.inl ⟨by rfl, ?hyb7⟩) hHeld ?_
                case hyb7 => (intro wS hSw; (try dsimp only at hSw); go_simp; (first | done | with_reducible rfl))
                try simp only [Act.put, List.setIfInBounds_toArray, List.set_cons_zero, List.set_cons_succ]
                refine wpAnyH_take (i := 8) (oi := ⟨_, _, _, _, _, _⟩) (v := ?vb8) rfl (by kernel_rfl) (by kernel_rfl) (by kernel_rfl) (fun _ _ _ h => h) (Or.inl ⟨by rfl, ?hyb8⟩) hHeld ?_
                case hyb8 => (intro wS hSw; (try dsimp only at hSw); go_simp; (first | done | with_reducible rfl))
                try simp only [Act.put, List.setIfInBounds_toArray, List.set_cons_zero, List.set_cons_succ]
                refine wpAnyH_take (i := 9) (oi := ⟨_, _, _, _, _, _⟩) (v := ?vb9) rfl (by kernel_rfl) (by kernel_rfl) (by kernel_rfl) (fun _ _ _ h => h) (Or.inl ⟨by rfl, ?hyb9⟩) hHeld ?_
                case hyb9 => (intro wS hSw; (try dsimp only at hSw); go_simp; (first | done | with_reducible rfl))
                try simp only [Act.put, List.setIfInBounds_toArray, List.set_cons_zero, List.set_cons_succ]
                refine wpAnyH_take (i := 10) (oi := ⟨_, _, _, _, _, _⟩) (v := ?vb10) rfl (by kernel_rfl) (by kernel_rfl) (by kernel_rfl) (fun _ _ _ h => h) (Or.inl ⟨by rfl, ?hyb10⟩) hHeld ?_
                case hyb10 => (intro wS hSw; (try dsimp only at hSw); go_simp; (first | done | with_reducible rfl))
                try simp only [Act.put, List.setIfInBounds_toArray, List.set_cons_zero, List.set_cons_succ]
                refine wpAnyH_take (i := 11) (oi := ⟨_, _, _, _, _, _⟩) (v := ?vb11) rfl (by kernel_rfl) (by kernel_rfl) (by kernel_rfl) (fun _ _ _ h => h) (Or.inl ⟨by rfl, ?hyb11⟩) hHeld ?_
                case hyb11 => (intro wS hSw; (try dsimp only at hSw); go_simp; (first | done | with_reducible rfl))
                try simp only [Act.put, List.setIfInBounds_toArray, List.set_cons_zero, List.set_cons_succ]
                refine wpAnyH_take (i := 12) (oi := ⟨_, _, _, _, _, _⟩) (v := ?vb12) rfl (by kernel_rfl) (by kernel_rfl) (by kernel_rfl) (fun _ _ _ h => h) (Or.inl ⟨by rfl, ?hyb12⟩) hHeld ?_
                case hyb12 => (intro wS hSw; (try dsimp only at hSw); go_simp; (first | done | with_reducible rfl))
                try simp only [Act.put, List.setIfInBounds_toArray, List.set_cons_zero, List.set_cons_succ]
                refine wpAnyH_take (i := 13) (oi := ⟨_, _, _, _, _, _⟩) (v := ?vb13) rfl (by kernel_rfl) (by kernel_rfl) (by kernel_rfl) (fun _ _ _ h => h) (Or.inl ⟨by rfl, ?hyb13⟩) hHeld ?_
                case hyb13 => (intro wS hSw; (try dsimp only at hSw); go_simp; (first | done | with_reducible rfl))
                try simp only [Act.put, List.setIfInBounds_toArray, List.set_cons_zero, List.set_cons_succ]
                refine wpAnyH_take (i := 14) (oi := ⟨_, _, _, _, _, _⟩) (v := ?vb14) rfl (by kernel_rfl) (by kernel_rfl) (by kernel_rfl) (fun _ _ _ h => h) (Or.inl ⟨by rfl, ?hyb14⟩) hHeld ?_
                case hyb14 => (intro wS hSw; (try dsimp only at hSw); go_simp; (first | done | with_reducible rfl))
                try simp only [Act.put, List.setIfInBounds_toArray, List.set_cons_zero, List.set_cons_succ]
                refine wpAnyH_take (i := 15) (oi := ⟨_, _, _, _, _, _⟩) (v := ?vb15) rfl (by kernel_rfl) (by kernel_rfl) (by kernel_rfl) (fun _ _ _ h => h) (Or.inl ⟨by rfl, ?hyb15⟩) hHeld ?_
                case hyb15 => (intro wS hSw; (try dsimp only at hSw); go_simp; (first | done | with_reducible rfl))
                try simp only [Act.put, List.setIfInBounds_toArray, List.set_cons_zero, List.set_cons_succ]
                refine wpAnyH_take (i := 16) (oi := ⟨_, _, _, _, _, _⟩) (v := ?vb16) rfl (by kernel_rfl) (by kernel_rfl) (by kernel_rfl) (fun _ _ _ h => h) (Or.inl ⟨by rfl, ?hyb16⟩) hHeld ?_
                case hyb16 => (intro wS hSw; (try dsimp only at hSw); go_simp; (first | done | with_reducible rfl))
                try simp only [Act.put, List.setIfInBounds_toArray, List.set_cons_zero, List.set_cons_succ]
                refine wpAnyH_take (i := 17) (oi := ⟨_, _, _, _, _, _⟩) (v := ?vb17) rfl (by kernel_rfl) (by kernel_rfl) (by kernel_rfl) (fun _ _ _ h => h) (Or.inl ⟨by rfl, ?hyb17⟩) hHeld ?_
                case hyb17 => (intro wS hSw; (try dsimp only at hSw); go_simp; (first | done | with_reducible rfl))
                try simp only [Act.put, List.setIfInBounds_toArray, List.set_cons_zero, List.set_cons_succ]
                refine wpAnyH_take (i := 18) (oi := ⟨_, _, _, _, _, _⟩) (v := ?vb18) rfl (by kernel_rfl) (by kernel_rfl) (by kernel_rfl) (fun _ _ _ h => h) (Or.inl ⟨by rfl, ?hyb18⟩) hHeld ?_
                case hyb18 => (intro wS hSw; (try dsimp only at hSw); go_simp; (first | done | with_reducible rfl))
                try simp only [Act.put, List.setIfInBounds_toArray, List.set_cons_zero, List.set_cons_succ]
                refine wpAnyH_take (i := 19) (oi := ⟨_, _, _, _, _, _⟩) (v := ?vb19) rfl (by kernel_rfl) (by kernel_rfl) (by kernel_rfl) (fun _ _ _ h => h) (Or.inl ⟨by rfl, ?hyb19⟩) hHeld ?_
                case hyb19 => (intro wS hSw; (try dsimp only at hSw); go_simp; (first | done | with_reducible rfl))
                try simp only [Act.put, List.setIfInBounds_toArray, List.set_cons_zero, List.set_cons_succ]
                refine wpAnyH_take (i := 20) (oi := ⟨_, _, _, _, _, _⟩) (v := ?vb20) rfl (by kernel_rfl) (by kernel_rfl) (by kernel_rfl) (fun _ _ _ h => h) (Or.inl ⟨by rfl, ?hyb20⟩) hHeld ?_
                case hyb20 => (intro wS hSw; (try dsimp only at hSw); go_simp; (first | done | with_reducible rfl))
                try simp only [Act.put, List.setIfInBounds_toArray, List.set_cons_zero, List.set_cons_succ]
                refine wpAnyH_take (i := 21) (oi := ⟨_, _, _, _, _, _⟩) (v := ?vb21) rfl (by kernel_rfl) (by kernel_rfl) (by kernel_rfl) (fun _ _ _ h => h) (Or.inl ⟨by rfl, ?hyb21⟩) hHeld ?_
                case hyb21 => (intro wS hSw; (try dsimp only at hSw); go_simp; (first | done | with_reducible rfl))
                try simp only [Act.put, List.setIfInBounds_toArray, List.set_cons_zero, List.set_cons_succ]
                refine wpAnyH_take (i := 22) (oi := ⟨_, _, _, _, _, _⟩) (v := ?vb22) rfl (by kernel_rfl) (by kernel_rfl) (by kernel_rfl) (fun _ _ _ h => h) (Or.inl ⟨by rfl, ?hyb22⟩) hHeld ?_
                case hyb22 => (intro wS hSw; (try dsimp only at hSw); go_simp; (first | done | with_reducible rfl))
                try simp only [Act.put, List.setIfInBounds_toArray, List.set_cons_zero, List.set_cons_succ]
                refine wpAnyH_take (i := 23) (oi := ⟨_, _, _, _, _, _⟩) (v := ?vb23) rfl (by kernel_rfl) (by kernel_rfl) (by kernel_rfl) (fun _ _ _ h => h) (Or.inl ⟨by rfl, ?hyb23⟩) hHeld ?_
                case hyb23 => (intro wS hSw; (try dsimp only at hSw); go_simp; (first | done | with_reducible rfl))
                try simp only [Act.put, List.setIfInBounds_toArray, List.set_cons_zero, List.set_cons_succ]
                refine wpAnyH_take (i := 24) (oi := ⟨_, _, _, _, _, _⟩) (v := strV p.b) rfl (by kernel_rfl) (by kernel_rfl) (by kernel_rfl) (fun _ _ _ h => h) (yields_conv (by rfl) (.tmp 143) rfl Ao p.b co rfl (fun w h => h.2.1.2.2.2)) hHeld ?_
                try simp only [Act.put, List.setIfInBounds_toArray, List.set_cons_zero, List.set_cons_succ]
                refine wpAnyH_take (i := 25) (oi := ⟨_, _, _, _, _, _⟩) (v := ?vb25) rfl (by kernel_rfl) (by kernel_rfl) (by kernel_rfl) (fun _ _ _ h => h) (Or.inl ⟨by rfl, ?hyb25⟩) hHeld ?_
                case hyb25 => (intro wS hSw; (try dsimp only at hSw); go_simp; (first | done | with_reducible rfl))
                try simp only [Act.put, List.setIfInBounds_toArray, List.set_cons_zero, List.set_cons_succ]
                refine wpAnyH_ready (rs := [26]) (by kernel_rfl) (by simp) ?_
                refine AllReadyH.cons (o := ⟨_, _, _, _, _, _⟩) rfl (fun K hK => ?_) AllReadyH.nil
                have hisA := is_at p p An cn _ hHeld.1.2.2.2
                rw [isB_self] at hisA
                go_simp
                refine hisA.mono ?_
                rintro e v1 ⟨rfl, hg1⟩
                have HG1 := Lib.hid hg1
                clear hg1 hisA
                go_wp2_with fail
                refine hK.out _ _ ?kb26 (fun hNew => ?_)
                case kb26 => (try dsimp only); exact ⟨⟨HG1.out.cell hHeld.1.1 (by simp), HG1.out.cell hHeld.1.2.1 (by simp), HG1.out.cell hHeld.1.2.2.1 (by simp), hHeld.1.2.2.2.grown HG1.out⟩, ⟨HG1.out.cell hHeld.2.1.1 (by simp), HG1.out.cell hHeld.2.1.2.1 (by simp), HG1.out.cell hHeld.2.1.2.2.1 (by simp), hHeld.2.1.2.2.2.grown HG1.out⟩, ⟨HG1.out.cell hHeld.2.2.1 (by simp), HG1.out.cell hHeld.2.2.2.1 (by simp), HG1.out.cell hHeld.2.2.2.2.1 (by simp), hHeld.2.2.2.2.2.grown HG1.out⟩⟩
                clear hK K hHeld
                have hHeld := hNew
                clear hNew
                try simp only [Act.put, List.setIfInBounds_toArray, List.set_cons_zero, List.set_cons_succ]
                refine wpAnyH_take (i := 27) (oi := ⟨_, _, _, _, _, _⟩) (v := ?vb27) rfl (by kernel_rfl) (by kernel_rfl) (by kernel_rfl) (fun _ _ _ h => h) (Or.inl ⟨by rfl, ?hyb27⟩) hHeld ?_
                case hyb27 => (intro wS hSw; (try dsimp only at hSw); go_simp; (first | done | with_reducible rfl))
                try simp only [Act.put, List.setIfInBounds_toArray, List.set_cons_zero, List.set_cons_succ]
                refine wpAnyH_take (i := 28) (oi := ⟨_, _, _, _, _, _⟩) (v := ?vb28) rfl (by kernel_rfl) (by kernel_rfl) (by kernel_rfl) (fun _ _ _ h => h) (Or.inl ⟨by rfl, ?hyb28⟩) hHeld ?_
                case hyb28 => (intro wS hSw; (try dsimp only at hSw); go_simp; (first | done | with_reducible rfl))
                try simp only [Act.put, List.setIfInBounds_toArray, List.set_cons_zero, List.set_cons_succ]
                refine wpAnyH_take (i := 29) (oi := ⟨_, _, _, _, _, _⟩) (v := ?vb29) rfl (by kernel_rfl) (by kernel_rfl) (by kernel_rfl) (fun _ _ _ h => h) (Or.inl ⟨by rfl, ?hyb29⟩) hHeld ?_
                case hyb29 => (intro wS hSw; (try dsimp only at hSw); go_simp; (first | done | with_reducible rfl))
                try simp only [Act.put, List.setIfInBounds_toArray, List.set_cons_zero, List.set_cons_succ]
                refine wpAnyH_take (i := 30) (oi := ⟨_, _, _, _, _, _⟩) (v := ?vb30) rfl (by kernel_rfl) (by kernel_rfl) (by kernel_rfl) (fun _ _ _ h => h) (Or.inl ⟨by rfl, ?hyb30⟩) hHeld ?_
                case hyb30 => (intro wS hSw; (try dsimp only at hSw); go_simp; (first | done | with_reducible rfl))
                try simp only [Act.put, List.setIfInBounds_toArray, List.set_cons_zero, List.set_cons_succ]
                refine wpAnyH_take (i := 31) (oi := ⟨_, _, _, _, _, _⟩) (v := ?vb31) rfl (by kernel_rfl) (by kernel_rfl) (by kernel_rfl) (fun _ _ _ h => h) (Or.inl ⟨by rfl, ?hyb31⟩) hHeld ?_
                case hyb31 => (intro wS hSw; (try dsimp only at hSw); go_simp; (first | done | with_reducible rfl))
                try simp only [Act.put, List.setIfInBounds_toArray, List.set_cons_zero, List.set_cons_succ]
                refine wpAnyH_take (i := 32) (oi := ⟨_, _, _, _, _, _⟩) (v := ?vb32) rfl (by kernel_rfl) (by kernel_rfl) (by kernel_rfl) (fun _ _ _ h => h) (Or.inl ⟨by rfl, ?hyb32⟩) hHeld ?_
                case hyb32 => (intro wS hSw; (try dsimp only at hSw); go_simp; (first | done | with_reducible rfl))
                try simp only [Act.put, List.setIfInBounds_toArray, List.set_cons_zero, List.set_cons_succ]
                refine wpAnyH_take (i := 33) (oi := ⟨_, _, _, _, _, _⟩) (v := ?vb33) rfl (by kernel_rfl) (by kernel_rfl) (by kernel_rfl) (fun _ _ _ h => h) (Or.inl ⟨by rfl, ?hyb33⟩) hHeld ?_
                case hyb33 => (intro wS hSw; (try dsimp only at hSw); go_simp; (first | done | with_reducible rfl))
                try simp only [Act.put, List.setIfInBounds_toArray, List.set_cons_zero, List.set_cons_succ]
                refine wpAnyH_take (i := 34) (oi := ⟨_, _, _, _, _, _⟩) (v := ?vb34) rfl (by kernel_rfl) (by kernel_rfl) (by kernel_rfl) (fun _ _ _ h => h) (Or.inl ⟨by rfl, ?hyb34⟩) hHeld ?_
                case hyb34 => (intro wS hSw; (try dsimp only at hSw); go_simp; (first | done | with_reducible rfl))
                try simp only [Act.put, List.setIfInBounds_toArray, List.set_cons_zero, List.set_cons_succ]
                refine wpAnyH_take (i := 35) (oi := ⟨_, _, _, _, _, _⟩) (v := ?vb35) rfl (by kernel_rfl) (by kernel_rfl) (by kernel_rfl) (fun _ _ _ h => h) (Or.inl ⟨by rfl, ?hyb35⟩) hHeld ?_
                case hyb35 => (intro wS hSw; (try dsimp only at hSw); go_simp; (first | done | with_reducible rfl))
                try simp only [Act.put, List.setIfInBounds_toArray, List.set_cons_zero, List.set_cons_succ]
                refine wpAnyH_take (i := 36) (oi := ⟨_, _, _, _, _, _⟩) (v := ?vb36) rfl (by kernel_rfl) (by kernel_rfl) (by kernel_rfl) (fun _ _ _ h => h) (Or.inl ⟨by rfl, ?hyb36⟩) hHeld ?_
                case hyb36 => (intro wS hSw; (try dsimp only at hSw); go_simp; (first | done | with_reducible rfl))
                try simp only [Act.put, List.setIfInBounds_toArray, List.set_cons_zero, List.set_cons_succ]
                refine wpAnyH_take (i := 37) (oi := ⟨_, _, _, _, _, _⟩) (v := ?vb37) rfl (by kernel_rfl) (by kernel_rfl) (by kernel_rfl) (fun _ _ _ h => h) (Or.inl ⟨by rfl, ?hyb37⟩) hHeld ?_
                case hyb37 => (intro wS hSw; (try dsimp only at hSw); go_simp; (first | done | with_reducible rfl))
                try simp only [Act.put, List.setIfInBounds_toArray, List.set_cons_zero, List.set_cons_succ]
                refine wpAnyH_take (i := 38) (oi := ⟨_, _, _, _, _, _⟩) (v := ?vb38) rfl (by kernel_rfl) (by kernel_rfl) (by kernel_rfl) (fun _ _ _ h => h) (Or.inl ⟨by rfl, ?hyb38⟩) hHeld ?_
                case hyb38 => (intro wS hSw; (try dsimp only at hSw); go_simp; (first | done | with_reducible rfl))
                try simp only [Act.put, List.setIfInBounds_toArray, List.set_cons_zero, List.set_cons_succ]
                refine wpAnyH_take (i := 39) (oi := ⟨_, _, _, _, _, _⟩) (v := ?vb39) rfl (by kernel_rfl) (by kernel_rfl) (by kernel_rfl) (fun _ _ _ h => h) (Or.inl ⟨by rfl, ?hyb39⟩) hHeld ?_
                case hyb39 => (intro wS hSw; (try dsimp only at hSw); go_simp; (first | done | with_reducible rfl))
                try simp only [Act.put, List.setIfInBounds_toArray, List.set_cons_zero, List.set_cons_succ]
                refine wpAnyH_take (i := 40) (oi := ⟨_, _, _, _, _, _⟩) (v := ?vb40) rfl (by kernel_rfl) (by kernel_rfl) (by kernel_rfl) (fun _ _ _ h => h) (Or.inl ⟨by rfl, ?hyb40⟩) hHeld ?_
                case hyb40 => (intro wS hSw; (try dsimp only at hSw); go_simp; (first | done | with_reducible rfl))
                try simp only [Act.put, List.setIfInBounds_toArray, List.set_cons_zero, List.set_cons_succ]
                refine wpAnyH_take (i := 41) (oi := ⟨_, _, _, _, _, _⟩) (v := ?vb41) rfl (by kernel_rfl) (by kernel_rfl) (by kernel_rfl) (fun _ _ _ h => h) (Or.inl ⟨by rfl, ?hyb41⟩) hHeld ?_
                case hyb41 => (intro wS hSw; (try dsimp only at hSw); go_simp; (first | done | with_reducible rfl))
                try simp only [Act.put, List.setIfInBounds_toArray, List.set_cons_zero, List.set_cons_succ]
                refine wpAnyH_take (i := 42) (oi := ⟨_, _, _, _, _, _⟩) (v := ?vb42) rfl (by kernel_rfl) (by kernel_rfl) (by kernel_rfl) (fun _ _ _ h => h) (Or.inl ⟨by rfl, ?hyb42⟩) hHeld ?_
                case hyb42 => (intro wS hSw; (try dsimp only at hSw); go_simp; (first | done | with_reducible rfl))
                try simp only [Act.put, List.setIfInBounds_toArray, List.set_cons_zero, List.set_cons_succ]
                refine wpAnyH_take (i := 43) (oi := ⟨_, _, _, _, _, _⟩) (v := ?vb43) rfl (by kernel_rfl) (by kernel_rfl) (by kernel_rfl) (fun _ _ _ h => h) (Or.inl ⟨by rfl, ?hyb43⟩) hHeld ?_
                case hyb43 => (intro wS hSw; (try dsimp only at hSw); go_simp; (first | done | with_reducible rfl))
                try simp only [Act.put, List.setIfInBounds_toArray, List.set_cons_zero, List.set_cons_succ]
                refine wpAnyH_take (i := 44) (oi := ⟨_, _, _, _, _, _⟩) (v := ?vb44) rfl (by kernel_rfl) (by kernel_rfl) (by kernel_rfl) (fun _ _ _ h => h) (Or.inl ⟨by rfl, ?hyb44⟩) hHeld ?_
                case hyb44 => (intro wS hSw; (try dsimp only at hSw); go_simp; (first | done | with_reducible rfl))
                try simp only [Act.put, List.setIfInBounds_toArray, List.set_cons_zero, List.set_cons_succ]
                refine wpAnyH_take (i := 45) (oi := ⟨_, _, _, _, _, _⟩) (v := ?vb45) rfl (by kernel_rfl) (by kernel_rfl) (by kernel_rfl) (fun _ _ _ h => h) (Or.inl ⟨by rfl, ?hyb45⟩) hHeld ?_
                case hyb45 => (intro wS hSw; (try dsimp only at hSw); go_simp; (first | done | with_reducible rfl))
                try simp only [Act.put, List.setIfInBounds_toArray, List.set_cons_zero, List.set_cons_succ]
                refine wpAnyH_take (i := 46) (oi := ⟨_, _, _, _, _, _⟩) (v := ?vb46) rfl (by kernel_rfl) (by kernel_rfl) (by kernel_rfl) (fun _ _ _ h => h) (Or.inl ⟨by rfl, ?hyb46⟩) hHeld ?_
                case hyb46 => (intro wS hSw; (try dsimp only at hSw); go_simp; (first | done | with_reducible rfl))
                try simp only [Act.put, List.setIfInBounds_toArray, List.set_cons_zero, List.set_cons_succ]
                refine wpAnyH_take (i := 47) (oi := ⟨_, _, _, _, _, _⟩) (v := ?vb47) rfl (by kernel_rfl) (by kernel_rfl) (by kernel_rfl) (fun _ _ _ h => h) (Or.inl ⟨by rfl, ?hyb47⟩) hHeld ?_
                case hyb47 => (intro wS hSw; (try dsimp only at hSw); go_simp; (first | done | with_reducible rfl))
                try simp only [Act.put, List.setIfInBounds_toArray, List.set_cons_zero, List.set_cons_succ]
                refine wpAnyH_take (i := 48) (oi := ⟨_, _, _, _, _, _⟩) (v := ?vb48) rfl (by kernel_rfl) (by kernel_rfl) (by kernel_rfl) (fun _ _ _ h => h) (Or.inl ⟨by rfl, ?hyb48⟩) hHeld ?_
                case hyb48 => (intro wS hSw; (try dsimp only at hSw); go_simp; (first | done | with_reducible rfl))
                try simp only [Act.put, List.setIfInBounds_toArray, List.set_cons_zero, List.set_cons_succ]
                refine wpAnyH_take (i := 49) (oi := ⟨_, _, _, _, _, _⟩) (v := strV p.b) rfl (by kernel_rfl) (by kernel_rfl) (by kernel_rfl) (fun _ _ _ h => h) (yields_conv (by rfl) (.tmp 168) rfl An p.b cn rfl (fun w h => h.1.2.2.2)) hHeld ?_
                try simp only [Act.put, List.setIfInBounds_toArray, List.set_cons_zero, List.set_cons_succ]
                refine wpAnyH_take (i := 50) (oi := ⟨_, _, _, _, _, _⟩) (v := ?vb50) rfl (by kernel_rfl) (by kernel_rfl) (by kernel_rfl) (fun _ _ _ h => h) (Or.inl ⟨by rfl, ?hyb50⟩) hHeld ?_
                case hyb50 => (intro wS hSw; (try dsimp only at hSw); go_simp; (first | done | with_reducible rfl))
                try simp only [Act.put, List.setIfInBounds_toArray, List.set_cons_zero, List.set_cons_succ]
                refine wpAnyH_ready (rs := [51]) (by kernel_rfl) (by simp) ?_
                refine AllReadyH.cons (o := ⟨_, _, _, _, _, _⟩) rfl (fun K hK => ?_) AllReadyH.nil
                have hisB := is_at p p Ag cg _ hHeld.2.2.2.2.2
                rw [isB_self] at hisB
                go_simp
                refine hisB.mono ?_
                rintro e v2 ⟨rfl, hg2⟩
                have HG2 := Lib.hid hg2
                clear hg2 hisB
                go_wp2_with fail
                refine hK.out _ _ ?kb51 (fun hNew => ?_)
                case kb51 => (try dsimp only); exact ⟨⟨HG2.out.cell hHeld.1.1 (by simp), HG2.out.cell hHeld.1.2.1 (by simp), HG2.out.cell hHeld.1.2.2.1 (by simp), hHeld.1.2.2.2.grown HG2.out⟩, ⟨HG2.out.cell hHeld.2.1.1 (by simp), HG2.out.cell hHeld.2.1.2.1 (by simp), HG2.out.cell hHeld.2.1.2.2.1 (by simp), hHeld.2.1.2.2.2.grown HG2.out⟩, ⟨HG2.out.cell hHeld.2.2.1 (by simp), HG2.out.cell hHeld.2.2.2.1 (by simp), HG2.out.cell hHeld.2.2.2.2.1 (by simp), hHeld.2.2.2.2.2.grown HG2.out⟩⟩
                clear hK K hHeld
                have hHeld := hNew
                clear hNew
                try simp only [Act.put, List.setIfInBounds_toArray, List.set_cons_zero, List.set_cons_succ]
                refine wpAnyH_take (i := 52) (oi := ⟨_, _, _, _, _, _⟩) (v := ?vb52) rfl (by kernel_rfl) (by kernel_rfl) (by kernel_rfl) (fun _ _ _ h => h) (Or.inl ⟨by rfl, ?hyb52⟩) hHeld ?_
                case hyb52 => (intro wS hSw; (try dsimp only at hSw); go_simp; (first | done | with_reducible rfl))
                try simp only [Act.put, List.setIfInBounds_toArray, List.set_cons_zero, List.set_cons_succ]
                refine wpAnyH_take (i := 53) (oi := ⟨_, _, _, _, _, _⟩) (v := ?vb53) rfl (by kernel_rfl) (by kernel_rfl) (by kernel_rfl) (fun _ _ _ h => h) (Or.inl ⟨by rfl, ?hyb53⟩) hHeld ?_
                case hyb53 => (intro wS hSw; (try dsimp only at hSw); go_simp; (first | done | with_reducible rfl))
                try simp only [Act.put, List.setIfInBounds_toArray, List.set_cons_zero, List.set_cons_succ]
                refine wpAnyH_done (by kernel_rfl) ?_ _
                refine NoPanic.normal ?_
                have HG12 := Lib.hid ((HGW.out.andThen HG1.out (fun _ hj => .inr hj)).andThen HG2.out (fun _ hj => .inr hj))
                clear hHeld
                go_wp2_with fail
                go_roundw
                case rel => exact ⟨t + 1, HTN.out, nxt_num t (by have := HTN.out; have := HR.out.2; omega), HG12.out⟩
                case measure => exact nxt_meas _ t HTN.out (by have := HTN.out; have := HR.out.2; omega)
              · have htd : decide ((t : Int) < (j : Int)) = false := by simp; omega
                have htd2 : decide (t < j) = false := by simpa using htn
                clear htn
                go_wp2_with fail
                refine (works_at _).mono ?_
                rintro e z ⟨rfl, hg⟩
                have HGZ := Lib.hid hg
                clear hg
                go_wp2_with fail
                go_ret
                exact ⟨rfl, FIN.out _ ((HOFF4.out.trans (Off.of_grown HGX.out (by simp))).trans (Off.of_grown HGZ.out (by simp)))⟩
end Go.Proofs.Ytonfpifikblnjaa.Net
