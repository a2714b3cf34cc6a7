/- SectorsCuts: the walk. -/
import Derived.Test.YtplnkpbfnpajjaaSecInv
namespace Go.Proofs.Ytplnkpbfnpajjaa.Sec
open Go.RowKit Go.Maps

set_option maxRecDepth 100000 in
set_option maxHeartbeats 8000000 in
theorem cuts_walk (A A2 : Option Addr) (l l2 : List CallV) (cap cap2 : Nat) (w : World) (h1 : CallsAt w (fun b => w.heap.size ≤ b) A l) (h2 : CallsAt w (fun b => w.heap.size ≤ b) A2 l2) (hc1 : l.length ≤ cap) (hc2 : cap ≤ maxLen) (hc3 : l2.length ≤ cap2) (hc4 : cap2 ≤ maxLen) :
    Calls Try.prog 3 #[.slice A l.length cap, .slice A2 l2.length cap2] w fun e w' => e = .returned (.bool true) ∧ Below w.heap.size w w' := by
  have HL1 := Lib.hid (large_at _ A l cap w h1 hc1 hc2)
  have HL2 := Lib.hid (large_at _ A2 l2 cap2 w h2 hc3 hc4)
  have HC1 := Lib.hid h1
  have HC2 := Lib.hid h2
  clear h1 h2 hc1 hc2 hc3 hc4
  have FIN : Hid (∀ w' : World, Off (fun b => w.heap.size ≤ b) w w' → Below w.heap.size w w') := fun w' h => h.below (Nat.le_refl _) (fun k hk h => by omega)
  obtain ⟨r1, hr1⟩ : ∃ r, r = big l := ⟨_, rfl⟩
  obtain ⟨r2, hr2⟩ : ∃ r, r = big l2 := ⟨_, rfl⟩
  rw [← hr1] at HL1
  rw [← hr2] at HL2
  have HR := Lib.hid (And.intro hr1 hr2)
  clear hr1 hr2
  go_enter Try.func3, Try.ntmps3
  go_wp2_with fail
  refine HL1.out.mono ?_
  rintro e w' ⟨rfl, rfl⟩
  cases r1
  case true =>
    go_wp2_with fail
    refine (works_at w).mono ?_
    rintro e w' ⟨rfl, ho⟩
    have HO := Lib.hid ho
    clear ho
    go_wp2_with fail
    go_ret
    exact ⟨rfl, FIN.out _ (HO.out.mono (fun _ _ h => h.elim))⟩
  go_wp2_with fail
  refine HL2.out.mono ?_
  rintro e w' ⟨rfl, rfl⟩
  cases r2
  case true =>
    go_wp2_with fail
    refine (works_at w).mono ?_
    rintro e w' ⟨rfl, ho⟩
    have HO := Lib.hid ho
    clear ho
    go_wp2_with fail
    go_ret
    exact ⟨rfl, FIN.out _ (HO.out.mono (fun _ _ h => h.elim))⟩
  have hlen : l.length ≤ 60 ∧ l2.length ≤ 60 := by
    obtain ⟨e1, e2⟩ := HR.out
    unfold big at e1 e2
    have e1 := of_decide_eq_false e1.symm
    have e2 := of_decide_eq_false e2.symm
    omega
  obtain ⟨hl1, hl2⟩ := hlen
  clear HL1 HL2 HR
  go_wp2_with fail
  refine (new_at 8 w).mono ?_
  rintro e v0 ⟨d, rfl, hd, ho⟩
  have hd : DiskAt v0 (fun b => w.heap.size ≤ b) d (freshDisk 8) := hd
  have HD0 := Lib.hid hd
  have HO0 : Hid (Off (fun b => w.heap.size ≤ b) w v0) := ho.mono (fun _ _ h => h.elim)
  clear hd ho
  go_wp2_with fail
  go_loopw [6] (fun iv wr => ∃ (k : Nat) (D : Dsk), k ≤ l.length ∧ iv = .int .i64 (k : Int) ∧ DiskAt wr (fun b => w.heap.size ≤ b) d D ∧ Good D ∧ D.wr.length ≤ k ∧ Off (fun b => w.heap.size ≤ b) w wr) (fun iv _ => l.length - (intOf iv).toNat)
  case atStart => exact ⟨0, _, Nat.zero_le _, rfl, HD0.out, good_fresh, Nat.le_refl _, HO0.out⟩
  case round =>
    obtain ⟨k, D, hk, rfl, hd, hg, hw, ho⟩ := hrel
    have HD := Lib.hid hd
    have HG := Lib.hid hg
    have HW := Lib.hid hw
    have HO := Lib.hid ho
    clear hd hg hw ho HD0 HO0
    by_cases hlt : k < l.length
    · have hkd : decide ((k : Int) < (l.length : Int)) = true := by simp; omega
      have k0 : (0 : Int) ≤ (k : Int) := by omega
      have k1 : (k : Int) < (l.length : Int) := by omega
      obtain ⟨ga, off, c, rfl, hc, _, c2, Ab, capb, c3, hrb, _⟩ := (HC1.out.off HO.out).at_ hlt
      have hns : ¬ w.heap.size ≤ ga := by
        rcases HC1.out.2 with e | ⟨_, _, e, h, _⟩
        · rw [e] at hlt; simp at hlt
        · cases e; exact h
      have C2 : Hid (wr.drew.cell? ⟨ga, off + k * 3 + 1, none⟩ = some (.int .i64 c.i)) := c2
      have C3 : Hid (wr.drew.cell? ⟨ga, off + k * 3 + 2, none⟩ = some (.slice Ab c.b.length capb)) := c3
      have HNS := Lib.hid hns
      have hl3 := (low3_both c.i).1
      have HWR := Lib.hid (write_at (fun b => w.heap.size ≤ b) d (low3 c.i : Int) D c.b Ab capb wr.drew (HD.out.grown (drew_grown wr none)) (hrb.grown (drew_grown wr none)) (fun b hb => by have := HO.out.size; show w.heap.size ≤ b; exact Nat.le_trans this hb) (by have := HW.out; omega))
      have hw2 := HG.out.wrote (low3_both c.i).2 c.b
      generalize wrote D (low3 c.i : Int) c.b = W at HWR hw2
      have HW2 := Lib.hid hw2
      clear hw2
      clear c2 c3 hrb hns
      go_wp2_with fail
      refine wp_region_noPanic ?_
      refine wp_region_held_drew (S := fun w' => w'.cell? ⟨ga, off + k * 3 + 1, none⟩ = some (.int .i64 c.i) ∧ w'.cell? ⟨ga, off + k * 3 + 2, none⟩ = some (.slice Ab c.b.length capb)) (by kernel_rfl) ?hSa (fun hHeld => ?_)
      case hSa => exact ⟨C2.out, C3.out⟩
      refine wpAnyH_take (i := 0) (oi := ⟨_, _, _, _, _, _⟩) (v := ?va0) rfl (by kernel_rfl) (by kernel_rfl) (by kernel_rfl) (fun _ _ _ h => h) (Or.inl ⟨by rfl, ?hya0⟩) hHeld ?_
      case hya0 => (intro wS hSw; (try dsimp only at hSw); go_simp; (first | done | with_reducible rfl))
      try simp only [Act.put, List.setIfInBounds_toArray, List.set_cons_zero, List.set_cons_succ]
      refine wpAnyH_take (i := 1) (oi := ⟨_, _, _, _, _, _⟩) (v := ?va1) rfl (by kernel_rfl) (by kernel_rfl) (by kernel_rfl) (fun _ _ _ h => h) (Or.inl ⟨by rfl, ?hya1⟩) hHeld ?_
      case hya1 => (intro wS hSw; (try dsimp only at hSw); go_simp; (first | done | with_reducible rfl))
      try simp only [Act.put, List.setIfInBounds_toArray, List.set_cons_zero, List.set_cons_succ]
      refine wpAnyH_take (i := 2) (oi := ⟨_, _, _, _, _, _⟩) (v := ?va2) rfl (by kernel_rfl) (by kernel_rfl) (by kernel_rfl) (fun _ _ _ h => h) (Or.inl ⟨by rfl, ?hya2⟩) hHeld ?_
      case hya2 => (intro wS hSw; (try dsimp only at hSw); go_simp; (first | done | with_reducible rfl))
      try simp only [Act.put, List.setIfInBounds_toArray, List.set_cons_zero, List.set_cons_succ]
      refine wpAnyH_take (i := 3) (oi := ⟨_, _, _, _, _, _⟩) (v := ?va3) rfl (by kernel_rfl) (by kernel_rfl) (by kernel_rfl) (fun _ _ _ h => h) (Or.inl ⟨by rfl, ?hya3⟩) hHeld ?_
      case hya3 => (intro wS hSw; (try dsimp only at hSw); go_simp; (first | done | with_reducible rfl))
      try simp only [Act.put, List.setIfInBounds_toArray, List.set_cons_zero, List.set_cons_succ]
      refine wpAnyH_take (i := 4) (oi := ⟨_, _, _, _, _, _⟩) (v := ?va4) rfl (by kernel_rfl) (by kernel_rfl) (by kernel_rfl) (fun _ _ _ h => h) (Or.inl ⟨by rfl, ?hya4⟩) hHeld ?_
      case hya4 => (intro wS hSw; (try dsimp only at hSw); go_simp; (first | done | with_reducible rfl))
      try simp only [Act.put, List.setIfInBounds_toArray, List.set_cons_zero, List.set_cons_succ]
      refine wpAnyH_take (i := 5) (oi := ⟨_, _, _, _, _, _⟩) (v := ?va5) rfl (by kernel_rfl) (by kernel_rfl) (by kernel_rfl) (fun _ _ _ h => h) (Or.inl ⟨by rfl, ?hya5⟩) hHeld ?_
      case hya5 => (intro wS hSw; (try dsimp only at hSw); go_simp; (first | done | with_reducible rfl))
      try simp only [Act.put, List.setIfInBounds_toArray, List.set_cons_zero, List.set_cons_succ]
      refine wpAnyH_take (i := 6) (oi := ⟨_, _, _, _, _, _⟩) (v := ?va6) rfl (by kernel_rfl) (by kernel_rfl) (by kernel_rfl) (fun _ _ _ h => h) (Or.inl ⟨by rfl, ?hya6⟩) hHeld ?_
      case hya6 => (intro wS hSw; (try dsimp only at hSw); go_simp; (first | done | with_reducible rfl))
      try simp only [Act.put, List.setIfInBounds_toArray, List.set_cons_zero, List.set_cons_succ]
      refine wpAnyH_take (i := 7) (oi := ⟨_, _, _, _, _, _⟩) (v := ?va7) rfl (by kernel_rfl) (by kernel_rfl) (by kernel_rfl) (fun _ _ _ h => h) (Or.inl ⟨by rfl, ?hya7⟩) hHeld ?_
      case hya7 => (intro wS hSw; (try dsimp only at hSw); go_simp; (first | done | with_reducible rfl))
      try simp only [Act.put, List.setIfInBounds_toArray, List.set_cons_zero, List.set_cons_succ]
      refine wpAnyH_take (i := 8) (oi := ⟨_, _, _, _, _, _⟩) (v := ?va8) rfl (by kernel_rfl) (by kernel_rfl) (by kernel_rfl) (fun _ _ _ h => h) (Or.inl ⟨by rfl, ?hya8⟩) hHeld ?_
      case hya8 => (intro wS hSw; (try dsimp only at hSw); go_simp; (first | done | with_reducible rfl))
      try simp only [Act.put, List.setIfInBounds_toArray, List.set_cons_zero, List.set_cons_succ]
      refine wpAnyH_take (i := 9) (oi := ⟨_, _, _, _, _, _⟩) (v := ?va9) rfl (by kernel_rfl) (by kernel_rfl) (by kernel_rfl) (fun _ _ _ h => h) (Or.inl ⟨by rfl, ?hya9⟩) hHeld ?_
      case hya9 => (intro wS hSw; (try dsimp only at hSw); go_simp; (first | done | with_reducible rfl))
      try simp only [Act.put, List.setIfInBounds_toArray, List.set_cons_zero, List.set_cons_succ]
      refine wpAnyH_take (i := 10) (oi := ⟨_, _, _, _, _, _⟩) (v := ?va10) rfl (by kernel_rfl) (by kernel_rfl) (by kernel_rfl) (fun _ _ _ h => h) (Or.inl ⟨by rfl, ?hya10⟩) hHeld ?_
      case hya10 => (intro wS hSw; (try dsimp only at hSw); go_simp; (first | done | with_reducible rfl))
      try simp only [Act.put, List.setIfInBounds_toArray, List.set_cons_zero, List.set_cons_succ]
      refine wpAnyH_take (i := 11) (oi := ⟨_, _, _, _, _, _⟩) (v := ?va11) rfl (by kernel_rfl) (by kernel_rfl) (by kernel_rfl) (fun _ _ _ h => h) (Or.inl ⟨by rfl, ?hya11⟩) hHeld ?_
      case hya11 => (intro wS hSw; (try dsimp only at hSw); go_simp; (first | done | with_reducible rfl))
      try simp only [Act.put, List.setIfInBounds_toArray, List.set_cons_zero, List.set_cons_succ]
      refine wpAnyH_ready (rs := [12]) (by kernel_rfl) (by simp) ?_
      refine AllReadyH.cons (o := ⟨_, _, _, _, _, _⟩) rfl (fun K hK => ?_) AllReadyH.nil
      go_simp
      refine HWR.out.mono ?_
      rintro e v ⟨rfl, hdv, hov⟩
      have HDV := Lib.hid hdv
      have HOV := Lib.hid hov
      clear hdv hov HWR
      go_wp2_with fail
      refine hK.out _ _ ?ka12 (fun hNew => ?_)
      case ka12 => (try dsimp only); exact ⟨cell_off HOV.out HNS.out C2.out, cell_off HOV.out HNS.out C3.out⟩
      clear hK K hHeld
      have hHeld := hNew
      clear hNew
      try simp only [Act.put, List.setIfInBounds_toArray, List.set_cons_zero, List.set_cons_succ]
      refine wpAnyH_done (by kernel_rfl) ?_ _
      refine NoPanic.normal ?_
      go_wp2_with fail
      go_roundw
      case rel =>
        have hov := (Off.of_grown (drew_grown wr none) (by simp)).trans HOV.out
        have hdv := HDV.out
        have hwl := HW.out
        rw [HW2.out] at hdv
        split at hdv
        · exact ⟨k + 1, D, hlt, by go_num, hdv, HG.out, by omega, HO.out.trans hov⟩
        · exact ⟨k + 1, _, hlt, by go_num, hdv, HG.out.push _ _, by show (D.wr ++ [_]).length ≤ _; rw [List.length_append]; simp; omega, HO.out.trans hov⟩
      case measure => simp [intOf]; omega
    · have hkd : decide (k < l.length) = false := by simpa using hlt
      clear hlt
      go_wp2_with fail
      refine (settle_at (fun b => w.heap.size ≤ b) d D wr HD.out).mono ?_
      rintro e v1 ⟨rfl, hd1, ho1⟩
      have hg2 := HG.out.settle
      obtain ⟨D2, hD2⟩ : ∃ E : Dsk, E = { D with base := D.now, wr := [] } := ⟨_, rfl⟩
      rw [← hD2] at hd1 hg2
      have hw2 : D2.wr = [] := by rw [hD2]
      have HD2 := Lib.hid hd1
      have HG2 := Lib.hid hg2
      have HO1 := Lib.hid (HO.out.trans ho1)
      clear hd1 ho1 hg2 hD2 hkd
      go_wp2_with fail
      refine (tell_at (fun b => w.heap.size ≤ b) d D2 v1 HD2.out HG2.out.off).mono ?_
      rintro e v2 ⟨first, rfl, hrow, ho2⟩
      rw [HG2.out.n] at hrow
      have hbase : D2.now = D2.base := by rw [HG2.out.now, hw2]; rfl
      rw [hbase] at hrow
      have hI : Inv2 w d v1.heap.size D2.base first 0 (.slice none 0 0) v2 (Beside (fun b => w.heap.size ≤ b) v1.heap.size v2.heap.size) D2 := by
        refine ⟨HD2.out.beside ho2.none, HG2.out, rfl, by rw [hw2]; exact Nat.le_refl _, by rw [hw2]; exact World.ownsRow_nil _ _ _ _, by simp [Value.ownBlock], by simp [Value.ownBlock], hrow, ?_, beside_new, ?_, HO1.out.trans (ho2.mono (fun _ _ h => h.elim))⟩
        · intro g hg
          have := hrow.lt g hg
          exact beside_not this.1 this.2
        · rintro b (⟨h, _⟩ | h)
          · exact h
          · have h3 := HO1.out.size
            have h4 := ho2.size
            show w.heap.size ≤ b
            omega
      have HI := Lib.hid hI
      clear hI hrow ho2 hbase hw2 HO HD HG HW HC1
      generalize D2.base = base0 at HI
      generalize v1.heap.size = B1 at HI
      clear HD2 HG2 HO1
      go_wp2_with fail
      go_loopw [8, 9] (fun av iv wr => ∃ (k : Nat) (S : Nat → Prop) (D : Dsk), k ≤ l2.length ∧ iv = .int .i64 (k : Int) ∧ Inv2 w d B1 base0 first k av wr S D) (fun _ iv _ => l2.length - (intOf iv).toNat)
      case atStart => exact ⟨0, _, _, Nat.zero_le _, rfl, HI.out⟩
      case round =>
        obtain ⟨k, S, D, hk, rfl, hI⟩ := hrel
        have HI2 := Lib.hid hI
        clear hI HI
        by_cases hlt : k < l2.length
        · have hkd : decide ((k : Int) < (l2.length : Int)) = true := by simp; omega
          have k0 : (0 : Int) ≤ (k : Int) := by omega
          have k1 : (k : Int) < (l2.length : Int) := by omega
          have hca := (HC2.out.off HI2.out.off).mono (T := S) (fun b _ hs => HI2.out.from_ b hs)
          obtain ⟨ga, off, c, rfl, hc, _, c2, Ab, capb, c3, hrb, _⟩ := hca.at_ hlt
          have hns : ¬ S ga := by
            rcases hca.2 with e | ⟨_, _, e, h, _⟩
            · rw [e] at hlt; simp at hlt
            · cases e; exact h
          have C2 : Hid (wr.drew.cell? ⟨ga, off + k * 3 + 1, none⟩ = some (.int .i64 c.i)) := c2
          have C3 : Hid (wr.drew.cell? ⟨ga, off + k * 3 + 2, none⟩ = some (.slice Ab c.b.length capb)) := c3
          have HNS := Lib.hid hns
          have hl3 := (low3_both c.i).1
          have hfew := HI2.out.few
          have HWR := Lib.hid (write_at S d (low3 c.i : Int) D c.b Ab capb wr.drew (HI2.out.disk.grown (drew_grown wr none)) (hrb.grown (drew_grown wr none)) HI2.out.new (by omega))
          rw [HI2.out.good.wrote (low3_both c.i).2 c.b] at HWR
          clear c2 c3 hrb hns hca
          by_cases hb : 128 < c.b.length
          · rw [if_pos hb] at HWR
            clear hb
            go_wp2_with fail
            refine wp_region_noPanic ?_
            refine wp_region_held_drew (S := fun w' => w'.cell? ⟨ga, off + k * 3 + 1, none⟩ = some (.int .i64 c.i) ∧ w'.cell? ⟨ga, off + k * 3 + 2, none⟩ = some (.slice Ab c.b.length capb)) (by kernel_rfl) ?hSb (fun hHeld => ?_)
            case hSb => exact ⟨C2.out, C3.out⟩
            refine wpAnyH_take (i := 0) (oi := ⟨_, _, _, _, _, _⟩) (v := ?vb0) rfl (by kernel_rfl) (by kernel_rfl) (by kernel_rfl) (fun _ _ _ h => h) (Or.inl ⟨by rfl, ?hyb0⟩) hHeld ?_
            case hyb0 => (intro wS hSw; (try dsimp only at hSw); go_simp; (first | done | with_reducible rfl))
            try simp only [Act.put, List.setIfInBounds_toArray, List.set_cons_zero, List.set_cons_succ]
            refine wpAnyH_take (i := 1) (oi := ⟨_, _, _, _, _, _⟩) (v := ?vb1) rfl (by kernel_rfl) (by kernel_rfl) (by kernel_rfl) (fun _ _ _ h => h) (Or.inl ⟨by rfl, ?hyb1⟩) hHeld ?_
            case hyb1 => (intro wS hSw; (try dsimp only at hSw); go_simp; (first | done | with_reducible rfl))
            try simp only [Act.put, List.setIfInBounds_toArray, List.set_cons_zero, List.set_cons_succ]
            refine wpAnyH_take (i := 2) (oi := ⟨_, _, _, _, _, _⟩) (v := ?vb2) rfl (by kernel_rfl) (by kernel_rfl) (by kernel_rfl) (fun _ _ _ h => h) (Or.inl ⟨by rfl, ?hyb2⟩) hHeld ?_
            case hyb2 => (intro wS hSw; (try dsimp only at hSw); go_simp; (first | done | with_reducible rfl))
            try simp only [Act.put, List.setIfInBounds_toArray, List.set_cons_zero, List.set_cons_succ]
            refine wpAnyH_take (i := 3) (oi := ⟨_, _, _, _, _, _⟩) (v := ?vb3) rfl (by kernel_rfl) (by kernel_rfl) (by kernel_rfl) (fun _ _ _ h => h) (Or.inl ⟨by rfl, ?hyb3⟩) hHeld ?_
            case hyb3 => (intro wS hSw; (try dsimp only at hSw); go_simp; (first | done | with_reducible rfl))
            try simp only [Act.put, List.setIfInBounds_toArray, List.set_cons_zero, List.set_cons_succ]
            refine wpAnyH_take (i := 4) (oi := ⟨_, _, _, _, _, _⟩) (v := ?vb4) rfl (by kernel_rfl) (by kernel_rfl) (by kernel_rfl) (fun _ _ _ h => h) (Or.inl ⟨by rfl, ?hyb4⟩) hHeld ?_
            case hyb4 => (intro wS hSw; (try dsimp only at hSw); go_simp; (first | done | with_reducible rfl))
            try simp only [Act.put, List.setIfInBounds_toArray, List.set_cons_zero, List.set_cons_succ]
            refine wpAnyH_take (i := 5) (oi := ⟨_, _, _, _, _, _⟩) (v := ?vb5) rfl (by kernel_rfl) (by kernel_rfl) (by kernel_rfl) (fun _ _ _ h => h) (Or.inl ⟨by rfl, ?hyb5⟩) hHeld ?_
            case hyb5 => (intro wS hSw; (try dsimp only at hSw); go_simp; (first | done | with_reducible rfl))
            try simp only [Act.put, List.setIfInBounds_toArray, List.set_cons_zero, List.set_cons_succ]
            refine wpAnyH_take (i := 6) (oi := ⟨_, _, _, _, _, _⟩) (v := ?vb6) rfl (by kernel_rfl) (by kernel_rfl) (by kernel_rfl) (fun _ _ _ h => h) (Or.inl ⟨by rfl, ?hyb6⟩) hHeld ?_
            case hyb6 => (intro wS hSw; (try dsimp only at hSw); go_simp; (first | done | with_reducible rfl))
            try simp only [Act.put, List.setIfInBounds_toArray, List.set_cons_zero, List.set_cons_succ]
            refine wpAnyH_take (i := 7) (oi := ⟨_, _, _, _, _, _⟩) (v := ?vb7) rfl (by kernel_rfl) (by kernel_rfl) (by kernel_rfl) (fun _ _ _ h => h) (Or.inl ⟨by rfl, ?hyb7⟩) hHeld ?_
            case hyb7 => (intro wS hSw; (try dsimp only at hSw); go_simp; (first | done | with_reducible rfl))
            try simp only [Act.put, List.setIfInBounds_toArray, List.set_cons_zero, List.set_cons_succ]
            refine wpAnyH_take (i := 8) (oi := ⟨_, _, _, _, _, _⟩) (v := ?vb8) rfl (by kernel_rfl) (by kernel_rfl) (by kernel_rfl) (fun _ _ _ h => h) (Or.inl ⟨by rfl, ?hyb8⟩) hHeld ?_
            case hyb8 => (intro wS hSw; (try dsimp only at hSw); go_simp; (first | done | with_reducible rfl))
            try simp only [Act.put, List.setIfInBounds_toArray, List.set_cons_zero, List.set_cons_succ]
            refine wpAnyH_take (i := 9) (oi := ⟨_, _, _, _, _, _⟩) (v := ?vb9) rfl (by kernel_rfl) (by kernel_rfl) (by kernel_rfl) (fun _ _ _ h => h) (Or.inl ⟨by rfl, ?hyb9⟩) hHeld ?_
            case hyb9 => (intro wS hSw; (try dsimp only at hSw); go_simp; (first | done | with_reducible rfl))
            try simp only [Act.put, List.setIfInBounds_toArray, List.set_cons_zero, List.set_cons_succ]
            refine wpAnyH_take (i := 10) (oi := ⟨_, _, _, _, _, _⟩) (v := ?vb10) rfl (by kernel_rfl) (by kernel_rfl) (by kernel_rfl) (fun _ _ _ h => h) (Or.inl ⟨by rfl, ?hyb10⟩) hHeld ?_
            case hyb10 => (intro wS hSw; (try dsimp only at hSw); go_simp; (first | done | with_reducible rfl))
            try simp only [Act.put, List.setIfInBounds_toArray, List.set_cons_zero, List.set_cons_succ]
            refine wpAnyH_take (i := 11) (oi := ⟨_, _, _, _, _, _⟩) (v := ?vb11) rfl (by kernel_rfl) (by kernel_rfl) (by kernel_rfl) (fun _ _ _ h => h) (Or.inl ⟨by rfl, ?hyb11⟩) hHeld ?_
            case hyb11 => (intro wS hSw; (try dsimp only at hSw); go_simp; (first | done | with_reducible rfl))
            try simp only [Act.put, List.setIfInBounds_toArray, List.set_cons_zero, List.set_cons_succ]
            refine wpAnyH_ready (rs := [12]) (by kernel_rfl) (by simp) ?_
            refine AllReadyH.cons (o := ⟨_, _, _, _, _, _⟩) rfl (fun K hK => ?_) AllReadyH.nil
            go_simp
            refine HWR.out.mono ?_
            rintro e v ⟨rfl, hdv, hov⟩
            have HDV := Lib.hid hdv
            have HOV := Lib.hid hov
            clear hdv hov HWR
            go_wp2_with fail
            refine hK.out _ _ ?kb12 (fun hNew => ?_)
            case kb12 => (try dsimp only); exact ⟨cell_off HOV.out HNS.out C2.out, cell_off HOV.out HNS.out C3.out⟩
            clear hK K hHeld
            have hHeld := hNew
            clear hNew
            try simp only [Act.put, List.setIfInBounds_toArray, List.set_cons_zero, List.set_cons_succ]
            refine wpAnyH_take (i := 13) (oi := ⟨_, _, _, _, _, _⟩) (v := ?vb13) rfl (by kernel_rfl) (by kernel_rfl) (by kernel_rfl) (fun _ _ _ h => h) (Or.inl ⟨by rfl, ?hyb13⟩) hHeld ?_
            case hyb13 => (intro wS hSw; (try dsimp only at hSw); go_simp; (first | done | with_reducible rfl))
            try simp only [Act.put, List.setIfInBounds_toArray, List.set_cons_zero, List.set_cons_succ]
            refine wpAnyH_done (by kernel_rfl) ?_ _
            refine NoPanic.normal ?_
            go_wp2_with fail
            go_roundw
            case rel => exact ⟨k + 1, S, D, hlt, by go_num, HI2.out.same HDV.out ((Off.of_grown (drew_grown wr none) (by simp)).trans HOV.out)⟩
            case measure => simp [intOf]; omega
          · rw [if_neg hb] at HWR
            clear hb
            go_wp2_with fail
            refine wp_region_noPanic ?_
            refine wp_region_held_drew (S := fun w' => w'.cell? ⟨ga, off + k * 3 + 1, none⟩ = some (.int .i64 c.i) ∧ w'.cell? ⟨ga, off + k * 3 + 2, none⟩ = some (.slice Ab c.b.length capb)) (by kernel_rfl) ?hSc (fun hHeld => ?_)
            case hSc => exact ⟨C2.out, C3.out⟩
            refine wpAnyH_take (i := 0) (oi := ⟨_, _, _, _, _, _⟩) (v := ?vc0) rfl (by kernel_rfl) (by kernel_rfl) (by kernel_rfl) (fun _ _ _ h => h) (Or.inl ⟨by rfl, ?hyc0⟩) hHeld ?_
            case hyc0 => (intro wS hSw; (try dsimp only at hSw); go_simp; (first | done | with_reducible rfl))
            try simp only [Act.put, List.setIfInBounds_toArray, List.set_cons_zero, List.set_cons_succ]
            refine wpAnyH_take (i := 1) (oi := ⟨_, _, _, _, _, _⟩) (v := ?vc1) rfl (by kernel_rfl) (by kernel_rfl) (by kernel_rfl) (fun _ _ _ h => h) (Or.inl ⟨by rfl, ?hyc1⟩) hHeld ?_
            case hyc1 => (intro wS hSw; (try dsimp only at hSw); go_simp; (first | done | with_reducible rfl))
            try simp only [Act.put, List.setIfInBounds_toArray, List.set_cons_zero, List.set_cons_succ]
            refine wpAnyH_take (i := 2) (oi := ⟨_, _, _, _, _, _⟩) (v := ?vc2) rfl (by kernel_rfl) (by kernel_rfl) (by kernel_rfl) (fun _ _ _ h => h) (Or.inl ⟨by rfl, ?hyc2⟩) hHeld ?_
            case hyc2 => (intro wS hSw; (try dsimp only at hSw); go_simp; (first | done | with_reducible rfl))
            try simp only [Act.put, List.setIfInBounds_toArray, List.set_cons_zero, List.set_cons_succ]
            refine wpAnyH_take (i := 3) (oi := ⟨_, _, _, _, _, _⟩) (v := ?vc3) rfl (by kernel_rfl) (by kernel_rfl) (by kernel_rfl) (fun _ _ _ h => h) (Or.inl ⟨by rfl, ?hyc3⟩) hHeld ?_
            case hyc3 => (intro wS hSw; (try dsimp only at hSw); go_simp; (first | done | with_reducible rfl))
            try simp only [Act.put, List.setIfInBounds_toArray, List.set_cons_zero, List.set_cons_succ]
            refine wpAnyH_take (i := 4) (oi := ⟨_, _, _, _, _, _⟩) (v := ?vc4) rfl (by kernel_rfl) (by kernel_rfl) (by kernel_rfl) (fun _ _ _ h => h) (Or.inl ⟨by rfl, ?hyc4⟩) hHeld ?_
            case hyc4 => (intro wS hSw; (try dsimp only at hSw); go_simp; (first | done | with_reducible rfl))
            try simp only [Act.put, List.setIfInBounds_toArray, List.set_cons_zero, List.set_cons_succ]
            refine wpAnyH_take (i := 5) (oi := ⟨_, _, _, _, _, _⟩) (v := ?vc5) rfl (by kernel_rfl) (by kernel_rfl) (by kernel_rfl) (fun _ _ _ h => h) (Or.inl ⟨by rfl, ?hyc5⟩) hHeld ?_
            case hyc5 => (intro wS hSw; (try dsimp only at hSw); go_simp; (first | done | with_reducible rfl))
            try simp only [Act.put, List.setIfInBounds_toArray, List.set_cons_zero, List.set_cons_succ]
            refine wpAnyH_take (i := 6) (oi := ⟨_, _, _, _, _, _⟩) (v := ?vc6) rfl (by kernel_rfl) (by kernel_rfl) (by kernel_rfl) (fun _ _ _ h => h) (Or.inl ⟨by rfl, ?hyc6⟩) hHeld ?_
            case hyc6 => (intro wS hSw; (try dsimp only at hSw); go_simp; (first | done | with_reducible rfl))
            try simp only [Act.put, List.setIfInBounds_toArray, List.set_cons_zero, List.set_cons_succ]
            refine wpAnyH_take (i := 7) (oi := ⟨_, _, _, _, _, _⟩) (v := ?vc7) rfl (by kernel_rfl) (by kernel_rfl) (by kernel_rfl) (fun _ _ _ h => h) (Or.inl ⟨by rfl, ?hyc7⟩) hHeld ?_
            case hyc7 => (intro wS hSw; (try dsimp only at hSw); go_simp; (first | done | with_reducible rfl))
            try simp only [Act.put, List.setIfInBounds_toArray, List.set_cons_zero, List.set_cons_succ]
            refine wpAnyH_take (i := 8) (oi := ⟨_, _, _, _, _, _⟩) (v := ?vc8) rfl (by kernel_rfl) (by kernel_rfl) (by kernel_rfl) (fun _ _ _ h => h) (Or.inl ⟨by rfl, ?hyc8⟩) hHeld ?_
            case hyc8 => (intro wS hSw; (try dsimp only at hSw); go_simp; (first | done | with_reducible rfl))
            try simp only [Act.put, List.setIfInBounds_toArray, List.set_cons_zero, List.set_cons_succ]
            refine wpAnyH_take (i := 9) (oi := ⟨_, _, _, _, _, _⟩) (v := ?vc9) rfl (by kernel_rfl) (by kernel_rfl) (by kernel_rfl) (fun _ _ _ h => h) (Or.inl ⟨by rfl, ?hyc9⟩) hHeld ?_
            case hyc9 => (intro wS hSw; (try dsimp only at hSw); go_simp; (first | done | with_reducible rfl))
            try simp only [Act.put, List.setIfInBounds_toArray, List.set_cons_zero, List.set_cons_succ]
            refine wpAnyH_take (i := 10) (oi := ⟨_, _, _, _, _, _⟩) (v := ?vc10) rfl (by kernel_rfl) (by kernel_rfl) (by kernel_rfl) (fun _ _ _ h => h) (Or.inl ⟨by rfl, ?hyc10⟩) hHeld ?_
            case hyc10 => (intro wS hSw; (try dsimp only at hSw); go_simp; (first | done | with_reducible rfl))
            try simp only [Act.put, List.setIfInBounds_toArray, List.set_cons_zero, List.set_cons_succ]
            refine wpAnyH_take (i := 11) (oi := ⟨_, _, _, _, _, _⟩) (v := ?vc11) rfl (by kernel_rfl) (by kernel_rfl) (by kernel_rfl) (fun _ _ _ h => h) (Or.inl ⟨by rfl, ?hyc11⟩) hHeld ?_
            case hyc11 => (intro wS hSw; (try dsimp only at hSw); go_simp; (first | done | with_reducible rfl))
            try simp only [Act.put, List.setIfInBounds_toArray, List.set_cons_zero, List.set_cons_succ]
            refine wpAnyH_ready (rs := [12]) (by kernel_rfl) (by simp) ?_
            refine AllReadyH.cons (o := ⟨_, _, _, _, _, _⟩) rfl (fun K hK => ?_) AllReadyH.nil
            go_simp
            refine HWR.out.mono ?_
            rintro e v ⟨rfl, hdv, hov⟩
            have HDV := Lib.hid hdv
            have HOV := Lib.hid hov
            clear hdv hov HWR
            go_wp2_with fail
            refine hK.out _ _ ?kc12 (fun hNew => ?_)
            case kc12 => (try dsimp only); exact ⟨cell_off HOV.out HNS.out C2.out, cell_off HOV.out HNS.out C3.out⟩
            clear hK K hHeld
            have hHeld := hNew
            clear hNew
            try simp only [Act.put, List.setIfInBounds_toArray, List.set_cons_zero, List.set_cons_succ]
            refine wpAnyH_take (i := 13) (oi := ⟨_, _, _, _, _, _⟩) (v := ?vc13) rfl (by kernel_rfl) (by kernel_rfl) (by kernel_rfl) (fun _ _ _ h => h) (Or.inl ⟨by rfl, ?hyc13⟩) hHeld ?_
            case hyc13 => (intro wS hSw; (try dsimp only at hSw); go_simp; (first | done | with_reducible rfl))
            try simp only [Act.put, List.setIfInBounds_toArray, List.set_cons_zero, List.set_cons_succ]
            refine wpAnyH_done (by kernel_rfl) ?_ _
            refine NoPanic.normal ?_
            have hov := (Off.of_grown (drew_grown wr none) (by simp)).trans HOV.out
            have c2v : v.cell? ⟨ga, off + k * 3 + 1, none⟩ = some (.int .i64 c.i) := cell_off HOV.out HNS.out C2.out
            have hrowv : IntRow (v.alloc (.cells #[.int .i64 (low3 c.i : Int)] 3)) u8 (D.wr.map (·.1)) := (HI2.out.behind_ hov).1.alloc _
            have HROW := Lib.hid hrowv
            have HCN := Lib.hid (cell_new v #[.int .i64 (low3 c.i : Int)] 3 0)
            have HLEN : Hid ((D.wr.map (·.1)).length < 100000) := by show _ < _; rw [List.length_map]; omega
            have HOV2 := Lib.hid hov
            clear hov hrowv hHeld
            go_wp2_with (first
              | (at_builtin; refine wpList_append_int rfl (.tmp 62) (.tmp 69) rfl u8 (D.wr.map (·.1)) (low3 c.i) rfl HROW.out v.heap.size rfl HCN.out HLEN.out ?_; intro av2 w3 hr3 hg3 hob3; go_frame)
              | go_in)
            go_roundw
            case rel => exact ⟨k + 1, _, _, hlt, by go_num, HI2.out.more HDV.out HOV2.out hr3 hg3 hob3 (fun g hg => (hr3.lt g hg).2)⟩
            case measure => simp [intOf]; omega
        · have hkd : decide (k < l2.length) = false := by simpa using hlt
          clear hlt
          go_wp2_with fail
          obtain ⟨Ai, capi, hu8, hcell⟩ := int_row HI2.out.row
          rw [List.length_map] at hu8
          subst hu8
          have HCELL := Lib.hid hcell
          have HFEW : Hid (D.wr.length < 1000000) := by have := HI2.out.few; show _ < _; omega
          clear hcell
          refine (writes_at S d D wr HI2.out.disk).mono ?_
          rintro e x0 ⟨rfl, rfl⟩
          go_wp2_with fail
          -- cut at none
          refine (cut_at S d D 0 wr HI2.out.disk (by exact HFEW.out)).mono ?_
          rintro e v3 ⟨c1, rfl, hd3, ho3⟩
          have HD3 := Lib.hid hd3
          have HO3 := Lib.hid ho3
          clear hd3 ho3
          go_wp2_with fail
          refine (tell_at _ c1 (D.cut 0) v3 HD3.out rfl).mono ?_
          rintro e v4 ⟨va, rfl, hra, ho4⟩
          rw [show (D.cut 0).n = 8 from HI2.out.good.n] at hra
          have HRA := Lib.hid hra
          have HO4 := Lib.hid ho4
          clear hra ho4 HD3
          go_wp2_with fail
          refine (like_at _ _ va first _ base0 (-1) v4 HRA.out (row_off (row_off HI2.out.told HO3.out (fun _ _ h => h)) HO4.out (fun _ _ h => h)) (fun i _ _ => ?_)).mono ?_
          · rw [← HI2.out.base]
            show behind D.base (D.wr.take _) i = _
            rw [show (max 0 (min (D.wr.length : Int) 0)).toNat = 0 by omega]
            rfl
          rintro e v5 ⟨rfl, ho5⟩
          have HO5 := Lib.hid ((HO3.out.trans HO4.out).trans ho5)
          clear ho5 HO3 HO4 HRA
          go_wp2_with fail
          -- cut at all
          refine (cut_at S d D (D.wr.length : Int) v5 (HI2.out.disk.grown HO5.out.none) (by exact HFEW.out)).mono ?_
          rintro e v6 ⟨c2, rfl, hd6, ho6⟩
          have HD6 := Lib.hid hd6
          have HO6 := Lib.hid (HO5.out.trans ho6)
          clear hd6 ho6 HO5
          go_wp2_with fail
          refine (tell_at _ c2 (D.cut (D.wr.length : Int)) v6 HD6.out rfl).mono ?_
          rintro e v7 ⟨vb, rfl, hrb, ho7⟩
          rw [show (D.cut (D.wr.length : Int)).n = 8 from HI2.out.good.n] at hrb
          have HRB := Lib.hid hrb
          have HO7 := Lib.hid (HO6.out.trans ho7)
          clear hrb ho7 HD6 HO6
          go_wp2_with fail
          refine (tell_at S d D v7 (HI2.out.disk.grown HO7.out.none) HI2.out.good.off).mono ?_
          rintro e v8 ⟨vc, rfl, hrc, ho8⟩
          rw [HI2.out.good.n] at hrc
          have HRC := Lib.hid hrc
          have HO8 := Lib.hid (HO7.out.trans ho8)
          have HRB2 := Lib.hid (row_off HRB.out ho8 (fun _ _ h => h))
          clear hrc ho8 HO7 HRB
          go_wp2_with fail
          refine (like_at _ _ vb vc _ D.now (-1) v8 HRB2.out HRC.out (fun i _ _ => ?_)).mono ?_
          · rw [HI2.out.good.now]
            show behind D.base (D.wr.take _) i = _
            rw [show (max 0 (min (D.wr.length : Int) (D.wr.length : Int))).toNat = D.wr.length by omega, List.take_length]
          rintro e v9 ⟨rfl, ho9⟩
          have HO9 := Lib.hid (HO8.out.trans ho9)
          clear ho9 HO8 HRB2 HRC
          go_wp2_with fail
          obtain ⟨kk, hkk⟩ : ∃ kk, kk = k := ⟨_, rfl⟩
          rw [← hkk]
          clear hkk
          go_loopw [10] (fun iv wq => ∃ k : Nat, k ≤ D.wr.length ∧ iv = .int .i64 (k : Int) ∧ Off (fun _ => False) wr wq) (fun iv _ => D.wr.length - (intOf iv).toNat)
          case atStart => exact ⟨0, Nat.zero_le _, rfl, HO9.out⟩
          case round =>
            obtain ⟨k, hk, rfl, hoz⟩ := hrel
            have HOZ := Lib.hid hoz
            have HDZ := Lib.hid (HI2.out.disk.grown hoz.none)
            clear hoz
            by_cases hlt : k < D.wr.length
            · have hkd : decide ((k : Int) < (D.wr.length : Int)) = true := by simp; omega
              have k0 : (0 : Int) ≤ (k : Int) := by omega
              have k1 : (k : Int) < (D.wr.length : Int) := by omega
              obtain ⟨p, hp⟩ : ∃ p, D.wr[k]? = some p := ⟨_, List.getElem?_eq_getElem hlt⟩
              obtain ⟨y, hy⟩ : ∃ y, y = p.1 := ⟨_, rfl⟩
              obtain ⟨gi, rfl, _, hci⟩ := HCELL.out k y (by rw [List.getElem?_map, hp, hy]; rfl)
              have CI : Hid (wr.drew.cell? ⟨gi, k, none⟩ = some (.int .i64 (y : Int))) := cell_off HOZ.out (fun h => h) hci
              have hkw : IntKind.i64.wrap ((k : Int) + 1) = (k : Int) + 1 := by have := HFEW.out; rw [IntKind.wrap_i64]; omega
              have HALL : Hid (∀ i : Nat, i < 8 → (i : Int) ≠ (y : Int) → (D.cut (k : Int)).now i = (D.cut ((k : Int) + 1)).now i) := by
                intro i _ hne
                exact cut_step D k p hp i (by rw [← hy]; exact hne)
              clear hci hp hy
              go_wp2_with fail
              refine wp_region_noPanic ?_
              refine wp_region_held_drew (S := fun w' => w'.cell? ⟨gi, k, none⟩ = some (.int .i64 (y : Int))) (by kernel_rfl) ?hSe (fun hHeld => ?_)
              case hSe => exact CI.out
              refine wpAnyH_take (i := 0) (oi := ⟨_, _, _, _, _, _⟩) (v := ?ve0) rfl (by kernel_rfl) (by kernel_rfl) (by kernel_rfl) (fun _ _ _ h => h) (Or.inl ⟨by rfl, ?hye0⟩) hHeld ?_
              case hye0 => (intro wS hSw; (try dsimp only at hSw); go_simp; (first | done | with_reducible rfl))
              try simp only [Act.put, List.setIfInBounds_toArray, List.set_cons_zero, List.set_cons_succ]
              refine wpAnyH_take (i := 1) (oi := ⟨_, _, _, _, _, _⟩) (v := ?ve1) rfl (by kernel_rfl) (by kernel_rfl) (by kernel_rfl) (fun _ _ _ h => h) (Or.inl ⟨by rfl, ?hye1⟩) hHeld ?_
              case hye1 => (intro wS hSw; (try dsimp only at hSw); go_simp; (first | done | with_reducible rfl))
              try simp only [Act.put, List.setIfInBounds_toArray, List.set_cons_zero, List.set_cons_succ]
              refine wpAnyH_take (i := 4) (oi := ⟨_, _, _, _, _, _⟩) (v := ?ve4) rfl (by kernel_rfl) (by kernel_rfl) (by kernel_rfl) (fun _ _ _ h => h) (Or.inl ⟨by rfl, ?hye4⟩) hHeld ?_
              case hye4 => (intro wS hSw; (try dsimp only at hSw); go_simp; (first | done | with_reducible rfl))
              try simp only [Act.put, List.setIfInBounds_toArray, List.set_cons_zero, List.set_cons_succ]
              refine wpAnyH_take (i := 5) (oi := ⟨_, _, _, _, _, _⟩) (v := ?ve5) rfl (by kernel_rfl) (by kernel_rfl) (by kernel_rfl) (fun _ _ _ h => h) (Or.inl ⟨by rfl, ?hye5⟩) hHeld ?_
              case hye5 => (intro wS hSw; (try dsimp only at hSw); go_simp; (first | done | with_reducible rfl))
              try simp only [Act.put, List.setIfInBounds_toArray, List.set_cons_zero, List.set_cons_succ]
              refine wpAnyH_take (i := 6) (oi := ⟨_, _, _, _, _, _⟩) (v := ?ve6) rfl (by kernel_rfl) (by kernel_rfl) (by kernel_rfl) (fun _ _ _ h => h) (Or.inl ⟨by rfl, ?hye6⟩) hHeld ?_
              case hye6 => (intro wS hSw; (try dsimp only at hSw); go_simp; (first | done | with_reducible rfl))
              try simp only [Act.put, List.setIfInBounds_toArray, List.set_cons_zero, List.set_cons_succ]
              refine wpAnyH_take (i := 9) (oi := ⟨_, _, _, _, _, _⟩) (v := ?ve9) rfl (by kernel_rfl) (by kernel_rfl) (by kernel_rfl) (fun _ _ _ h => h) (Or.inl ⟨by rfl, ?hye9⟩) hHeld ?_
              case hye9 => (intro wS hSw; (try dsimp only at hSw); go_simp; (first | done | with_reducible rfl))
              try simp only [Act.put, List.setIfInBounds_toArray, List.set_cons_zero, List.set_cons_succ]
              refine wpAnyH_take (i := 10) (oi := ⟨_, _, _, _, _, _⟩) (v := ?ve10) rfl (by kernel_rfl) (by kernel_rfl) (by kernel_rfl) (fun _ _ _ h => h) (Or.inl ⟨by rfl, ?hye10⟩) hHeld ?_
              case hye10 => (intro wS hSw; (try dsimp only at hSw); go_simp; (first | done | with_reducible rfl))
              try simp only [Act.put, List.setIfInBounds_toArray, List.set_cons_zero, List.set_cons_succ]
              refine wpAnyH_take (i := 11) (oi := ⟨_, _, _, _, _, _⟩) (v := ?ve11) rfl (by kernel_rfl) (by kernel_rfl) (by kernel_rfl) (fun _ _ _ h => h) (Or.inl ⟨by rfl, ?hye11⟩) hHeld ?_
              case hye11 => (intro wS hSw; (try dsimp only at hSw); go_simp; (first | done | with_reducible rfl))
              try simp only [Act.put, List.setIfInBounds_toArray, List.set_cons_zero, List.set_cons_succ]
              refine wpAnyH_take (i := 12) (oi := ⟨_, _, _, _, _, _⟩) (v := ?ve12) rfl (by kernel_rfl) (by kernel_rfl) (by kernel_rfl) (fun _ _ _ h => h) (Or.inl ⟨by rfl, ?hye12⟩) hHeld ?_
              case hye12 => (intro wS hSw; (try dsimp only at hSw); go_simp; (first | done | with_reducible rfl))
              try simp only [Act.put, List.setIfInBounds_toArray, List.set_cons_zero, List.set_cons_succ]
              refine wpAnyH_ready (rs := [2]) (by kernel_rfl) (by simp) ?_
              refine AllReadyH.cons (o := ⟨_, _, _, _, _, _⟩) rfl (fun K hK => ?_) AllReadyH.nil
              go_simp
              refine (cut_at S d D (k : Int) wr.drew (HDZ.out.grown (drew_grown wr none)) (by exact HFEW.out)).mono ?_
              rintro e x1 ⟨c1, rfl, hd1, ho1⟩
              have HX1 := Lib.hid hd1
              have HO1 := Lib.hid ho1
              clear hd1 ho1
              go_wp2_with fail
              refine hK.out _ _ ?ke2 (fun hNew => ?_)
              case ke2 => (try dsimp only); exact cell_off HO1.out (fun h => h) hHeld
              clear hK K hHeld
              have hHeld := hNew
              clear hNew
              try simp only [Act.put, List.setIfInBounds_toArray, List.set_cons_zero, List.set_cons_succ]
              refine wpAnyH_ready (rs := [3]) (by kernel_rfl) (by simp) ?_
              refine AllReadyH.cons (o := ⟨_, _, _, _, _, _⟩) rfl (fun K hK => ?_) AllReadyH.nil
              go_simp
              refine (tell_at _ c1 (D.cut (k : Int)) x1 HX1.out rfl).mono ?_
              rintro e x2 ⟨va, rfl, hra, ho2⟩
              have HRA := Lib.hid hra
              have HO2 := Lib.hid ho2
              clear hra ho2 HX1
              go_wp2_with fail
              refine hK.out _ _ ?ke3 (fun hNew => ?_)
              case ke3 => (try dsimp only); exact cell_off HO2.out (fun h => h) hHeld
              clear hK K hHeld
              have hHeld := hNew
              clear hNew
              try simp only [Act.put, List.setIfInBounds_toArray, List.set_cons_zero, List.set_cons_succ]
              refine wpAnyH_ready (rs := [7]) (by kernel_rfl) (by simp) ?_
              refine AllReadyH.cons (o := ⟨_, _, _, _, _, _⟩) rfl (fun K hK => ?_) AllReadyH.nil
              go_simp
              refine (cut_at S d D ((k : Int) + 1) x2 (((HDZ.out.grown (drew_grown wr none)).grown HO1.out.none).grown HO2.out.none) (by exact HFEW.out)).mono ?_
              rintro e x3 ⟨c3, rfl, hd3, ho3⟩
              have HX3 := Lib.hid hd3
              have HO3 := Lib.hid ho3
              clear hd3 ho3
              go_wp2_with fail
              refine hK.out _ _ ?ke7 (fun hNew => ?_)
              case ke7 => (try dsimp only); exact cell_off HO3.out (fun h => h) hHeld
              clear hK K hHeld
              have hHeld := hNew
              clear hNew
              try simp only [Act.put, List.setIfInBounds_toArray, List.set_cons_zero, List.set_cons_succ]
              refine wpAnyH_ready (rs := [8]) (by kernel_rfl) (by simp) ?_
              refine AllReadyH.cons (o := ⟨_, _, _, _, _, _⟩) rfl (fun K hK => ?_) AllReadyH.nil
              go_simp
              refine (tell_at _ c3 (D.cut ((k : Int) + 1)) x3 HX3.out rfl).mono ?_
              rintro e x4 ⟨vb, rfl, hrb, ho4⟩
              have HRB := Lib.hid hrb
              have HO4 := Lib.hid ho4
              clear hrb ho4 HX3
              go_wp2_with fail
              refine hK.out _ _ ?ke8 (fun hNew => ?_)
              case ke8 => (try dsimp only); exact cell_off HO4.out (fun h => h) hHeld
              clear hK K hHeld
              have hHeld := hNew
              clear hNew
              try simp only [Act.put, List.setIfInBounds_toArray, List.set_cons_zero, List.set_cons_succ]
              refine wpAnyH_ready (rs := [13]) (by kernel_rfl) (by simp) ?_
              refine AllReadyH.cons (o := ⟨_, _, _, _, _, _⟩) rfl (fun K hK => ?_) AllReadyH.nil
              go_simp
              have hra4 : StrRow x4 x1.heap.size va (tellV (D.cut (k : Int)).now 8) := by
                have := row_off (row_off HRA.out HO3.out (fun _ _ h => h)) HO4.out (fun _ _ h => h)
                rw [show (D.cut (k : Int)).n = 8 from HI2.out.good.n] at this
                exact this
              have hrb4 : StrRow x4 x3.heap.size vb (tellV (D.cut ((k : Int) + 1)).now 8) := by
                have := HRB.out
                rw [show (D.cut ((k : Int) + 1)).n = 8 from HI2.out.good.n] at this
                exact this
              refine (like_at _ _ va vb _ _ (y : Int) x4 hra4 hrb4 HALL.out).mono ?_
              rintro e x5 ⟨rfl, ho5⟩
              have HO5 := Lib.hid ho5
              clear ho5 hra4 hrb4
              go_wp2_with fail
              refine hK.out _ _ ?ke13 (fun hNew => ?_)
              case ke13 => (try dsimp only); exact cell_off HO5.out (fun h => h) hHeld
              clear hK K hHeld
              have hHeld := hNew
              clear hNew
              try simp only [Act.put, List.setIfInBounds_toArray, List.set_cons_zero, List.set_cons_succ]
              refine wpAnyH_take (i := 14) (oi := ⟨_, _, _, _, _, _⟩) (v := ?ve14) rfl (by kernel_rfl) (by kernel_rfl) (by kernel_rfl) (fun _ _ _ h => h) (Or.inl ⟨by rfl, ?hye14⟩) hHeld ?_
              case hye14 => (intro wS hSw; (try dsimp only at hSw); go_simp; (first | done | with_reducible rfl))
              try simp only [Act.put, List.setIfInBounds_toArray, List.set_cons_zero, List.set_cons_succ]
              refine wpAnyH_done (by kernel_rfl) ?_ _
              refine NoPanic.normal ?_
              go_wp2_with fail
              go_roundw
              case rel => exact ⟨k + 1, hlt, by go_num, ((((((HOZ.out.trans (Off.of_grown (drew_grown wr none) (by simp))).trans HO1.out).trans HO2.out).trans HO3.out).trans HO4.out).trans HO5.out)⟩
              case measure => simp [intOf]; omega
            · have hkd : decide (k < D.wr.length) = false := by simpa using hlt
              clear hlt hk
              go_wp2_with fail
              refine (works_at wr).mono ?_
              rintro e w' ⟨rfl, ho⟩
              have HO := Lib.hid ho
              clear ho
              go_wp2_with fail
              go_ret
              exact ⟨rfl, FIN.out _ (HI2.out.off.trans ((HOZ.out.trans HO.out).mono (fun _ _ h => h.elim)))⟩
end Go.Proofs.Ytplnkpbfnpajjaa.Sec
