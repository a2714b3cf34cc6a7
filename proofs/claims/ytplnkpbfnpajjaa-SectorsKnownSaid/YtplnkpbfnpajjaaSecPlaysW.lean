/- SectorsPlays: the walk. -/
import Derived.Test.YtplnkpbfnpajjaaRefDoes
namespace Go.Proofs.Ytplnkpbfnpajjaa.Sec
open Go.RowKit Go.Maps

theorem Off.elim {S : Nat → Prop} {a b : World} (h : Off (fun _ => False) a b) : Off S a b := h.mono (fun _ _ h => h.elim)
theorem wrote_few {n : Nat} (D : Dsk) (c : CallV) (h : D.wr.length ≤ n) : (didV D c).wr.length ≤ n + 1 := by have := (didV_len D c).1; omega
/-- What holds behind k of the calls. -/
structure InvP (w : World) (k : Nat) (wr : World) (S T : Nat → Prop) (d m : Nat) (D : Dsk) : Prop where
  two : Two wr S T d m D
  few : D.wr.length ≤ k
  sW : ∀ b, S b → w.heap.size ≤ b
  tW : ∀ b, T b → w.heap.size ≤ b
  off : Off (fun b => w.heap.size ≤ b) w wr
theorem InvP.start {w v0 v1 : World} {d m : Nat} {n : Nat} (hd : DiskAt v0 (fun b => w.heap.size ≤ b) d (freshDisk n)) (ho : Off (fun _ => False) w v0) (hm : RefAt v1 (fun b => v0.heap.size ≤ b) m (freshDisk n)) (ho1 : Off (fun _ => False) v0 v1) :
    InvP w 0 v1 (fun b => w.heap.size ≤ b ∧ b < v0.heap.size) (fun b => v0.heap.size ≤ b ∧ b < v1.heap.size) d m (freshDisk n) :=
  ⟨⟨(hd.mono (fun b hb hs => ⟨hs, hb⟩)).grown ho1.none, hm.mono (fun b hb hs => ⟨hs, hb⟩), rfl, fun b h1 h2 => by omega, fun b h => by have := ho1.size; omega, fun b h => h.2⟩, Nat.le_refl _, fun b h => h.1, fun b h => by have := ho.size; omega, (ho.trans ho1).elim⟩

set_option maxRecDepth 100000 in
set_option maxHeartbeats 8000000 in
theorem plays_walk (n : Int) (A : Option Addr) (l : List CallV) (cap : Nat) (w : World) (hl : CallsAt w (fun b => w.heap.size ≤ b) A l) (hlc : l.length ≤ cap) (hcap : cap ≤ maxLen) :
    Calls Try.prog 4 #[.int .i64 n, .slice A l.length cap] w fun e w' => e = .returned (.bool true) ∧ Below w.heap.size w w' := by
  have HL1 := Lib.hid (large_at _ A l cap w hl hlc hcap)
  have HL := Lib.hid hl
  clear hl hlc hcap
  have FIN : Hid (∀ w' : World, Off (fun b => w.heap.size ≤ b) w w' → Below w.heap.size w w') := fun w' h => h.below (Nat.le_refl _) (fun k hk h => by omega)
  obtain ⟨r1, hr1⟩ : ∃ r, r = big l := ⟨_, rfl⟩
  rw [← hr1] at HL1
  have HR := Lib.hid hr1
  clear hr1
  have HWK := Lib.hid works_at
  by_cases hn : 30 < n
  · have hn1 : decide (30 < n) = true := by simp; omega
    clear hn
    go_enter Try.func4, Try.ntmps4
    go_wp2_with fail
    refine HL1.out.mono ?_
    rintro e w' ⟨rfl, rfl⟩
    cases r1 <;>
    · go_wp2_with fail
      refine (HWK.out w).mono ?_
      rintro e w' ⟨rfl, ho⟩
      have HO := Lib.hid ho
      clear ho
      go_wp2_with fail
      go_ret
      exact ⟨rfl, FIN.out _ HO.out.elim⟩
  have hn1 : decide (30 < n) = false := by simp; omega
  clear hn
  go_enter Try.func4, Try.ntmps4
  go_wp2_with fail
  refine HL1.out.mono ?_
  rintro e w' ⟨rfl, rfl⟩
  cases r1
  case true =>
    go_wp2_with fail
    refine (HWK.out w).mono ?_
    rintro e w' ⟨rfl, ho⟩
    have HO := Lib.hid ho
    clear ho
    go_wp2_with fail
    go_ret
    exact ⟨rfl, FIN.out _ HO.out.elim⟩
  have hl60 : l.length ≤ 60 := by
    have e1 := HR.out
    unfold big at e1
    have e1 := of_decide_eq_false e1.symm
    omega
  clear HL1 HR
  go_wp2_with fail
  refine (new_at n w).mono ?_
  rintro e v0 ⟨d0, rfl, hd, ho⟩
  have HD0 := Lib.hid (And.intro hd ho)
  clear hd ho
  go_wp2_with fail
  refine (rnew_at n v0).mono ?_
  rintro e v1 ⟨m0, rfl, hm, ho⟩
  have HST := Lib.hid (InvP.start HD0.out.1 HD0.out.2 hm ho)
  clear hm ho HD0
  go_wp2_with fail
  go_loopw [5, 6, 7] (fun dv mv iv wr => ∃ (k d m : Nat) (S T : Nat → Prop) (D : Dsk), k ≤ l.length ∧ dv = .pointer (some ⟨d, 0, none⟩) ∧ mv = .pointer (some ⟨m, 0, none⟩) ∧ iv = .int .i64 (k : Int) ∧ InvP w k wr S T d m D) (fun _ _ iv _ => l.length - (intOf iv).toNat)
  case atStart => exact ⟨0, d0, m0, _, _, _, Nat.zero_le _, rfl, rfl, rfl, HST.out⟩
  case round =>
    obtain ⟨k, d, m, S, T, D, hk, rfl, rfl, rfl, hI⟩ := hrel
    have HI := Lib.hid hI
    clear hI HST
    by_cases hlt : k < l.length
    · have hkd : decide ((k : Int) < (l.length : Int)) = true := by simp; omega
      have k0 : (0 : Int) ≤ (k : Int) := by omega
      have k1 : (k : Int) < (l.length : Int) := by omega
      have hca := HL.out.off HI.out.off
      obtain ⟨ga, off, c, rfl, hc, c1, c2, Ab, capb, c3, hrb, hb1, hb2⟩ := hca.at_ hlt
      have hns : ¬ w.heap.size ≤ ga := by
        rcases hca.2 with e | ⟨_, _, e, h, _⟩
        · rw [e] at hlt; simp at hlt
        · cases e; exact h
      have HNS := Lib.hid hns
      have HRBW := Lib.hid hrb
      have HWF : Hid ((Lit.int .i64 c.i).wf = true ∧ c.b.length ≤ maxLen) := HL.out.1 c (List.mem_of_getElem? hc)
      clear hca hc hb1 hb2 hrb hns
      obtain ⟨kn, hkn⟩ : ∃ kn : Nat, kn = c.k.toNat := ⟨_, rfl⟩
      have hk256 : c.k.toNat < 256 := c.k.toNat_lt
      have hrem : Int.tmod (c.k.toNat : Int) 18 = ((c.k.toNat % 18 : Nat) : Int) := by rw [Int.tmod_eq_emod_of_nonneg (by omega)]; omega
      have hrem2 : ((c.k.toNat : Int) % 18) = ((c.k.toNat % 18 : Nat) : Int) := by omega
      obtain ⟨r, hr⟩ : ∃ r : Nat, r = c.k.toNat % 18 := ⟨_, rfl⟩
      rw [← hr] at hrem hrem2
      clear hr hkn kn
      by_cases h9 : 9 ≤ r
      · have h9d : decide ((9 : Int) ≤ (r : Int)) = true := by simp; omega
        have HC1 : Hid (wr.drew.cell? ⟨ga, off + k * 3 + 1, none⟩ = some (.int .i64 c.i)) := c2
        have HCC := Lib.hid (And.intro c1 (And.intro c2 c3))
        have hquo : Int.tdiv (c.k.toNat : Int) 18 = ((UInt8.ofNat (c.k.toNat / 18)).toNat : Int) := by
          have e1 : (UInt8.ofNat (c.k.toNat / 18)).toNat = c.k.toNat / 18 := by simp; omega
          rw [e1, Int.tdiv_eq_ediv_of_nonneg (by omega)]; omega
        have HQUO := Lib.hid hquo
        clear h9 hquo c3 c2
        go_wp2_with fail
        refine wp_region_noPanic ?_
        refine wp_region_held_drew (S := fun w' => w'.cell? ⟨ga, off + k * 3 + 1, none⟩ = some (.int .i64 c.i)) (by kernel_rfl) ?hSa (fun hHeld => ?_)
        case hSa => exact HC1.out
        refine wpAnyH_take (i := 0) (oi := ⟨_, _, _, _, _, _⟩) (v := ?va0) rfl (by kernel_rfl) (by kernel_rfl) (by kernel_rfl) (fun _ _ _ h => h) (Or.inl ⟨by rfl, ?hya0⟩) hHeld ?_
        case hya0 => (intro wS hSw; (try dsimp only at hSw); go_simp; (first | done | with_reducible rfl))
        try simp only [Act.put, List.setIfInBounds_toArray, List.set_cons_zero, List.set_cons_succ]
        refine wpAnyH_take (i := 1) (oi := ⟨_, _, _, _, _, _⟩) (v := ?va1) rfl (by kernel_rfl) (by kernel_rfl) (by kernel_rfl) (fun _ _ _ h => h) (Or.inl ⟨by rfl, ?hya1⟩) hHeld ?_
        case hya1 => (intro wS hSw; (try dsimp only at hSw); go_simp; (first | done | with_reducible rfl))
        try simp only [Act.put, List.setIfInBounds_toArray, List.set_cons_zero, List.set_cons_succ]
        refine wpAnyH_take (i := 2) (oi := ⟨_, _, _, _, _, _⟩) (v := ?va2) rfl (by kernel_rfl) (by kernel_rfl) (by kernel_rfl) (fun _ _ _ h => h) (Or.inl ⟨by rfl, ?hya2⟩) hHeld ?_
        case hya2 => (intro wS hSw; (try dsimp only at hSw); go_simp; (first | done | with_reducible rfl))
        try simp only [Act.put, List.setIfInBounds_toArray, List.set_cons_zero, List.set_cons_succ]
        refine wpAnyH_take (i := 3) (oi := ⟨_, _, _, _, _, _⟩) (v := ?va3) rfl (by kernel_rfl) (by kernel_rfl) (by kernel_rfl) (fun _ _ _ h => h) (Or.inl ⟨by rfl, ?hya3⟩) hHeld ?_
        case hya3 => (intro wS hSw; (try dsimp only at hSw); go_simp; (first | done | with_reducible rfl))
        try simp only [Act.put, List.setIfInBounds_toArray, List.set_cons_zero, List.set_cons_succ]
        refine wpAnyH_take (i := 4) (oi := ⟨_, _, _, _, _, _⟩) (v := ?va4) rfl (by kernel_rfl) (by kernel_rfl) (by kernel_rfl) (fun _ _ _ h => h) (Or.inl ⟨by rfl, ?hya4⟩) hHeld ?_
        case hya4 => (intro wS hSw; (try dsimp only at hSw); go_simp; (first | done | with_reducible rfl))
        try simp only [Act.put, List.setIfInBounds_toArray, List.set_cons_zero, List.set_cons_succ]
        refine wpAnyH_take (i := 5) (oi := ⟨_, _, _, _, _, _⟩) (v := ?va5) rfl (by kernel_rfl) (by kernel_rfl) (by kernel_rfl) (fun _ _ _ h => h) (Or.inl ⟨by rfl, ?hya5⟩) hHeld ?_
        case hya5 => (intro wS hSw; (try dsimp only at hSw); go_simp; (first | done | with_reducible rfl))
        try simp only [Act.put, List.setIfInBounds_toArray, List.set_cons_zero, List.set_cons_succ]
        refine wpAnyH_take (i := 7) (oi := ⟨_, _, _, _, _, _⟩) (v := ?va7) rfl (by kernel_rfl) (by kernel_rfl) (by kernel_rfl) (fun _ _ _ h => h) (Or.inl ⟨by rfl, ?hya7⟩) hHeld ?_
        case hya7 => (intro wS hSw; (try dsimp only at hSw); go_simp; (first | done | with_reducible rfl))
        try simp only [Act.put, List.setIfInBounds_toArray, List.set_cons_zero, List.set_cons_succ]
        refine wpAnyH_take (i := 8) (oi := ⟨_, _, _, _, _, _⟩) (v := ?va8) rfl (by kernel_rfl) (by kernel_rfl) (by kernel_rfl) (fun _ _ _ h => h) (Or.inl ⟨by rfl, ?hya8⟩) hHeld ?_
        case hya8 => (intro wS hSw; (try dsimp only at hSw); go_simp; (first | done | with_reducible rfl))
        try simp only [Act.put, List.setIfInBounds_toArray, List.set_cons_zero, List.set_cons_succ]
        refine wpAnyH_take (i := 9) (oi := ⟨_, _, _, _, _, _⟩) (v := ?va9) rfl (by kernel_rfl) (by kernel_rfl) (by kernel_rfl) (fun _ _ _ h => h) (Or.inl ⟨by rfl, ?hya9⟩) hHeld ?_
        case hya9 => (intro wS hSw; (try dsimp only at hSw); go_simp; (first | done | with_reducible rfl))
        try simp only [Act.put, List.setIfInBounds_toArray, List.set_cons_zero, List.set_cons_succ]
        refine wpAnyH_take (i := 10) (oi := ⟨_, _, _, _, _, _⟩) (v := ?va10) rfl (by kernel_rfl) (by kernel_rfl) (by kernel_rfl) (fun _ _ _ h => h) (Or.inl ⟨by rfl, ?hya10⟩) hHeld ?_
        case hya10 => (intro wS hSw; (try dsimp only at hSw); go_simp; (first | done | with_reducible rfl))
        try simp only [Act.put, List.setIfInBounds_toArray, List.set_cons_zero, List.set_cons_succ]
        refine wpAnyH_take (i := 11) (oi := ⟨_, _, _, _, _, _⟩) (v := ?va11) rfl (by kernel_rfl) (by kernel_rfl) (by kernel_rfl) (fun _ _ _ h => h) (Or.inl ⟨by rfl, ?hya11⟩) hHeld ?_
        case hya11 => (intro wS hSw; (try dsimp only at hSw); go_simp; (first | done | with_reducible rfl))
        try simp only [Act.put, List.setIfInBounds_toArray, List.set_cons_zero, List.set_cons_succ]
        refine wpAnyH_take (i := 12) (oi := ⟨_, _, _, _, _, _⟩) (v := ?va12) rfl (by kernel_rfl) (by kernel_rfl) (by kernel_rfl) (fun _ _ _ h => h) (Or.inl ⟨by rfl, ?hya12⟩) hHeld ?_
        case hya12 => (intro wS hSw; (try dsimp only at hSw); go_simp; (first | done | with_reducible rfl))
        try simp only [Act.put, List.setIfInBounds_toArray, List.set_cons_zero, List.set_cons_succ]
        refine wpAnyH_ready (rs := [6]) (by kernel_rfl) (by simp) ?_
        refine AllReadyH.cons (o := ⟨_, _, _, _, _, _⟩) rfl (fun K hK => ?_) AllReadyH.nil
        go_simp
        refine (cut_at S d D c.i wr.drew (HI.out.two.disk.grown (drew_grown wr none)) (by have := HI.out.few; omega)).mono ?_
        rintro e x1 ⟨d1, rfl, hd1, ho1⟩
        have HX1 := Lib.hid (And.intro hd1 ho1)
        clear hd1 ho1
        go_wp2_with fail
        refine hK.out _ _ ?ka6 (fun hNew => ?_)
        case ka6 => (try dsimp only); exact cell_off HX1.out.2 (fun h => h) hHeld
        clear hK K hHeld
        have hHeld := hNew
        clear hNew
        try simp only [Act.put, List.setIfInBounds_toArray, List.set_cons_zero, List.set_cons_succ]
        refine wpAnyH_ready (rs := [13]) (by kernel_rfl) (by simp) ?_
        refine AllReadyH.cons (o := ⟨_, _, _, _, _, _⟩) rfl (fun K hK => ?_) AllReadyH.nil
        go_simp
        refine (rcut_at T m D c.i x1 ((HI.out.two.ref.grown (drew_grown wr none)).grown HX1.out.2.none)).mono ?_
        rintro e x2 ⟨m1, rfl, hm1, ho2⟩
        have HX2 := Lib.hid (And.intro hm1 ho2)
        clear hm1 ho2
        go_wp2_with fail
        refine hK.out _ _ ?ka13 (fun hNew => ?_)
        case ka13 => (try dsimp only); exact cell_off HX2.out.2 (fun h => h) hHeld
        clear hK K hHeld
        have hHeld := hNew
        clear hNew
        try simp only [Act.put, List.setIfInBounds_toArray, List.set_cons_zero, List.set_cons_succ]
        refine wpAnyH_take (i := 14) (oi := ⟨_, _, _, _, _, _⟩) (v := ?va14) rfl (by kernel_rfl) (by kernel_rfl) (by kernel_rfl) (fun _ _ _ h => h) (Or.inl ⟨by rfl, ?hya14⟩) hHeld ?_
        case hya14 => (intro wS hSw; (try dsimp only at hSw); go_simp; (first | done | with_reducible rfl))
        try simp only [Act.put, List.setIfInBounds_toArray, List.set_cons_zero, List.set_cons_succ]
        refine wpAnyH_take (i := 15) (oi := ⟨_, _, _, _, _, _⟩) (v := ?va15) rfl (by kernel_rfl) (by kernel_rfl) (by kernel_rfl) (fun _ _ _ h => h) (Or.inl ⟨by rfl, ?hya15⟩) hHeld ?_
        case hya15 => (intro wS hSw; (try dsimp only at hSw); go_simp; (first | done | with_reducible rfl))
        try simp only [Act.put, List.setIfInBounds_toArray, List.set_cons_zero, List.set_cons_succ]
        refine wpAnyH_done (by kernel_rfl) ?_ _
        refine NoPanic.normal ?_
        clear hHeld HC1
        obtain ⟨Sn, hSn⟩ : ∃ Sn : Nat → Prop, Sn = fun b => wr.heap.size ≤ b ∧ b < x1.heap.size := ⟨_, rfl⟩
        obtain ⟨Tn, hTn⟩ : ∃ Tn : Nat → Prop, Tn = fun b => x1.heap.size ≤ b ∧ b < x2.heap.size := ⟨_, rfl⟩
        have hsz1 : wr.heap.size ≤ x1.heap.size := HX1.out.2.size
        have hsz2 := HX2.out.2.size
        have hszw := HI.out.off.size
        have HSn : Hid (∀ b, Sn b ↔ wr.heap.size ≤ b ∧ b < x1.heap.size) := fun b => by rw [hSn]
        have HTn : Hid (∀ b, Tn b ↔ x1.heap.size ≤ b ∧ b < x2.heap.size) := fun b => by rw [hTn]
        have HN : Hid (Two x2 Sn Tn d1 m1 (D.cut c.i)) :=
          ⟨(HX1.out.1.mono (fun b hb hs => (HSn.out b).2 ⟨hs, hb⟩)).grown HX2.out.2.none, HX2.out.1.mono (fun b hb hs => (HTn.out b).2 ⟨hs, hb⟩), rfl, fun b h1 h2 => by have := (HSn.out b).1 h1; have := (HTn.out b).1 h2; omega, fun b h => by have := (HSn.out b).1 h; omega, fun b h => ((HTn.out b).1 h).2⟩
        have HG2 : Hid (wr.grownBy x2 none) := ((drew_grown wr none).andThen HX1.out.2.none (fun _ hj => .inr hj)).andThen HX2.out.2.none (fun _ hj => .inr hj)
        have HO2 : Hid (Two x2 S T d m D) := HI.out.two.grown HG2.out
        have HC3 : Hid (x2.drew.cell? ⟨ga, off + k * 3, none⟩ = some (.int .u8 (c.k.toNat : Int)) ∧ x2.drew.cell? ⟨ga, off + k * 3 + 1, none⟩ = some (.int .i64 c.i) ∧ x2.drew.cell? ⟨ga, off + k * 3 + 2, none⟩ = some (.slice Ab c.b.length capb)) :=
          ⟨HG2.out.cell HCC.out.1 (by simp), HG2.out.cell HCC.out.2.1 (by simp), HG2.out.cell HCC.out.2.2 (by simp)⟩
        have HRB : Hid (RowB x2.drew (fun b => w.heap.size ≤ b) Ab c.b) := (HRBW.out.grown HG2.out).grown (drew_grown x2 none)
        have HNB : Hid (∀ (b : Nat) (y : World), x2.drew.heap.size ≤ y.heap.size → (Sn b ∨ Tn b ∨ y.heap.size ≤ b) → w.heap.size ≤ b) := by
          intro b y hy hb
          have hy : x2.heap.size ≤ y.heap.size := hy
          rcases hb with h | h | h
          · have := (HSn.out b).1 h; omega
          · have := (HTn.out b).1 h; omega
          · omega
        have HGA : Hid (¬ (Sn ga ∨ Tn ga)) := by
          rintro (h | h)
          · have := (HSn.out ga).1 h; exact HNS.out (by omega)
          · have := (HTn.out ga).1 h; exact HNS.out (by omega)
        have HAP : Hid (∀ b, (Sn b ∨ Tn b) → ¬ S b ∧ ¬ T b) := by
          intro b hb
          have : wr.heap.size ≤ b := by
            rcases hb with h | h
            · exact ((HSn.out b).1 h).1
            · have := (HTn.out b).1 h; omega
          exact ⟨fun h => by have := HI.out.two.sB b h; omega, fun h => by have := HI.out.two.tB b h; omega⟩
        have HSZ := Lib.hid (And.intro hszw (And.intro hsz1 hsz2))
        have hquo := HQUO.out
        clear hSn hTn hsz1 hsz2 hszw HCC HRBW c1
        go_wp2_with fail
        refine wp_region_noPanic ?_
        refine wp_region_held_drew (S := fun w' => w'.cell? ⟨ga, off + k * 3, none⟩ = some (.int .u8 (c.k.toNat : Int)) ∧ w'.cell? ⟨ga, off + k * 3 + 1, none⟩ = some (.int .i64 c.i) ∧ w'.cell? ⟨ga, off + k * 3 + 2, none⟩ = some (.slice Ab c.b.length capb)) (by kernel_rfl) ?hSb (fun hHeld => ?_)
        case hSb => exact HC3.out
        refine wpAnyH_take (i := 0) (oi := ⟨_, _, _, _, _, _⟩) (v := ?vb0) rfl (by kernel_rfl) (by kernel_rfl) (by kernel_rfl) (fun _ _ _ h => h) (Or.inl ⟨by rfl, ?hyb0⟩) hHeld ?_
        case hyb0 => (intro wS hSw; (try dsimp only at hSw); go_simp; (first | done | with_reducible rfl))
        try simp only [Act.put, List.setIfInBounds_toArray, List.set_cons_zero, List.set_cons_succ]
        refine wpAnyH_take (i := 1) (oi := ⟨_, _, _, _, _, _⟩) (v := ?vb1) rfl (by kernel_rfl) (by kernel_rfl) (by kernel_rfl) (fun _ _ _ h => h) (Or.inl ⟨by rfl, ?hyb1⟩) hHeld ?_
        case hyb1 => (intro wS hSw; (try dsimp only at hSw); go_simp; (first | done | with_reducible rfl))
        try simp only [Act.put, List.setIfInBounds_toArray, List.set_cons_zero, List.set_cons_succ]
        refine wpAnyH_ready (rs := [2]) (by kernel_rfl) (by simp) ?_
        refine AllReadyH.cons (o := ⟨_, _, _, _, _, _⟩) rfl (fun K hK => ?_) AllReadyH.nil
        go_simp
        refine (same_at Sn Tn d1 m1 (D.cut c.i) x2.drew (HN.out.grown (drew_grown x2 none)).disk (HN.out.grown (drew_grown x2 none)).ref HN.out.full).mono ?_
        rintro e y1 ⟨rfl, hy1⟩
        have HY1 := Lib.hid hy1
        clear hy1
        go_wp2_with fail
        refine hK.out _ _ ?kb2 (fun hNew => ?_)
        case kb2 => (try dsimp only); exact ⟨cell_off HY1.out (fun h => h) hHeld.1, cell_off HY1.out (fun h => h) hHeld.2.1, cell_off HY1.out (fun h => h) hHeld.2.2⟩
        clear hK K hHeld
        have hHeld := hNew
        clear hNew
        try simp only [Act.put, List.setIfInBounds_toArray, List.set_cons_zero, List.set_cons_succ]
        refine wpAnyH_take (i := 3) (oi := ⟨_, _, _, _, _, _⟩) (v := ?vb3) rfl (by kernel_rfl) (by kernel_rfl) (by kernel_rfl) (fun _ _ _ h => h) (Or.inl ⟨by rfl, ?hyb3⟩) hHeld ?_
        case hyb3 => (intro wS hSw; (try dsimp only at hSw); go_simp; (first | done | with_reducible rfl))
        try simp only [Act.put, List.setIfInBounds_toArray, List.set_cons_zero, List.set_cons_succ]
        refine wpAnyH_take (i := 4) (oi := ⟨_, _, _, _, _, _⟩) (v := ?vb4) rfl (by kernel_rfl) (by kernel_rfl) (by kernel_rfl) (fun _ _ _ h => h) (Or.inl ⟨by rfl, ?hyb4⟩) hHeld ?_
        case hyb4 => (intro wS hSw; (try dsimp only at hSw); go_simp; (first | done | with_reducible rfl))
        try simp only [Act.put, List.setIfInBounds_toArray, List.set_cons_zero, List.set_cons_succ]
        refine wpAnyH_take (i := 5) (oi := ⟨_, _, _, _, _, _⟩) (v := ?vb5) rfl (by kernel_rfl) (by kernel_rfl) (by kernel_rfl) (fun _ _ _ h => h) (Or.inl ⟨by rfl, ?hyb5⟩) hHeld ?_
        case hyb5 => (intro wS hSw; (try dsimp only at hSw); go_simp; (first | done | with_reducible rfl))
        try simp only [Act.put, List.setIfInBounds_toArray, List.set_cons_zero, List.set_cons_succ]
        refine wpAnyH_take (i := 6) (oi := ⟨_, _, _, _, _, _⟩) (v := ?vb6) rfl (by kernel_rfl) (by kernel_rfl) (by kernel_rfl) (fun _ _ _ h => h) (Or.inl ⟨by rfl, ?hyb6⟩) hHeld ?_
        case hyb6 => (intro wS hSw; (try dsimp only at hSw); go_simp; (first | done | with_reducible rfl))
        try simp only [Act.put, List.setIfInBounds_toArray, List.set_cons_zero, List.set_cons_succ]
        refine wpAnyH_take (i := 7) (oi := ⟨_, _, _, _, _, _⟩) (v := ?vb7) rfl (by kernel_rfl) (by kernel_rfl) (by kernel_rfl) (fun _ _ _ h => h) (Or.inl ⟨by rfl, ?hyb7⟩) hHeld ?_
        case hyb7 => (intro wS hSw; (try dsimp only at hSw); go_simp; (first | done | with_reducible rfl))
        try simp only [Act.put, List.setIfInBounds_toArray, List.set_cons_zero, List.set_cons_succ]
        refine wpAnyH_take (i := 8) (oi := ⟨_, _, _, _, _, _⟩) (v := ?vb8) rfl (by kernel_rfl) (by kernel_rfl) (by kernel_rfl) (fun _ _ _ h => h) (Or.inl ⟨by rfl, ?hyb8⟩) hHeld ?_
        case hyb8 => (intro wS hSw; (try dsimp only at hSw); go_simp; (first | done | with_reducible rfl))
        try simp only [Act.put, List.setIfInBounds_toArray, List.set_cons_zero, List.set_cons_succ]
        refine wpAnyH_take (i := 9) (oi := ⟨_, _, _, _, _, _⟩) (v := ?vb9) rfl (by kernel_rfl) (by kernel_rfl) (by kernel_rfl) (fun _ _ _ h => h) (Or.inl ⟨by rfl, ?hyb9⟩) hHeld ?_
        case hyb9 => (intro wS hSw; (try dsimp only at hSw); go_simp; (first | done | with_reducible rfl))
        try simp only [Act.put, List.setIfInBounds_toArray, List.set_cons_zero, List.set_cons_succ]
        refine wpAnyH_take (i := 10) (oi := ⟨_, _, _, _, _, _⟩) (v := ?vb10) rfl (by kernel_rfl) (by kernel_rfl) (by kernel_rfl) (fun _ _ _ h => h) (Or.inl ⟨by rfl, ?hyb10⟩) hHeld ?_
        case hyb10 => (intro wS hSw; (try dsimp only at hSw); go_simp; (first | done | with_reducible rfl))
        try simp only [Act.put, List.setIfInBounds_toArray, List.set_cons_zero, List.set_cons_succ]
        refine wpAnyH_take (i := 11) (oi := ⟨_, _, _, _, _, _⟩) (v := ?vb11) rfl (by kernel_rfl) (by kernel_rfl) (by kernel_rfl) (fun _ _ _ h => h) (Or.inl ⟨by rfl, ?hyb11⟩) hHeld ?_
        case hyb11 => (intro wS hSw; (try dsimp only at hSw); go_simp; (first | done | with_reducible rfl))
        try simp only [Act.put, List.setIfInBounds_toArray, List.set_cons_zero, List.set_cons_succ]
        refine wpAnyH_take (i := 12) (oi := ⟨_, _, _, _, _, _⟩) (v := ?vb12) rfl (by kernel_rfl) (by kernel_rfl) (by kernel_rfl) (fun _ _ _ h => h) (Or.inl ⟨by rfl, ?hyb12⟩) hHeld ?_
        case hyb12 => (intro wS hSw; (try dsimp only at hSw); go_simp; (first | done | with_reducible rfl))
        try simp only [Act.put, List.setIfInBounds_toArray, List.set_cons_zero, List.set_cons_succ]
        refine wpAnyH_take (i := 13) (oi := ⟨_, _, _, _, _, _⟩) (v := ?vb13) rfl (by kernel_rfl) (by kernel_rfl) (by kernel_rfl) (fun _ _ _ h => h) (Or.inl ⟨by rfl, ?hyb13⟩) hHeld ?_
        case hyb13 => (intro wS hSw; (try dsimp only at hSw); go_simp; (first | done | with_reducible rfl))
        try simp only [Act.put, List.setIfInBounds_toArray, List.set_cons_zero, List.set_cons_succ]
        refine wpAnyH_take (i := 14) (oi := ⟨_, _, _, _, _, _⟩) (v := ?vb14) rfl (by kernel_rfl) (by kernel_rfl) (by kernel_rfl) (fun _ _ _ h => h) (Or.inl ⟨by rfl, ?hyb14⟩) hHeld ?_
        case hyb14 => (intro wS hSw; (try dsimp only at hSw); go_simp; (first | done | with_reducible rfl))
        try simp only [Act.put, List.setIfInBounds_toArray, List.set_cons_zero, List.set_cons_succ]
        refine wpAnyH_take (i := 15) (oi := ⟨_, _, _, _, _, _⟩) (v := ?vb15) rfl (by kernel_rfl) (by kernel_rfl) (by kernel_rfl) (fun _ _ _ h => h) (Or.inl ⟨by rfl, ?hyb15⟩) hHeld ?_
        case hyb15 => (intro wS hSw; (try dsimp only at hSw); go_simp; (first | done | with_reducible rfl))
        try simp only [Act.put, List.setIfInBounds_toArray, List.set_cons_zero, List.set_cons_succ]
        refine wpAnyH_take (i := 16) (oi := ⟨_, _, _, _, _, _⟩) (v := ?vb16) rfl (by kernel_rfl) (by kernel_rfl) (by kernel_rfl) (fun _ _ _ h => h) (Or.inl ⟨by rfl, ?hyb16⟩) hHeld ?_
        case hyb16 => (intro wS hSw; (try dsimp only at hSw); go_simp; (first | done | with_reducible rfl))
        try simp only [Act.put, List.setIfInBounds_toArray, List.set_cons_zero, List.set_cons_succ]
        refine wpAnyH_take (i := 17) (oi := ⟨_, _, _, _, _, _⟩) (v := ?vb17) rfl (by kernel_rfl) (by kernel_rfl) (by kernel_rfl) (fun _ _ _ h => h) (Or.inl ⟨by rfl, ?hyb17⟩) hHeld ?_
        case hyb17 => (intro wS hSw; (try dsimp only at hSw); go_simp; (first | done | with_reducible rfl))
        try simp only [Act.put, List.setIfInBounds_toArray, List.set_cons_zero, List.set_cons_succ]
        refine wpAnyH_take (i := 18) (oi := ⟨_, _, _, _, _, _⟩) (v := ?vb18) rfl (by kernel_rfl) (by kernel_rfl) (by kernel_rfl) (fun _ _ _ h => h) (Or.inl ⟨by rfl, ?hyb18⟩) hHeld ?_
        case hyb18 => (intro wS hSw; (try dsimp only at hSw); go_simp; (first | done | with_reducible rfl))
        try simp only [Act.put, List.setIfInBounds_toArray, List.set_cons_zero, List.set_cons_succ]
        refine wpAnyH_take (i := 19) (oi := ⟨_, _, _, _, _, _⟩) (v := ?vb19) rfl (by kernel_rfl) (by kernel_rfl) (by kernel_rfl) (fun _ _ _ h => h) (Or.inl ⟨by rfl, ?hyb19⟩) hHeld ?_
        case hyb19 => (intro wS hSw; (try dsimp only at hSw); go_simp; (first | done | with_reducible rfl))
        try simp only [Act.put, List.setIfInBounds_toArray, List.set_cons_zero, List.set_cons_succ]
        refine wpAnyH_take (i := 20) (oi := ⟨_, _, _, _, _, _⟩) (v := ?vb20) rfl (by kernel_rfl) (by kernel_rfl) (by kernel_rfl) (fun _ _ _ h => h) (Or.inl ⟨by rfl, ?hyb20⟩) hHeld ?_
        case hyb20 => (intro wS hSw; (try dsimp only at hSw); go_simp; (first | done | with_reducible rfl))
        try simp only [Act.put, List.setIfInBounds_toArray, List.set_cons_zero, List.set_cons_succ]
        refine wpAnyH_take (i := 21) (oi := ⟨_, _, _, _, _, _⟩) (v := ?vb21) rfl (by kernel_rfl) (by kernel_rfl) (by kernel_rfl) (fun _ _ _ h => h) (Or.inl ⟨by rfl, ?hyb21⟩) hHeld ?_
        case hyb21 => (intro wS hSw; (try dsimp only at hSw); go_simp; (first | done | with_reducible rfl))
        try simp only [Act.put, List.setIfInBounds_toArray, List.set_cons_zero, List.set_cons_succ]
        refine wpAnyH_take (i := 22) (oi := ⟨_, _, _, _, _, _⟩) (v := ?vb22) rfl (by kernel_rfl) (by kernel_rfl) (by kernel_rfl) (fun _ _ _ h => h) (Or.inl ⟨by rfl, ?hyb22⟩) hHeld ?_
        case hyb22 => (intro wS hSw; (try dsimp only at hSw); go_simp; (first | done | with_reducible rfl))
        try simp only [Act.put, List.setIfInBounds_toArray, List.set_cons_zero, List.set_cons_succ]
        refine wpAnyH_take (i := 23) (oi := ⟨_, _, _, _, _, _⟩) (v := ?vb23) rfl (by kernel_rfl) (by kernel_rfl) (by kernel_rfl) (fun _ _ _ h => h) (Or.inl ⟨by rfl, ?hyb23⟩) hHeld ?_
        case hyb23 => (intro wS hSw; (try dsimp only at hSw); go_simp; (first | done | with_reducible rfl))
        try simp only [Act.put, List.setIfInBounds_toArray, List.set_cons_zero, List.set_cons_succ]
        refine wpAnyH_ready (rs := [24]) (by kernel_rfl) (by simp) ?_
        refine AllReadyH.cons (o := ⟨_, _, _, _, _, _⟩) rfl (fun K hK => ?_) AllReadyH.nil
        go_simp
        refine (does_at Sn Tn d1 m1 (D.cut c.i) ⟨UInt8.ofNat (c.k.toNat / 18), c.i, c.b⟩ Ab capb y1 ((HN.out.grown (drew_grown x2 none)).grown HY1.out.none) ((HRB.out.grown HY1.out.none).mono (fun b _ hb => HNB.out _ _ HY1.out.size hb)) HWF.out.1 HWF.out.2 (by show (0 : Nat) + 1 < _; omega)).mono ?_
        rintro e y2 ⟨rfl, S', T', htw, hSb, hTb, hoff⟩
        have HY2 := Lib.hid (And.intro htw (And.intro hSb (And.intro hTb hoff)))
        clear htw hSb hTb hoff
        go_wp2_with fail
        refine hK.out _ _ ?kb24 (fun hNew => ?_)
        case kb24 => (try dsimp only); exact ⟨cell_off HY2.out.2.2.2 HGA.out hHeld.1, cell_off HY2.out.2.2.2 HGA.out hHeld.2.1, cell_off HY2.out.2.2.2 HGA.out hHeld.2.2⟩
        clear hK K hHeld
        have hHeld := hNew
        clear hNew
        try simp only [Act.put, List.setIfInBounds_toArray, List.set_cons_zero, List.set_cons_succ]
        refine wpAnyH_take (i := 25) (oi := ⟨_, _, _, _, _, _⟩) (v := ?vb25) rfl (by kernel_rfl) (by kernel_rfl) (by kernel_rfl) (fun _ _ _ h => h) (Or.inl ⟨by rfl, ?hyb25⟩) hHeld ?_
        case hyb25 => (intro wS hSw; (try dsimp only at hSw); go_simp; (first | done | with_reducible rfl))
        try simp only [Act.put, List.setIfInBounds_toArray, List.set_cons_zero, List.set_cons_succ]
        refine wpAnyH_take (i := 26) (oi := ⟨_, _, _, _, _, _⟩) (v := ?vb26) rfl (by kernel_rfl) (by kernel_rfl) (by kernel_rfl) (fun _ _ _ h => h) (Or.inl ⟨by rfl, ?hyb26⟩) hHeld ?_
        case hyb26 => (intro wS hSw; (try dsimp only at hSw); go_simp; (first | done | with_reducible rfl))
        try simp only [Act.put, List.setIfInBounds_toArray, List.set_cons_zero, List.set_cons_succ]
        refine wpAnyH_take (i := 27) (oi := ⟨_, _, _, _, _, _⟩) (v := ?vb27) rfl (by kernel_rfl) (by kernel_rfl) (by kernel_rfl) (fun _ _ _ h => h) (Or.inl ⟨by rfl, ?hyb27⟩) hHeld ?_
        case hyb27 => (intro wS hSw; (try dsimp only at hSw); go_simp; (first | done | with_reducible rfl))
        try simp only [Act.put, List.setIfInBounds_toArray, List.set_cons_zero, List.set_cons_succ]
        refine wpAnyH_take (i := 28) (oi := ⟨_, _, _, _, _, _⟩) (v := ?vb28) rfl (by kernel_rfl) (by kernel_rfl) (by kernel_rfl) (fun _ _ _ h => h) (Or.inl ⟨by rfl, ?hyb28⟩) hHeld ?_
        case hyb28 => (intro wS hSw; (try dsimp only at hSw); go_simp; (first | done | with_reducible rfl))
        try simp only [Act.put, List.setIfInBounds_toArray, List.set_cons_zero, List.set_cons_succ]
        refine wpAnyH_take (i := 29) (oi := ⟨_, _, _, _, _, _⟩) (v := ?vb29) rfl (by kernel_rfl) (by kernel_rfl) (by kernel_rfl) (fun _ _ _ h => h) (Or.inl ⟨by rfl, ?hyb29⟩) hHeld ?_
        case hyb29 => (intro wS hSw; (try dsimp only at hSw); go_simp; (first | done | with_reducible rfl))
        try simp only [Act.put, List.setIfInBounds_toArray, List.set_cons_zero, List.set_cons_succ]
        refine wpAnyH_ready (rs := [30]) (by kernel_rfl) (by simp) ?_
        refine AllReadyH.cons (o := ⟨_, _, _, _, _, _⟩) rfl (fun K hK => ?_) AllReadyH.nil
        go_simp
        have hold : Two y2 S T d m D := (((HO2.out.grown (drew_grown x2 none)).grown HY1.out.none)).off HY2.out.2.2.2 (fun b _ hU => HAP.out b hU)
        refine (same_at S T d m D y2 hold.disk hold.ref hold.full).mono ?_
        rintro e y3 ⟨rfl, hy3⟩
        have HY3 := Lib.hid hy3
        clear hy3 hold
        go_wp2_with fail
        refine hK.out _ _ ?kb30 (fun hNew => ?_)
        case kb30 => (try dsimp only); exact ⟨cell_off HY3.out (fun h => h) hHeld.1, cell_off HY3.out (fun h => h) hHeld.2.1, cell_off HY3.out (fun h => h) hHeld.2.2⟩
        clear hK K hHeld
        have hHeld := hNew
        clear hNew
        try simp only [Act.put, List.setIfInBounds_toArray, List.set_cons_zero, List.set_cons_succ]
        refine wpAnyH_take (i := 31) (oi := ⟨_, _, _, _, _, _⟩) (v := ?vb31) rfl (by kernel_rfl) (by kernel_rfl) (by kernel_rfl) (fun _ _ _ h => h) (Or.inl ⟨by rfl, ?hyb31⟩) hHeld ?_
        case hyb31 => (intro wS hSw; (try dsimp only at hSw); go_simp; (first | done | with_reducible rfl))
        try simp only [Act.put, List.setIfInBounds_toArray, List.set_cons_zero, List.set_cons_succ]
        refine wpAnyH_take (i := 32) (oi := ⟨_, _, _, _, _, _⟩) (v := ?vb32) rfl (by kernel_rfl) (by kernel_rfl) (by kernel_rfl) (fun _ _ _ h => h) (Or.inl ⟨by rfl, ?hyb32⟩) hHeld ?_
        case hyb32 => (intro wS hSw; (try dsimp only at hSw); go_simp; (first | done | with_reducible rfl))
        try simp only [Act.put, List.setIfInBounds_toArray, List.set_cons_zero, List.set_cons_succ]
        refine wpAnyH_done (by kernel_rfl) ?_ _
        refine NoPanic.normal ?_
        clear hHeld
        go_wp2_with fail
        go_roundw
        case rel =>
          obtain ⟨htw, hSb, hTb, hoff⟩ := HY2.out
          have hy1 : x2.heap.size ≤ y1.heap.size := HY1.out.size
          obtain ⟨hs1, hs2, hs3⟩ := HSZ.out
          refine ⟨k + 1, d1, m1, S', T', _, hlt, rfl, rfl, by go_num, htw.grown HY3.out.none, Nat.le_trans (wrote_few (n := 0) (D.cut c.i) ⟨UInt8.ofNat (c.k.toNat / 18), c.i, c.b⟩ (Nat.zero_le _)) (by omega), fun b hb => ?_, fun b hb => ?_, ?_⟩
          · rcases hSb b hb with h | h
            · have := (HSn.out b).1 h; omega
            · omega
          · rcases hTb b hb with h | h
            · have := (HTn.out b).1 h; omega
            · omega
          · refine ((((HI.out.off.trans (Off.of_grown HG2.out (by simp))).trans (Off.of_grown (drew_grown x2 none) (by simp))).trans HY1.out.elim).trans (hoff.mono ?_)).trans HY3.out.elim
            rintro b _ (h | h)
            · have := (HSn.out b).1 h; show w.heap.size ≤ b; omega
            · have := (HTn.out b).1 h; show w.heap.size ≤ b; omega
        case measure => simp [intOf]; omega
      · have h9d : decide ((9 : Int) ≤ (r : Int)) = false := by simp; omega
        clear h9
        go_wp2_with fail
        have hfew := HI.out.few
        refine (does_at S T d m D c Ab capb wr HI.out.two (HRBW.out.mono (fun b _ hb => ?_)) HWF.out.1 HWF.out.2 (by omega)).mono ?_
        · rcases hb with h | h | h
          · exact HI.out.sW b h
          · exact HI.out.tW b h
          · exact Nat.le_trans HI.out.off.size h
        rintro e y1 ⟨rfl, S', T', htw, hSb, hTb, hoff⟩
        have HY := Lib.hid (And.intro htw (And.intro hSb (And.intro hTb hoff)))
        clear htw hSb hTb hoff hfew
        go_wp2_with fail
        refine (same_at S' T' d m (didV D c) y1 HY.out.1.disk HY.out.1.ref HY.out.1.full).mono ?_
        rintro e y2 ⟨rfl, hy2⟩
        have HY2 := Lib.hid hy2
        clear hy2
        go_wp2_with fail
        go_roundw
        case rel =>
          obtain ⟨htw, hSb, hTb, hoff⟩ := HY.out
          have hszw := HI.out.off.size
          refine ⟨k + 1, d, m, S', T', _, hlt, rfl, rfl, by go_num, htw.grown HY2.out.none, wrote_few D c HI.out.few, fun b hb => ?_, fun b hb => ?_, (HI.out.off.trans (hoff.mono ?_)).trans HY2.out.elim⟩
          · rcases hSb b hb with h | h
            · exact HI.out.sW b h
            · omega
          · rcases hTb b hb with h | h
            · exact HI.out.tW b h
            · omega
          · rintro b _ (h | h)
            · exact HI.out.sW b h
            · exact HI.out.tW b h
        case measure => simp [intOf]; omega
    · have hkd : decide (k < l.length) = false := by simpa using hlt
      clear hlt hk
      go_wp2_with fail
      refine (HWK.out wr).mono ?_
      rintro e w' ⟨rfl, ho⟩
      have HO := Lib.hid ho
      clear ho
      go_wp2_with fail
      go_ret
      exact ⟨rfl, FIN.out _ (HI.out.off.trans HO.out.elim)⟩
end Go.Proofs.Ytplnkpbfnpajjaa.Sec
