/- The law's helper same. -/
import Derived.Test.YtplnkpbfnpajjaaRefCut
namespace Go.Proofs.Ytplnkpbfnpajjaa.Sec
open Go.RowKit Go.Maps

theorem setCells_size : ∀ (vs : List Value) (o : Nat) (w : World) (b : Nat), (w.setCells b o vs).heap.size = w.heap.size
  | [], _, _, _ => rfl
  | v :: r, o, w, b => by simp [World.setCells, setCells_size r]
/-- n bytes lie there, and may be written. -/
def ByteAt (w : World) (g n : Nat) : Prop := ∀ j, j < n → (∃ z, w.cell? ⟨g, j, none⟩ = some (.int .u8 z)) ∧ w.frozen? ⟨g, j, none⟩ = false
theorem ByteAt.set {w : World} {g n j : Nat} {z : Int} (h : ByteAt w g n) (hj : j < n) : ByteAt (w.setCell ⟨g, j, none⟩ (.int .u8 z)) g n := by
  intro i hi
  refine ⟨?_, by rw [World.frozen?_setCell]; exact (h i hi).2⟩
  by_cases e : i = j
  · subst e
    obtain ⟨z', hz⟩ := (h i hi).1
    exact ⟨z, World.cell?_setCell_same _ _ _ hz⟩
  · obtain ⟨z', hz⟩ := (h i hi).1
    exact ⟨z', by rw [World.cell?_setCell_other _ _ _ _ (by first | (simp; done) | (simp; omega))]; exact hz⟩
theorem read_told2 (S : Nat → Prop) (d i : Nat) (D : Dsk) (w : World) (h : DiskAt w S d D) (hi : i < D.n) (ho : D.off = false) :
    Calls Try.prog 22 #[.pointer (some ⟨d, 0, none⟩), .int .i64 (i : Int)] w fun e w' => e = .returned (.tuple #[.slice (some ⟨w.heap.size, 0, none⟩) 128 128, .int .i64 0]) ∧ (D.now i).length = 128 ∧ w'.rangeAt w.heap.size 0 (u8s (D.now i)) ∧ w'.heap.size = w.heap.size + 1 ∧ w.grownBy w' none ∧ ByteAt w' w.heap.size 128 := by
  refine (read_ok S d i D w h hi ho).mono ?_
  rintro e w' ⟨rfl, rfl⟩
  have hl : (D.now i).length = 128 := by
    obtain ⟨h1, _, mb, mn, sv, pa, hd, _, _, _, _, _, hsn, _⟩ := h
    exact (look_at hsn hi h1).1
  have hg := grown_new w (.cells (u8s noughts).toArray 53) (u8s (D.now i)) 0
  have hr := range_new w (u8s noughts).toArray 53 (u8s (D.now i)) (by simp [u8s_length, noughts_length, hl])
  refine ⟨rfl, hl, hr, by rw [setCells_size, World.size_alloc], hg, fun j hj => ⟨?_, ?_⟩⟩
  · have hj' : j < (D.now i).length := by omega
    have := hr j (.int .u8 ((D.now i)[j].toNat : Int)) (by simp [u8s, hj'])
    rw [Nat.zero_add] at this
    exact ⟨_, this⟩
  · have := (World.there_setCells (there_new w (u8s noughts).toArray 53 128 (by simp [u8s_length, noughts_length])) w.heap.size 0 (u8s (D.now i)) j hj).2
    rwa [Nat.zero_add] at this

set_option maxRecDepth 100000 in
set_option maxHeartbeats 8000000 in
theorem same_at (S T : Nat → Prop) (d m : Nat) (D : Dsk) (w : World) (hd : DiskAt w S d D) (hm : RefAt w T m D) (hf : Full D) :
    Calls Try.prog 17 #[.pointer (some ⟨d, 0, none⟩), .pointer (some ⟨m, 0, none⟩)] w fun e w' => e = .returned (.bool true) ∧ Off (fun _ => False) w w' := by
  have h16 : D.n ≤ 16384 := hd.1
  have HD := Lib.hid (hd.mono (T := fun b => b < w.heap.size) (fun k hk _ => hk))
  have HM := Lib.hid (hm.mono (T := fun b => b < w.heap.size) (fun k hk _ => hk))
  have HF := Lib.hid hf
  have hq : ∀ q, w.grownBy (w.drewN q) none := fun q => ⟨rfl, rfl, rfl, Nat.le_refl _, fun _ _ _ => rfl⟩
  have HC1 : Hid (∀ q, Calls Try.prog 24 #[.pointer (some ⟨d, 0, none⟩)] (w.drewN q) fun e w' => e = .returned (.int .i64 (D.n : Int)) ∧ w.drewN q = w') := fun q => sectors_at _ d D _ (HD.out.grown (hq q))
  have HC2 : Hid (∀ q, Calls Try.prog 12 #[.pointer (some ⟨d, 0, none⟩)] (w.drewN q) fun e w' => e = .returned (.int .i64 (D.wr.length : Int)) ∧ w.drewN q = w') := fun q => writes_at _ d D _ (HD.out.grown (hq q))
  have HC3 : Hid (∀ q, Calls Try.prog 23 #[.pointer (some ⟨d, 0, none⟩)] (w.drewN q) fun e w' => e = .returned (.bool D.off) ∧ w.drewN q = w') := fun q => off_at _ d D _ (HD.out.grown (hq q))
  obtain ⟨_, _, sb, sl, inn, hmm, hS, hb, hbS, hl, hlS, ha⟩ := HM.out
  obtain ⟨A, cap, hsb, hcap, _⟩ := str_slice hb
  obtain ⟨L, capl, hsl, hlcap, _⟩ := ref_slice hl
  rw [tellV_length] at hsb
  subst hsb hsl
  have c0 : w.cell? ⟨m, 0, none⟩ = some (.slice A D.n cap) := cell_blk hmm 0
  have c1 : w.cell? ⟨m, 1, none⟩ = some (.slice L D.wr.length capl) := cell_blk hmm 1
  have c4 : w.cell? ⟨m, 4, none⟩ = some (.bool D.off) := cell_blk hmm 4
  have HMM := Lib.hid hmm
  have HMLT := Lib.hid (Array.getElem?_eq_some_iff.1 hmm).1
  have HREF : Hid (∀ wr : World, Off (fun b => w.heap.size ≤ b) w wr → DiskAt wr (fun b => b < w.heap.size) d D ∧ RefAt wr (fun b => b < w.heap.size) m D ∧ wr.cell? ⟨m, 0, none⟩ = some (.slice A D.n cap)) := fun wr ho =>
    ⟨HD.out.off ho (fun k _ h => by omega), HM.out.off ho (fun k _ h => by omega), cell_blk ((ho.block m HMLT.out (by have := HMLT.out; omega)).trans HMM.out) 0⟩
  clear hd hm hf hb hl hmm ha hbS hlS hq
  go_enter Try.func17, Try.ntmps17
  go_wp2
  go_quiet (first
    | (go_at_call 24; exact Calls.quiet_of_same ((HC1.out _).mono fun _ _ h => ⟨h.1, h.2.symm⟩))
    | (go_at_call 12; exact Calls.quiet_of_same ((HC2.out _).mono fun _ _ h => ⟨h.1, h.2.symm⟩))
    | (go_at_call 23; exact Calls.quiet_of_same ((HC3.out _).mono fun _ _ h => ⟨h.1, h.2.symm⟩)))
  go_wp2
  have hcn : ∀ w : World, (convert 29 9 (.slice none 0 0)).run Try.prog w = .ok (.string ⟨#[]⟩) w := fun w => run_convert_bytes_nil (P := Try.prog) w 29 5 Try.underlying29 Try.underlying5 0 0 _ Try.underlying9
  clear c0 c1 c4
  go_loopw [5] (fun iv wr => ∃ k : Nat, k ≤ D.n + 2 ∧ iv = .int .i64 ((k : Int) - 1) ∧ Off (fun b => w.heap.size ≤ b) w wr) (fun iv _ => ((D.n : Int) + 1 - intOf iv).toNat)
  case atStart => exact ⟨0, by omega, rfl, Off.of_grown ⟨rfl, rfl, rfl, Nat.le_refl _, fun _ _ _ => rfl⟩ (row := none) (by simp)⟩
  case round =>
    obtain ⟨k, hk, rfl, ho⟩ := hrel
    obtain ⟨hdr, hmr, c0r⟩ := HREF.out wr ho
    obtain ⟨z, hz⟩ : ∃ z : Int, z = (k : Int) - 1 := ⟨_, rfl⟩
    rw [← hz]
    have HZ := Lib.hid hz
    have HO := Lib.hid ho
    have HDR := Lib.hid hdr
    have HMR := Lib.hid hmr
    by_cases hlt : z ≤ (D.n : Int)
    · have hd : decide (z ≤ (D.n : Int)) = true := by simp; omega
      have HZW : Hid (wrap64 (z + 1) = z + 1) := by show wrap64 _ = _; unfold wrap64; omega
      have HLT := Lib.hid hlt
      clear hz ho hdr hmr hlt
      go_wp2_with fail
      rcases askedN_cases D z with hx | hx | ⟨hx, hoff, hz0, hzi⟩
      · refine (read_refused _ d z 20 D wr HDR.out hx (.inl rfl)).mono ?_
        rintro e w2 ⟨rfl, rfl⟩
        go_wp2_with fail
        refine (rread_refused _ m z 20 D wr HMR.out hx (.inl rfl)).mono ?_
        rintro e w2 ⟨rfl, rfl⟩
        go_wp2_with fail
        refine wp_loop_rounds 1 ?_
        rw [rounds_succ]
        go_wp2_with fail
        go_roundw
        case rel => exact ⟨k + 1, by have := HLT.out; have := HZ.out; omega, by (try simp only [HZW.out]); (congr 1; have := HZ.out; omega), HO.out⟩
        case measure => have := HZ.out; have := HLT.out; simp [intOf, HZW.out]; omega
      · refine (read_refused _ d z 2 D wr HDR.out hx (.inr rfl)).mono ?_
        rintro e w2 ⟨rfl, rfl⟩
        go_wp2_with fail
        refine (rread_refused _ m z 2 D wr HMR.out hx (.inr rfl)).mono ?_
        rintro e w2 ⟨rfl, rfl⟩
        go_wp2_with fail
        refine wp_loop_rounds 1 ?_
        rw [rounds_succ]
        go_wp2_with fail
        go_roundw
        case rel => exact ⟨k + 1, by have := HLT.out; have := HZ.out; omega, by (try simp only [HZW.out]); (congr 1; have := HZ.out; omega), HO.out⟩
        case measure => have := HZ.out; have := HLT.out; simp [intOf, HZW.out]; omega
      · obtain ⟨j, hzj⟩ : ∃ j : Nat, z = j := ⟨z.toNat, by omega⟩
        have hzi : j < D.n := by omega
        have hrd := read_told2 _ d j D wr HDR.out hzi hoff
        rw [← hzj] at hrd
        have HZJ := Lib.hid hzj
        clear hzj
        refine hrd.mono ?_
        rintro e w2 ⟨rfl, hl2, hr2, hs2, hg2, hb2⟩
        have hcv := run_string w2 wr.heap.size 0 (D.now j) 128 hr2
        rw [hl2] at hcv
        have HG2 := Lib.hid hg2
        have HB2 := Lib.hid hb2
        have HOF := Lib.hid hoff
        clear hl2 hr2 hs2 hg2 hb2 hx hz0 hoff
        go_wp2_with fail
        have hrr := rread_told _ m j D w2 (HMR.out.grown HG2.out) hzi HOF.out HF.out
        rw [← HZJ.out] at hrr
        refine hrr.mono ?_
        rintro e w3 ⟨rfl, rfl⟩
        go_wp2_with fail
        obtain ⟨g, hgq⟩ : ∃ g, g = wr.heap.size := ⟨_, rfl⟩
        rw [← hgq] at HB2 ⊢
        have HGQ := Lib.hid hgq
        clear hgq hcv hzi hrr hrd
        go_loopw [10] (fun tv wq => ∃ t : Nat, t ≤ 128 ∧ tv = .int .i64 (t : Int) ∧ ByteAt wq g 128 ∧ Off (fun b => w.heap.size ≤ b) w2 wq) (fun tv _ => 128 - (intOf tv).toNat)
        case atStart => exact ⟨0, by omega, rfl, HB2.out, Off.refl _ _⟩
        case round =>
          obtain ⟨t, ht, rfl, hB, hoq⟩ := hrel
          have HB := Lib.hid hB
          have HOQ := Lib.hid hoq
          clear hB hoq
          by_cases htt : t < 128
          · have hd1 : decide ((t : Int) < 128) = true := by simp; omega
            obtain ⟨⟨y, hy⟩, hzf⟩ := HB.out t htt
            have t0 : (0 : Int) ≤ (t : Int) := by omega
            have t1 : (t : Int) < 128 := by omega
            go_wp2_with fail
            go_roundw
            case rel => exact ⟨t + 1, by omega, by go_num, HB.out.set htt, HOQ.out.trans (grown_off (grown_set _ g t _) (by have := HGQ.out; have := HO.out.size; show w.heap.size ≤ g; omega))⟩
            case measure => simp [intOf]; omega
          · have hd1 : decide ((t : Int) < 128) = false := by simp; omega
            clear htt ht
            go_wp2_with fail
            go_roundw
            case rel => exact ⟨k + 1, by have := HLT.out; have := HZ.out; omega, by (try simp only [HZW.out]); (congr 1; have := HZ.out; omega), (HO.out.trans (Off.of_grown HG2.out (by simp))).trans HOQ.out⟩
            case measure => have := HZ.out; have := HLT.out; simp [intOf, HZW.out]; omega
    · have hd : decide (z ≤ (D.n : Int)) = false := by simp; omega
      clear hz ho hdr hmr hlt
      go_wp2_with fail
      go_ret
      exact ⟨rfl, HO.out.mono (fun k hk h => by omega)⟩
end Go.Proofs.Ytplnkpbfnpajjaa.Sec
