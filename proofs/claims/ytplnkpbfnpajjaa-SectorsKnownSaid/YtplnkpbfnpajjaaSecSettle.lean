/- A disk forgets its writes: sectors.Settle. -/
import Derived.Test.YtplnkpbfnpajjaaSecWrote
namespace Go.Proofs.Ytplnkpbfnpajjaa.Sec
open Go.RowKit Go.Maps

theorem cleared {w : World} {b N : Nat} {f : Nat → List UInt8} (h : SecMap w b N f) :
    ∃ w', (∀ ty, (Builtin.clear_ #[46] ty #[.map (some b)]).run Try.prog w = .ok (.tuple #[]) w') ∧ w'.ownsMap Try.prog 3 secR b 0 (.map []) ∧ w.grownBy w' (some b) := by
  obtain ⟨n, D, _, ⟨es, clock, hb, F, hs, hD⟩, _⟩ := h
  have hset := MapKept.heap_set (o' := .map #[] clock) hb
  refine ⟨{ w with heap := w.heap.setIfInBounds b (.map #[] clock) }, fun ty => ?_, ⟨#[], clock, ?_, ⟨by simp, MapKept.stamped_empty clock, by simp⟩, Nat.le_refl _, rfl⟩, ?_⟩
  · simp [Builtin.clear_, run_underlying Try.underlying46, MapKept.run_getObj_map hb, MapKept.run_setObj_map _ hb, Result.andThen]
  · exact hset.1
  · exact ⟨rfl, rfl, rfl, by simp, fun k hk hne => by simp [Array.getElem?_setIfInBounds]; intro e; exact absurd (by rw [e]) hne⟩

theorem row_of_map {w w' : World} {B n m N : Nat} {sv : Value} {xs : List Value} {f : Nat → List UInt8} (h : w.ownsRow B 55 129 sv n xs) (hm : SecMap w m N f) (hg : w.grownBy w' (some m)) : w'.ownsRow B 55 129 sv n xs := by
  refine row_kept h hg ?_
  intro e
  obtain ⟨_, ⟨rfl, _⟩ | ⟨g, cap, cur, rfl, _, hb, _⟩⟩ := h
  · simp [Value.ownBlock] at e
  · simp [Value.ownBlock] at e
    subst e
    exact hm.ne hb rfl
theorem ArmedAt.of_map {w w' : World} {S : Nat → Prop} {m N : Nat} {pa : Option Addr} {k : Option Nat} {f : Nat → List UInt8} (h : ArmedAt w S pa k) (hm : SecMap w m N f) (hg : w.grownBy w' (some m)) : ArmedAt w' S pa k := by
  cases k with
  | none => exact h
  | some k =>
    obtain ⟨b, e, hB, hb, hk⟩ := h
    exact ⟨b, e, hB, (hg.block b (Array.getElem?_eq_some_iff.1 hb).1 (fun x => hm.ne hb (Option.some.inj x).symm)).trans hb, hk⟩

set_option maxRecDepth 100000 in
set_option maxHeartbeats 4000000 in
theorem settle_at (S : Nat → Prop) (d : Nat) (D : Dsk) (w : World) (h : DiskAt w S d D) :
    Calls Try.prog 10 #[.pointer (some ⟨d, 0, none⟩)] w fun e w' => e = .returned (.tuple #[]) ∧ DiskAt w' S d { D with base := D.now, wr := [] } ∧ Off S w w' := by
  obtain ⟨h1, h2, mb, mn, sv, pa, hd, hB, hmb, hmn, hne, hsb, hsn, hrow, hos, ha⟩ := h
  obtain ⟨w1, hcl, hown, hg1⟩ := cleared hsb
  have c1 : w.cell? ⟨d, 1, none⟩ = some (.map (some mb)) := cell_blk hd 1
  have hdb : d ≠ mb := fun e => hsb.ne hd e.symm
  have hdn : d ≠ mn := fun e => hsn.ne hd e.symm
  have hdlt := (Array.getElem?_eq_some_iff.1 hd).1
  have hd1 := (hg1.block d hdlt (fun e => hdb (Option.some.inj e))).trans hd
  have hsn1 := hsn.kept hg1 (fun e => hne (Option.some.inj e).symm)
  have hrow1 := row_of_map hrow hsb hg1
  have ha1 := ha.of_map hsb hg1
  have hb1 := grown_off hg1 hmb
  have HNE := Lib.hid (And.intro hdb hdn)
  have HCL := Lib.hid (And.intro hown hb1)
  have HSN1 := Lib.hid hsn1
  have HD1 := Lib.hid hd1
  have HROW1 := Lib.hid (And.intro hrow1 ha1)
  have HG1 := Lib.hid hg1
  have H1 : Hid (w1.drew.cell? ⟨d, 1, none⟩ = some (.map (some mb))) := cell_blk (w := w1.drew) hd1 1
  have H2 : Hid (w1.drew.cell? ⟨d, 2, none⟩ = some (.map (some mn))) := cell_blk (w := w1.drew) hd1 2
  clear hd hsb hsn hrow ha h2 hown hg1 hd1 hsn1 hrow1 ha1 hb1 hdb hdn
  go_enter Try.func10, Try.ntmps10
  go_wp2_with fail
  refine wp_region_noPanic ?_
  refine wp_region_held_drew (S := fun w' => w'.cell? ⟨d, 1, none⟩ = some (.map (some mb)) ∧ w'.cell? ⟨d, 2, none⟩ = some (.map (some mn))) (by kernel_rfl) ?hSa (fun hHeld => ?_)
  case hSa => exact ⟨H1.out, H2.out⟩
  refine wpAnyH_take (i := 0) (oi := ⟨_, _, _, _, _, _⟩) (v := ?va0) rfl (by kernel_rfl) (by kernel_rfl) (by kernel_rfl) (fun _ _ _ h => h) (Or.inl ⟨by rfl, ?hya0⟩) hHeld ?_
  case hya0 => (intro wS hSw; (try dsimp only at hSw); go_simp; (first | done | with_reducible rfl))
  try simp only [Act.put, List.setIfInBounds_toArray, List.set_cons_zero, List.set_cons_succ]
  refine wpAnyH_take (i := 1) (oi := ⟨_, _, _, _, _, _⟩) (v := ?va1) rfl (by kernel_rfl) (by kernel_rfl) (by kernel_rfl) (fun _ _ _ h => h) (Or.inl ⟨by rfl, ?hya1⟩) hHeld ?_
  case hya1 => (intro wS hSw; (try dsimp only at hSw); go_simp; (first | done | with_reducible rfl))
  try simp only [Act.put, List.setIfInBounds_toArray, List.set_cons_zero, List.set_cons_succ]
  refine wpAnyH_take (i := 2) (oi := ⟨_, _, _, _, _, _⟩) (v := ?va2) rfl (by kernel_rfl) (by kernel_rfl) (by kernel_rfl) (fun _ _ _ h => h) (Or.inl ⟨by rfl, ?hya2⟩) hHeld ?_
  case hya2 => (intro wS hSw; (try dsimp only at hSw); go_simp; (first | done | with_reducible rfl))
  try simp only [Act.put, List.setIfInBounds_toArray, List.set_cons_zero, List.set_cons_succ]
  refine wpAnyH_take (i := 3) (oi := ⟨_, _, _, _, _, _⟩) (v := ?va3) rfl (by kernel_rfl) (by kernel_rfl) (by kernel_rfl) (fun _ _ _ h => h) (Or.inl ⟨by rfl, ?hya3⟩) hHeld ?_
  case hya3 => (intro wS hSw; (try dsimp only at hSw); go_simp; (first | done | with_reducible rfl))
  try simp only [Act.put, List.setIfInBounds_toArray, List.set_cons_zero, List.set_cons_succ]
  refine wpAnyH_take (i := 4) (oi := ⟨_, _, _, _, _, _⟩) (v := ?va4) rfl (by kernel_rfl) (by kernel_rfl) (by kernel_rfl) (fun _ _ _ h => h) (Or.inl ⟨by rfl, ?hya4⟩) hHeld ?_
  case hya4 => (intro wS hSw; (try dsimp only at hSw); go_simp; (first | done | with_reducible rfl))
  try simp only [Act.put, List.setIfInBounds_toArray, List.set_cons_zero, List.set_cons_succ]
  refine wpAnyH_take (i := 5) (oi := ⟨_, _, _, _, _, _⟩) (v := ?va5) rfl (by kernel_rfl) (by kernel_rfl) (by kernel_rfl) (fun _ _ _ h => h) (Or.inl ⟨by rfl, ?hya5⟩) hHeld ?_
  case hya5 => (intro wS hSw; (try dsimp only at hSw); go_simp; (first | done | with_reducible rfl))
  try simp only [Act.put, List.setIfInBounds_toArray, List.set_cons_zero, List.set_cons_succ]
  refine wpAnyH_take (i := 6) (oi := ⟨_, _, _, _, _, _⟩) (v := ?va6) rfl (by kernel_rfl) (by kernel_rfl) (by kernel_rfl) (fun _ _ _ h => h) (Or.inl ⟨by rfl, ?hya6⟩) hHeld ?_
  case hya6 => (intro wS hSw; (try dsimp only at hSw); go_simp; (first | done | with_reducible rfl))
  try simp only [Act.put, List.setIfInBounds_toArray, List.set_cons_zero, List.set_cons_succ]
  refine wpAnyH_take (i := 7) (oi := ⟨_, _, _, _, _, _⟩) (v := ?va7) rfl (by kernel_rfl) (by kernel_rfl) (by kernel_rfl) (fun _ _ _ h => h) (Or.inl ⟨by rfl, ?hya7⟩) hHeld ?_
  case hya7 => (intro wS hSw; (try dsimp only at hSw); go_simp; (first | done | with_reducible rfl))
  try simp only [Act.put, List.setIfInBounds_toArray, List.set_cons_zero, List.set_cons_succ]
  refine wpAnyH_ready (rs := [8]) (by kernel_rfl) (by simp) ?_
  refine AllReadyH.cons (o := ⟨_, _, _, _, _, _⟩) rfl (fun K hK => ?_) AllReadyH.nil
  go_simp
  refine (copy_at mb mn D.n D.now _ h1 (by exact HCL.out.1.kept (drew_grown w1 none) (by simp)) (by exact HSN1.out.kept (drew_grown w1 none) (by simp)) hne).mono ?_
  rintro e w3 ⟨rfl, hsb3, hg3⟩
  have HSB3 := Lib.hid hsb3
  have HG3 := Lib.hid ((drew_grown w1 (some mb)).andThen hg3 (fun _ hj => .inr hj))
  clear hsb3 hg3
  go_wp2_with fail
  refine hK.out _ _ ?ka8 (fun hNew => ?_)
  case ka8 => (try dsimp only); exact ⟨cell_blk ((HG3.out.block d (Array.getElem?_eq_some_iff.1 HD1.out).1 (fun e => HNE.out.1 (Option.some.inj e))).trans HD1.out) 1, cell_blk ((HG3.out.block d (Array.getElem?_eq_some_iff.1 HD1.out).1 (fun e => HNE.out.1 (Option.some.inj e))).trans HD1.out) 2⟩
  clear hK K hHeld
  have hHeld := hNew
  clear hNew
  try simp only [Act.put, List.setIfInBounds_toArray, List.set_cons_zero, List.set_cons_succ]
  refine wpAnyH_done (by kernel_rfl) ?_ _
  refine NoPanic.normal ?_
  have hd3 := (HG3.out.block d (Array.getElem?_eq_some_iff.1 HD1.out).1 (fun e => HNE.out.1 (Option.some.inj e))).trans HD1.out
  have c3 : w3.cell? ⟨d, 3, none⟩ = some sv := cell_blk hd3 3
  have z3 := frozen_blk hd3 3
  have HD3 := Lib.hid hd3
  clear hd3 hHeld
  go_wp2_with fail
  go_end0
  have hd3 := HD3.out
  have hgs := grown_set w3 d 3 (.slice none 0 0)
  have hd4 := heap_setCell_same w3 d 3 _ _ (.slice none 0 0) hd3
  have hsb3 := HSB3.out
  have hsn3 := HSN1.out.kept HG3.out (fun e => hne (Option.some.inj e).symm)
  have hmap1 : SecMap w1 mb D.n (fun _ => noughts) := ⟨0, .map [], Nat.zero_le _, HCL.out.1, fun k h => by simp [has_eq] at h, fun i _ => by simp [DataW.atKey]⟩
  have ha3 := HROW1.out.2.of_map hmap1 HG3.out
  refine ⟨rfl, ⟨h1, by simp, mb, mn, .slice none 0 0, pa, by simpa using hd4, hB, hmb, hmn, hne, hsb3.kept hgs ?_, hsn3.kept hgs ?_, ⟨by simp [rows], .inl ⟨rfl, rfl⟩⟩, by simp [Value.ownBlock], ha3.kept hd3 (by decide) hgs⟩, ?_⟩
  · exact fun x => hsb3.ne hd3 (Option.some.inj x)
  · exact fun x => hsn3.ne hd3 (Option.some.inj x)
  · have hb := HCL.out.2
    exact (hb.trans (grown_off HG3.out hmb)).trans (grown_off hgs hB)
end Go.Proofs.Ytplnkpbfnpajjaa.Sec
