/- Does a net tell what the document's does: the law's helper alike. -/
import Derived.Test.YtonfpifikblnjaaNetRel
namespace Go.Proofs.Ytonfpifikblnjaa.Net
open Go.RowKit

theorem yields_conv2 : True := trivial
theorem Rel.waits {D : Nt} {R : Rf} (h : Rel D R) (i : Int) : D.waits i = R.waits i := by
  unfold Nt.waits Rf.waits
  rw [h.is]
  by_cases hi : R.is i = true
  · obtain ⟨z, hz, hzn⟩ := Rf.is_nat hi
    rw [if_pos hi, if_pos hi, hz, Int.toNat_natCast, h.len (z + 1) (by rw [h.n]; exact hzn)]
  · rw [if_neg hi, if_neg hi]
/-- The bytes of the first i letters. -/
def used (cs : List (Pk × Option Addr × Nat)) (i b : Nat) : Prop := ∃ j c, j < i ∧ cs[j]? = some c ∧ c.2.1 = some ⟨b, 0, none⟩

theorem used_new {y : World} {n B : Nat} {Av : Option Addr} {capv i b : Nat} {cs : List (Pk × Option Addr × Nat)} (hL : Letters y B (.slice Av n capv) cs) (h : used cs i b) : B ≤ b ∧ Typed y b 5 := by
  obtain ⟨j, c, _, hc, e⟩ := h
  rcases (hL.bytes c (List.mem_of_getElem? hc)).2 with ⟨e2, _⟩ | ⟨g, e2, hB, hT, _⟩
  · rw [e2] at e; cases e
  · rw [e2] at e
    cases e
    exact ⟨hB, hT⟩
theorem used_not {y : World} {n B : Nat} {Av : Option Addr} {capv i : Nat} {cs : List (Pk × Option Addr × Nat)} {c : Pk × Option Addr × Nat} (hL : Letters y B (.slice Av n capv) cs) (hc : cs[i]? = some c) {b : Nat} (hb : c.2.1 = some ⟨b, 0, none⟩) : ¬ used cs i b := by
  rintro ⟨j, d, hj, hd, e⟩
  have hlc := (List.getElem?_eq_some_iff.1 hc).1
  have hld := (List.getElem?_eq_some_iff.1 hd).1
  have := List.pairwise_iff_getElem.1 hL.apart j i hld hlc hj
  rw [(List.getElem?_eq_some_iff.1 hc).2, (List.getElem?_eq_some_iff.1 hd).2] at this
  exact this b e hb
theorem Off.cell {S : Nat → Prop} {w w' : World} {a : Addr} {x : Value} (h : Off S w w') (hx : w.cell? a = some x) (hS : ¬ S a.block) : w'.cell? a = some x := (World.cell?_of_block (h.block _ ((World.block_lt_of_cell? _ _ hx)) hS)).trans hx
theorem used_more {cs : List (Pk × Option Addr × Nat)} {i b : Nat} (h : used cs i b) : used cs (i + 1) b := let ⟨j, c, hj, r⟩ := h; ⟨j, c, Nat.lt_succ_of_lt hj, r⟩
theorem XorAt.grown {w w' : World} {g n : Nat} (h : XorAt w g n) (hg : w.grownBy w' none) : XorAt w' g n := fun j hj => let ⟨z, hz, hf⟩ := h j hj; ⟨z, hg.cell hz (by simp), (frozen_grown (World.block_lt_of_cell? _ _ hz) hg).trans hf⟩
/-- What a round of alike finds. -/
theorem alike_here {w y : World} {D : Nt} {R : Rf} {n m capv capa cap1 i : Nat} {Av A1 Aa : Option Addr} {v2 : Value} {cs : List (Pk × Option Addr × Nat)} (hcs : cs.map (·.1) = D.row 0) (hL : Letters y w.heap.size (.slice Av n capv) cs) (hd : Rel D R) (ho : D.OK) (hg : w.grownBy y none)
    (hm : w.cell? ⟨m, 0, none⟩ = some (.slice Aa R.all.length capa) ∧ w.cell? ⟨m, 1, none⟩ = some (.slice A1 (R.row 0).length cap1) ∧ w.cell? ⟨m, 2, none⟩ = some v2)
    (hc1 : ∀ (k z : Nat), (R.row 0)[k]? = some z → ∃ g, A1 = some ⟨g, 0, none⟩ ∧ w.cell? ⟨g, k, none⟩ = some (.int .i64 (z : Int)))
    (hca : ∀ (k : Nat) (p : Pk), R.all[k]? = some p → ∃ g, Aa = some ⟨g, 0, none⟩ ∧ w.cell? ⟨g, k * 3, none⟩ = some (.int .i64 p.src) ∧ w.cell? ⟨g, k * 3 + 1, none⟩ = some (.int .i64 p.to) ∧ w.cell? ⟨g, k * 3 + 2, none⟩ = some (strV p.b))
    (hi : i < (R.row 0).length) :
    ∃ (p : Pk) (k : Nat) (Ap : Option Addr) (capp gv gR gA : Nat), Av = some ⟨gv, 0, none⟩ ∧ A1 = some ⟨gR, 0, none⟩ ∧ Aa = some ⟨gA, 0, none⟩ ∧ k < R.all.length ∧ p.b.length ≤ 1000 ∧ Typed y gv 37 ∧
      (p.b ≠ [] → ∃ gb, Ap = some ⟨gb, 0, none⟩ ∧ used cs (i + 1) gb ∧ Typed y gb 5 ∧ ∀ wr, Off (used cs i) y wr → XorAt wr gb p.b.length) ∧
      ∀ wr, Off (used cs i) y wr → ((wr.cell? ⟨gv, i * 3, none⟩ = some (.int .i64 p.src) ∧ wr.cell? ⟨gv, i * 3 + 1, none⟩ = some (.int .i64 p.to) ∧ wr.cell? ⟨gv, i * 3 + 2, none⟩ = some (.slice Ap p.b.length capp) ∧ Bytes wr (fun _ => True) Ap p.b) ∧ wr.cell? ⟨m, 0, none⟩ = some (.slice Aa R.all.length capa) ∧ wr.cell? ⟨m, 1, none⟩ = some (.slice A1 (R.row 0).length cap1) ∧ wr.cell? ⟨gR, i, none⟩ = some (.int .i64 (k : Int)) ∧ wr.cell? ⟨gA, k * 3, none⟩ = some (.int .i64 p.src) ∧ wr.cell? ⟨gA, k * 3 + 1, none⟩ = some (.int .i64 p.to) ∧ wr.cell? ⟨gA, k * 3 + 2, none⟩ = some (strV p.b)) := by
  have hlen : cs.length = (R.row 0).length := by
    have := hd.len 0 (Nat.zero_le _)
    rw [← hcs, List.length_map] at this
    exact this
  obtain ⟨c, hc⟩ : ∃ c, cs[i]? = some c := ⟨_, List.getElem?_eq_getElem (by omega)⟩
  obtain ⟨k, hk⟩ : ∃ k, (R.row 0)[i]? = some k := ⟨_, List.getElem?_eq_getElem hi⟩
  have hkl : k < R.all.length := hd.all 0 (Nat.zero_le _) k (List.mem_of_getElem? hk)
  have hp : R.all[k]? = some c.1 := by
    have h1 : (D.row 0)[i]? = some c.1 := by rw [← hcs, List.getElem?_map, hc]; rfl
    rw [hd.rows 0 (Nat.zero_le _), List.getElem?_map, hk] at h1
    have h2 : R.get k = c.1 := by simpa using h1
    rw [List.getElem?_eq_getElem hkl] at *
    rw [← h2]
    unfold Rf.get
    rw [List.getElem?_eq_getElem hkl]
    rfl
  obtain ⟨A', cap', e, _, _, hcell⟩ := hL.open_
  cases e
  obtain ⟨gv, rfl, hgv, htv, q0, q1, q2⟩ := hcell i c hc
  obtain ⟨gR, rfl, r0⟩ := hc1 i k hk
  obtain ⟨gA, rfl, a0, a1, a2⟩ := hca k c.1 hp
  have hby := hL.bytes c (List.mem_of_getElem? hc)
  have hlow : ∀ (a : Addr) (x : Value), w.cell? a = some x → ∀ wr, Off (used cs i) y wr → wr.cell? a = some x := by
    intro a x hx wr hwr
    have hlt : a.block < w.heap.size := (World.block_lt_of_cell? _ _ hx)
    exact hwr.cell (hg.cell hx (by simp)) (fun hu => by have := (used_new hL hu).1; omega)
  have hrow : ∀ (o : Nat) (x : Value), y.cell? ⟨gv, o, none⟩ = some x → ∀ wr, Off (used cs i) y wr → wr.cell? ⟨gv, o, none⟩ = some x := by
    intro o x hx wr hwr
    exact hwr.cell hx (fun hu => (htv.ne (used_new hL hu).2 (by decide)) rfl)
  refine ⟨c.1, k, c.2.1, c.2.2, gv, gR, gA, rfl, rfl, rfl, hkl, ho.small 0 c.1 (by rw [← hcs]; exact List.mem_map.2 ⟨c, List.mem_of_getElem? hc, rfl⟩), htv, fun hne => ?_, fun wr hwr => ?_⟩
  · rcases hby.2 with ⟨e2, _⟩ | ⟨g, e2, hB, hT, hf⟩
    · exfalso
      rcases hby.1 with e3 | ⟨g, off, e3, _⟩
      · exact hne e3
      · rw [e2] at e3; cases e3
    · refine ⟨g, e2, ⟨i, c, Nat.lt_succ_self _, hc, e2⟩, hT, fun wr hwr => xor_of (fun j hj => ?_)⟩
      have hblk := hwr.block g hT.lt (used_not hL hc e2)
      rcases hby.1 with e3 | ⟨g', off, e3, _, _, hr⟩
      · exact absurd e3 hne
      · rw [e2] at e3
        cases e3
        have := hr j (.int .u8 ((c.1.b[j]'hj).toNat : Int)) (by simp [u8s, hj])
        rw [Nat.zero_add] at this
        exact ⟨_, (World.cell?_of_block (a := ⟨g, j, none⟩) hblk).trans this, (World.frozen?_of_block (a := ⟨g, j, none⟩) hblk).trans (hf j)⟩
  · refine ⟨⟨hrow _ _ q0 wr hwr, hrow _ _ q1 wr hwr, hrow _ _ q2 wr hwr, ?_⟩, hlow _ _ hm.1 wr hwr, hlow _ _ hm.2.1 wr hwr, hlow _ _ r0 wr hwr, hlow _ _ a0 wr hwr, hlow _ _ a1 wr hwr, hlow _ _ a2 wr hwr⟩
    rcases hby.1 with e3 | ⟨g', off, e3, _, hT, hr⟩
    · exact .inl e3
    · have hblk : wr.heap[g']? = y.heap[g']? := by
        rcases hby.2 with ⟨e2, _⟩ | ⟨g, e2, _⟩
        · rw [e2] at e3; cases e3
        · rw [e2] at e3
          cases e3
          exact hwr.block g' hT.lt (used_not hL hc e2)
      exact .inr ⟨g', off, e3, trivial, let ⟨C, fr, hC⟩ := hT; ⟨C, fr, hblk.trans hC⟩, fun j u hj => (World.cell?_of_block (a := ⟨g', off + j, none⟩) hblk).trans (hr j u hj)⟩

set_option maxRecDepth 100000 in
set_option maxHeartbeats 8000000 in
theorem alike_at (S T : Nat → Prop) (nb m : Nat) (D : Nt) (R : Rf) (w : World) (h : NetAt w S nb D) (hr : RefAt w T m R) (hd : Rel D R) :
    Calls Try.prog 21 #[.pointer (some ⟨nb, 0, none⟩), .pointer (some ⟨m, 0, none⟩)] w fun e w' => e = .returned (.bool true) ∧ w.grownBy w' none := by
  have HH := Lib.hid h
  have HD := Lib.hid hd
  have HOK := Lib.hid h.ok
  have HWAY := Lib.hid (way_at S nb D w h)
  obtain ⟨xb, va, V, hI⟩ := hr
  have HI := Lib.hid hI
  obtain ⟨capx, hnet, hcapx⟩ := hI.net
  obtain ⟨A1, cap1, hv, hcell1⟩ := int_row (hI.rows 0 (Nat.zero_le _)).1
  obtain ⟨Aa, capa, hva, hcella⟩ := all_row hI.all
  have m0 : w.cell? ⟨m, 0, none⟩ = some (.slice Aa R.all.length capa) := by rw [← hva]; simp only [World.cell?, hnet]; rfl
  have m1 : w.cell? ⟨m, 1, none⟩ = some (.slice A1 (R.row 0).length cap1) := by rw [← hv]; simp only [World.cell?, hnet]; rfl
  have m2 : w.cell? ⟨m, 2, none⟩ = some (.slice (some ⟨xb, 0, none⟩) R.n capx) := by simp only [World.cell?, hnet]; rfl
  have HM0 := Lib.hid (And.intro m0 (And.intro m1 m2))
  have HC1 := Lib.hid hcell1
  have HCA := Lib.hid hcella
  clear h hd hI hnet hv hcell1 hva hcella m0 m1 m2
  go_enter Try.func21, Try.ntmps21
  go_wp2_with fail
  refine HWAY.out.mono ?_
  rintro e y ⟨vw, cs, rfl, hcs, hL, hg⟩
  have hlen0 := HD.out.len 0 (Nat.zero_le _)
  obtain ⟨Av, capv, rfl⟩ := hL.shape hcs
  rw [hlen0]
  obtain ⟨W, hW⟩ : ∃ W, W = (R.row 0).length := ⟨_, rfl⟩
  have HG := Lib.hid hg
  have HCS := Lib.hid hcs
  have HL := Lib.hid hL
  have hgd := hg.andThen (drew_grown y none) (fun _ hj => .inr hj)
  have HM : Hid (y.drew.cell? ⟨m, 1, none⟩ = some (.slice A1 (R.row 0).length cap1) ∧ y.drew.cell? ⟨m, 2, none⟩ = some (.slice (some ⟨xb, 0, none⟩) R.n capx)) := ⟨hgd.cell HM0.out.2.1 (by simp), hgd.cell HM0.out.2.2 (by simp)⟩
  have hend := ends_at S nb D y.drew (HH.out.grown hgd)
  rw [HD.out.n] at hend
  have HEND := Lib.hid hend
  clear hcs hL hg hgd hend hlen0 HWAY
  go_upto_region 2 with fail
  refine wp_region_noPanic ?_
  refine wp_region_held_drew (S := fun w' => w'.cell? ⟨m, 1, none⟩ = some (.slice A1 (R.row 0).length cap1) ∧ w'.cell? ⟨m, 2, none⟩ = some (.slice (some ⟨xb, 0, none⟩) R.n capx)) (by kernel_rfl) ?hSa (fun hHeld => ?_)
  case hSa => exact HM.out
  refine wpAnyH_take (i := 0) (oi := ⟨_, _, _, _, _, _⟩) (v := ?va0) rfl (by kernel_rfl) (by kernel_rfl) (by kernel_rfl) (fun _ _ _ h => h) (Or.inl ⟨by rfl, ?hya0⟩) hHeld ?_
  case hya0 => (intro wS hSw; (try dsimp only at hSw); go_simp; (first | done | with_reducible rfl))
  try simp only [Act.put, List.setIfInBounds_toArray, List.set_cons_zero, List.set_cons_succ]
  refine wpAnyH_take (i := 1) (oi := ⟨_, _, _, _, _, _⟩) (v := ?va1) rfl (by kernel_rfl) (by kernel_rfl) (by kernel_rfl) (fun _ _ _ h => h) (Or.inl ⟨by rfl, ?hya1⟩) hHeld ?_
  case hya1 => (intro wS hSw; (try dsimp only at hSw); go_simp; (first | done | with_reducible rfl))
  try simp only [Act.put, List.setIfInBounds_toArray, List.set_cons_zero, List.set_cons_succ]
  refine wpAnyH_take (i := 2) (oi := ⟨_, _, _, _, _, _⟩) (v := ?va2) rfl (by kernel_rfl) (by kernel_rfl) (by kernel_rfl) (fun _ _ _ h => h) (Or.inl ⟨by rfl, ?hya2⟩) hHeld ?_
  case hya2 => (intro wS hSw; (try dsimp only at hSw); go_simp; (first | done | with_reducible rfl))
  try simp only [Act.put, List.setIfInBounds_toArray, List.set_cons_zero, List.set_cons_succ]
  refine wpAnyH_take (i := 3) (oi := ⟨_, _, _, _, _, _⟩) (v := ?va3) rfl (by kernel_rfl) (by kernel_rfl) (by kernel_rfl) (fun _ _ _ h => h) (Or.inl ⟨by rfl, ?hya3⟩) hHeld ?_
  case hya3 => (intro wS hSw; (try dsimp only at hSw); go_simp; (first | done | with_reducible rfl))
  try simp only [Act.put, List.setIfInBounds_toArray, List.set_cons_zero, List.set_cons_succ]
  refine wpAnyH_take (i := 4) (oi := ⟨_, _, _, _, _, _⟩) (v := ?va4) rfl (by kernel_rfl) (by kernel_rfl) (by kernel_rfl) (fun _ _ _ h => h) (Or.inl ⟨by rfl, ?hya4⟩) hHeld ?_
  case hya4 => (intro wS hSw; (try dsimp only at hSw); go_simp; (first | done | with_reducible rfl))
  try simp only [Act.put, List.setIfInBounds_toArray, List.set_cons_zero, List.set_cons_succ]
  refine wpAnyH_take (i := 5) (oi := ⟨_, _, _, _, _, _⟩) (v := ?va5) rfl (by kernel_rfl) (by kernel_rfl) (by kernel_rfl) (fun _ _ _ h => h) (Or.inl ⟨by rfl, ?hya5⟩) hHeld ?_
  case hya5 => (intro wS hSw; (try dsimp only at hSw); go_simp; (first | done | with_reducible rfl))
  try simp only [Act.put, List.setIfInBounds_toArray, List.set_cons_zero, List.set_cons_succ]
  refine wpAnyH_take (i := 6) (oi := ⟨_, _, _, _, _, _⟩) (v := ?va6) rfl (by kernel_rfl) (by kernel_rfl) (by kernel_rfl) (fun _ _ _ h => h) (Or.inl ⟨by rfl, ?hya6⟩) hHeld ?_
  case hya6 => (intro wS hSw; (try dsimp only at hSw); go_simp; (first | done | with_reducible rfl))
  try simp only [Act.put, List.setIfInBounds_toArray, List.set_cons_zero, List.set_cons_succ]
  refine wpAnyH_take (i := 7) (oi := ⟨_, _, _, _, _, _⟩) (v := ?va7) rfl (by kernel_rfl) (by kernel_rfl) (by kernel_rfl) (fun _ _ _ h => h) (Or.inl ⟨by rfl, ?hya7⟩) hHeld ?_
  case hya7 => (intro wS hSw; (try dsimp only at hSw); go_simp; (first | done | with_reducible rfl))
  try simp only [Act.put, List.setIfInBounds_toArray, List.set_cons_zero, List.set_cons_succ]
  refine wpAnyH_take (i := 8) (oi := ⟨_, _, _, _, _, _⟩) (v := ?va8) rfl (by kernel_rfl) (by kernel_rfl) (by kernel_rfl) (fun _ _ _ h => h) (Or.inl ⟨by rfl, ?hya8⟩) hHeld ?_
  case hya8 => (intro wS hSw; (try dsimp only at hSw); go_simp; (first | done | with_reducible rfl))
  try simp only [Act.put, List.setIfInBounds_toArray, List.set_cons_zero, List.set_cons_succ]
  refine wpAnyH_take (i := 9) (oi := ⟨_, _, _, _, _, _⟩) (v := ?va9) rfl (by kernel_rfl) (by kernel_rfl) (by kernel_rfl) (fun _ _ _ h => h) (Or.inl ⟨by rfl, ?hya9⟩) hHeld ?_
  case hya9 => (intro wS hSw; (try dsimp only at hSw); go_simp; (first | done | with_reducible rfl))
  try simp only [Act.put, List.setIfInBounds_toArray, List.set_cons_zero, List.set_cons_succ]
  refine wpAnyH_take (i := 11) (oi := ⟨_, _, _, _, _, _⟩) (v := ?va11) rfl (by kernel_rfl) (by kernel_rfl) (by kernel_rfl) (fun _ _ _ h => h) (Or.inl ⟨by rfl, ?hya11⟩) hHeld ?_
  case hya11 => (intro wS hSw; (try dsimp only at hSw); go_simp; (first | done | with_reducible rfl))
  try simp only [Act.put, List.setIfInBounds_toArray, List.set_cons_zero, List.set_cons_succ]
  refine wpAnyH_take (i := 12) (oi := ⟨_, _, _, _, _, _⟩) (v := ?va12) rfl (by kernel_rfl) (by kernel_rfl) (by kernel_rfl) (fun _ _ _ h => h) (Or.inl ⟨by rfl, ?hya12⟩) hHeld ?_
  case hya12 => (intro wS hSw; (try dsimp only at hSw); go_simp; (first | done | with_reducible rfl))
  try simp only [Act.put, List.setIfInBounds_toArray, List.set_cons_zero, List.set_cons_succ]
  refine wpAnyH_take (i := 13) (oi := ⟨_, _, _, _, _, _⟩) (v := ?va13) rfl (by kernel_rfl) (by kernel_rfl) (by kernel_rfl) (fun _ _ _ h => h) (Or.inl ⟨by rfl, ?hya13⟩) hHeld ?_
  case hya13 => (intro wS hSw; (try dsimp only at hSw); go_simp; (first | done | with_reducible rfl))
  try simp only [Act.put, List.setIfInBounds_toArray, List.set_cons_zero, List.set_cons_succ]
  refine wpAnyH_take (i := 14) (oi := ⟨_, _, _, _, _, _⟩) (v := ?va14) rfl (by kernel_rfl) (by kernel_rfl) (by kernel_rfl) (fun _ _ _ h => h) (Or.inl ⟨by rfl, ?hya14⟩) hHeld ?_
  case hya14 => (intro wS hSw; (try dsimp only at hSw); go_simp; (first | done | with_reducible rfl))
  try simp only [Act.put, List.setIfInBounds_toArray, List.set_cons_zero, List.set_cons_succ]
  refine wpAnyH_take (i := 15) (oi := ⟨_, _, _, _, _, _⟩) (v := ?va15) rfl (by kernel_rfl) (by kernel_rfl) (by kernel_rfl) (fun _ _ _ h => h) (Or.inl ⟨by rfl, ?hya15⟩) hHeld ?_
  case hya15 => (intro wS hSw; (try dsimp only at hSw); go_simp; (first | done | with_reducible rfl))
  try simp only [Act.put, List.setIfInBounds_toArray, List.set_cons_zero, List.set_cons_succ]
  refine wpAnyH_ready (rs := [10]) (by kernel_rfl) (by simp) ?_
  refine AllReadyH.cons (o := ⟨_, _, _, _, _, _⟩) rfl (fun K hK => ?_) AllReadyH.nil
  go_simp
  refine HEND.out.mono ?_
  rintro e wz ⟨rfl, hwz⟩
  have hwz := hwz.symm
  subst hwz
  go_wp2_with fail
  refine hK.out _ _ ?ka10 (fun hNew => ?_)
  case ka10 => (try dsimp only); exact hHeld
  clear hK K hHeld
  have hHeld := hNew
  clear hNew
  try simp only [Act.put, List.setIfInBounds_toArray, List.set_cons_zero, List.set_cons_succ]
  refine wpAnyH_take (i := 16) (oi := ⟨_, _, _, _, _, _⟩) (v := ?va16) rfl (by kernel_rfl) (by kernel_rfl) (by kernel_rfl) (fun _ _ _ h => h) (Or.inl ⟨by rfl, ?hya16⟩) hHeld ?_
  case hya16 => (intro wS hSw; (try dsimp only at hSw); go_simp; (first | done | with_reducible rfl))
  try simp only [Act.put, List.setIfInBounds_toArray, List.set_cons_zero, List.set_cons_succ]
  refine wpAnyH_take (i := 17) (oi := ⟨_, _, _, _, _, _⟩) (v := ?va17) rfl (by kernel_rfl) (by kernel_rfl) (by kernel_rfl) (fun _ _ _ h => h) (Or.inl ⟨by rfl, ?hya17⟩) hHeld ?_
  case hya17 => (intro wS hSw; (try dsimp only at hSw); go_simp; (first | done | with_reducible rfl))
  try simp only [Act.put, List.setIfInBounds_toArray, List.set_cons_zero, List.set_cons_succ]
  refine wpAnyH_take (i := 18) (oi := ⟨_, _, _, _, _, _⟩) (v := ?va18) rfl (by kernel_rfl) (by kernel_rfl) (by kernel_rfl) (fun _ _ _ h => h) (Or.inl ⟨by rfl, ?hya18⟩) hHeld ?_
  case hya18 => (intro wS hSw; (try dsimp only at hSw); go_simp; (first | done | with_reducible rfl))
  try simp only [Act.put, List.setIfInBounds_toArray, List.set_cons_zero, List.set_cons_succ]
  refine wpAnyH_done (by kernel_rfl) ?_ _
  refine NoPanic.normal ?_
  clear hHeld
  have HFX0 : Hid (Off (used cs 0) y y.drew) := Off.of_grown (drew_grown y none) (by simp)
  rw [← hW]
  have HWW := Lib.hid hW
  have hWS : W ≤ 256 := by rw [hW, ← HD.out.len 0 (Nat.zero_le _)]; exact HOK.out.way
  clear hW
  go_wp2_with fail
  go_loopw [6, 7] (fun bv iv wr => ∃ i : Nat, i ≤ W ∧ bv = .bool true ∧ iv = .int .i64 (i : Int) ∧ Off (used cs i) y wr) (fun _ iv _ => W - (intOf iv).toNat)
  case atStart => exact ⟨0, Nat.zero_le _, rfl, rfl, HFX0.out⟩
  case round =>
    obtain ⟨i, hi, rfl, rfl, hfx⟩ := hrel
    have HFX := Lib.hid hfx
    clear hfx
    by_cases hlt : i < W
    · have hkd : decide ((i : Int) < (W : Int)) = true := by simp; omega
      have hkd2 : decide (i < W) = true := by simpa using hlt
      have i0 : (0 : Int) ≤ (i : Int) := by omega
      have i1 : (i : Int) < (W : Int) := by omega
      obtain ⟨p, k, Ap, capp, gv, gR, gA, rfl, rfl, rfl, hkA, hsm, hTV, hXB, hS6⟩ := alike_here HCS.out HL.out HD.out HOK.out HG.out HM0.out HC1.out HCA.out (by rw [← HWW.out]; exact hlt)
      have HXB := Lib.hid hXB
      have HTV := Lib.hid hTV
      have HSX := Lib.hid hS6
      have hkB : (k : Int) < (R.all.length : Int) := by omega
      have k0 : (0 : Int) ≤ (k : Int) := by omega
      have i2 : (i : Int) < ((R.row 0).length : Int) := by rw [← HWW.out]; exact i1
      have HLT := Lib.hid hlt
      clear hXB hTV hS6 hlt hi
      go_upto_region 6 with fail
      have HFD : Hid (Off (used cs i) y wr.drew) := HFX.out.trans (Off.of_grown (drew_grown wr none) (by simp))
      have HS := Lib.hid (HSX.out _ HFD.out)
      refine wp_region_noPanic ?_
      refine wp_region_held_drew (S := fun w' => (w'.cell? ⟨gv, i * 3, none⟩ = some (.int .i64 p.src) ∧ w'.cell? ⟨gv, i * 3 + 1, none⟩ = some (.int .i64 p.to) ∧ w'.cell? ⟨gv, i * 3 + 2, none⟩ = some (.slice Ap p.b.length capp) ∧ Bytes w' (fun _ => True) Ap p.b) ∧ w'.cell? ⟨m, 0, none⟩ = some (.slice (some ⟨gA, 0, none⟩) R.all.length capa) ∧ w'.cell? ⟨m, 1, none⟩ = some (.slice (some ⟨gR, 0, none⟩) (R.row 0).length cap1) ∧ w'.cell? ⟨gR, i, none⟩ = some (.int .i64 (k : Int)) ∧ w'.cell? ⟨gA, k * 3, none⟩ = some (.int .i64 p.src) ∧ w'.cell? ⟨gA, k * 3 + 1, none⟩ = some (.int .i64 p.to) ∧ w'.cell? ⟨gA, k * 3 + 2, none⟩ = some (strV p.b)) (by kernel_rfl) ?hSb (fun hHeld => ?_)
      case hSb => exact HS.out
      refine wpAnyH_take (i := 0) (oi := ⟨_, _, _, _, _, _⟩) (v := ?vb0) rfl (by kernel_rfl) (by kernel_rfl) (by kernel_rfl) (fun _ _ _ h => h) (Or.inl ⟨by rfl, ?hyb0⟩) hHeld ?_
      case hyb0 => (intro wS hSw; (try dsimp only at hSw); go_simp; (first | done | with_reducible rfl))
      try simp only [Act.put, List.setIfInBounds_toArray, List.set_cons_zero, List.set_cons_succ]
      refine wpAnyH_take (i := 1) (oi := ⟨_, _, _, _, _, _⟩) (v := ?vb1) rfl (by kernel_rfl) (by kernel_rfl) (by kernel_rfl) (fun _ _ _ h => h) (Or.inl ⟨by rfl, ?hyb1⟩) hHeld ?_
      case hyb1 => (intro wS hSw; (try dsimp only at hSw); go_simp; (first | done | with_reducible rfl))
      try simp only [Act.put, List.setIfInBounds_toArray, List.set_cons_zero, List.set_cons_succ]
      refine wpAnyH_take (i := 2) (oi := ⟨_, _, _, _, _, _⟩) (v := ?vb2) rfl (by kernel_rfl) (by kernel_rfl) (by kernel_rfl) (fun _ _ _ h => h) (Or.inl ⟨by rfl, ?hyb2⟩) hHeld ?_
      case hyb2 => (intro wS hSw; (try dsimp only at hSw); go_simp; (first | done | with_reducible rfl))
      try simp only [Act.put, List.setIfInBounds_toArray, List.set_cons_zero, List.set_cons_succ]
      refine wpAnyH_take (i := 3) (oi := ⟨_, _, _, _, _, _⟩) (v := ?vb3) rfl (by kernel_rfl) (by kernel_rfl) (by kernel_rfl) (fun _ _ _ h => h) (Or.inl ⟨by rfl, ?hyb3⟩) hHeld ?_
      case hyb3 => (intro wS hSw; (try dsimp only at hSw); go_simp; (first | done | with_reducible rfl))
      try simp only [Act.put, List.setIfInBounds_toArray, List.set_cons_zero, List.set_cons_succ]
      refine wpAnyH_take (i := 4) (oi := ⟨_, _, _, _, _, _⟩) (v := ?vb4) rfl (by kernel_rfl) (by kernel_rfl) (by kernel_rfl) (fun _ _ _ h => h) (Or.inl ⟨by rfl, ?hyb4⟩) hHeld ?_
      case hyb4 => (intro wS hSw; (try dsimp only at hSw); go_simp; (first | done | with_reducible rfl))
      try simp only [Act.put, List.setIfInBounds_toArray, List.set_cons_zero, List.set_cons_succ]
      refine wpAnyH_take (i := 5) (oi := ⟨_, _, _, _, _, _⟩) (v := ?vb5) rfl (by kernel_rfl) (by kernel_rfl) (by kernel_rfl) (fun _ _ _ h => h) (Or.inl ⟨by rfl, ?hyb5⟩) hHeld ?_
      case hyb5 => (intro wS hSw; (try dsimp only at hSw); go_simp; (first | done | with_reducible rfl))
      try simp only [Act.put, List.setIfInBounds_toArray, List.set_cons_zero, List.set_cons_succ]
      refine wpAnyH_take (i := 6) (oi := ⟨_, _, _, _, _, _⟩) (v := ?vb6) rfl (by kernel_rfl) (by kernel_rfl) (by kernel_rfl) (fun _ _ _ h => h) (Or.inl ⟨by rfl, ?hyb6⟩) hHeld ?_
      case hyb6 => (intro wS hSw; (try dsimp only at hSw); go_simp; (first | done | with_reducible rfl))
      try simp only [Act.put, List.setIfInBounds_toArray, List.set_cons_zero, List.set_cons_succ]
      refine wpAnyH_take (i := 7) (oi := ⟨_, _, _, _, _, _⟩) (v := ?vb7) rfl (by kernel_rfl) (by kernel_rfl) (by kernel_rfl) (fun _ _ _ h => h) (Or.inl ⟨by rfl, ?hyb7⟩) hHeld ?_
      case hyb7 => (intro wS hSw; (try dsimp only at hSw); go_simp; (first | done | with_reducible rfl))
      try simp only [Act.put, List.setIfInBounds_toArray, List.set_cons_zero, List.set_cons_succ]
      refine wpAnyH_take (i := 8) (oi := ⟨_, _, _, _, _, _⟩) (v := ?vb8) rfl (by kernel_rfl) (by kernel_rfl) (by kernel_rfl) (fun _ _ _ h => h) (Or.inl ⟨by rfl, ?hyb8⟩) hHeld ?_
      case hyb8 => (intro wS hSw; (try dsimp only at hSw); go_simp; (first | done | with_reducible rfl))
      try simp only [Act.put, List.setIfInBounds_toArray, List.set_cons_zero, List.set_cons_succ]
      refine wpAnyH_take (i := 9) (oi := ⟨_, _, _, _, _, _⟩) (v := ?vb9) rfl (by kernel_rfl) (by kernel_rfl) (by kernel_rfl) (fun _ _ _ h => h) (Or.inl ⟨by rfl, ?hyb9⟩) hHeld ?_
      case hyb9 => (intro wS hSw; (try dsimp only at hSw); go_simp; (first | done | with_reducible rfl))
      try simp only [Act.put, List.setIfInBounds_toArray, List.set_cons_zero, List.set_cons_succ]
      refine wpAnyH_take (i := 10) (oi := ⟨_, _, _, _, _, _⟩) (v := ?vb10) rfl (by kernel_rfl) (by kernel_rfl) (by kernel_rfl) (fun _ _ _ h => h) (Or.inl ⟨by rfl, ?hyb10⟩) hHeld ?_
      case hyb10 => (intro wS hSw; (try dsimp only at hSw); go_simp; (first | done | with_reducible rfl))
      try simp only [Act.put, List.setIfInBounds_toArray, List.set_cons_zero, List.set_cons_succ]
      refine wpAnyH_take (i := 11) (oi := ⟨_, _, _, _, _, _⟩) (v := ?vb11) rfl (by kernel_rfl) (by kernel_rfl) (by kernel_rfl) (fun _ _ _ h => h) (Or.inl ⟨by rfl, ?hyb11⟩) hHeld ?_
      case hyb11 => (intro wS hSw; (try dsimp only at hSw); go_simp; (first | done | with_reducible rfl))
      try simp only [Act.put, List.setIfInBounds_toArray, List.set_cons_zero, List.set_cons_succ]
      refine wpAnyH_take (i := 12) (oi := ⟨_, _, _, _, _, _⟩) (v := ?vb12) rfl (by kernel_rfl) (by kernel_rfl) (by kernel_rfl) (fun _ _ _ h => h) (Or.inl ⟨by rfl, ?hyb12⟩) hHeld ?_
      case hyb12 => (intro wS hSw; (try dsimp only at hSw); go_simp; (first | done | with_reducible rfl))
      try simp only [Act.put, List.setIfInBounds_toArray, List.set_cons_zero, List.set_cons_succ]
      refine wpAnyH_take (i := 13) (oi := ⟨_, _, _, _, _, _⟩) (v := ?vb13) rfl (by kernel_rfl) (by kernel_rfl) (by kernel_rfl) (fun _ _ _ h => h) (Or.inl ⟨by rfl, ?hyb13⟩) hHeld ?_
      case hyb13 => (intro wS hSw; (try dsimp only at hSw); go_simp; (first | done | with_reducible rfl))
      try simp only [Act.put, List.setIfInBounds_toArray, List.set_cons_zero, List.set_cons_succ]
      refine wpAnyH_take (i := 14) (oi := ⟨_, _, _, _, _, _⟩) (v := ?vb14) rfl (by kernel_rfl) (by kernel_rfl) (by kernel_rfl) (fun _ _ _ h => h) (Or.inl ⟨by rfl, ?hyb14⟩) hHeld ?_
      case hyb14 => (intro wS hSw; (try dsimp only at hSw); go_simp; (first | done | with_reducible rfl))
      try simp only [Act.put, List.setIfInBounds_toArray, List.set_cons_zero, List.set_cons_succ]
      refine wpAnyH_take (i := 15) (oi := ⟨_, _, _, _, _, _⟩) (v := ?vb15) rfl (by kernel_rfl) (by kernel_rfl) (by kernel_rfl) (fun _ _ _ h => h) (Or.inl ⟨by rfl, ?hyb15⟩) hHeld ?_
      case hyb15 => (intro wS hSw; (try dsimp only at hSw); go_simp; (first | done | with_reducible rfl))
      try simp only [Act.put, List.setIfInBounds_toArray, List.set_cons_zero, List.set_cons_succ]
      refine wpAnyH_take (i := 16) (oi := ⟨_, _, _, _, _, _⟩) (v := ?vb16) rfl (by kernel_rfl) (by kernel_rfl) (by kernel_rfl) (fun _ _ _ h => h) (Or.inl ⟨by rfl, ?hyb16⟩) hHeld ?_
      case hyb16 => (intro wS hSw; (try dsimp only at hSw); go_simp; (first | done | with_reducible rfl))
      try simp only [Act.put, List.setIfInBounds_toArray, List.set_cons_zero, List.set_cons_succ]
      refine wpAnyH_ready (rs := [17]) (by kernel_rfl) (by simp) ?_
      refine AllReadyH.cons (o := ⟨_, _, _, _, _, _⟩) rfl (fun K hK => ?_) AllReadyH.nil
      have his := is_at p p Ap capp _ hHeld.1.2.2.2
      rw [isB_self] at his
      go_simp
      refine his.mono ?_
      rintro e v1 ⟨rfl, hg1⟩
      have HG1 := Lib.hid hg1
      clear hg1 his
      go_wp2_with fail
      refine hK.out _ _ ?kb17 (fun hNew => ?_)
      case kb17 => (try dsimp only); exact ⟨⟨HG1.out.cell hHeld.1.1 (by simp), HG1.out.cell hHeld.1.2.1 (by simp), HG1.out.cell hHeld.1.2.2.1 (by simp), hHeld.1.2.2.2.grown HG1.out⟩, HG1.out.cell hHeld.2.1 (by simp), HG1.out.cell hHeld.2.2.1 (by simp), HG1.out.cell hHeld.2.2.2.1 (by simp), HG1.out.cell hHeld.2.2.2.2.1 (by simp), HG1.out.cell hHeld.2.2.2.2.2.1 (by simp), HG1.out.cell hHeld.2.2.2.2.2.2 (by simp)⟩
      clear hK K hHeld
      have hHeld := hNew
      clear hNew
      try simp only [Act.put, List.setIfInBounds_toArray, List.set_cons_zero, List.set_cons_succ]
      refine wpAnyH_take (i := 18) (oi := ⟨_, _, _, _, _, _⟩) (v := ?vb18) rfl (by kernel_rfl) (by kernel_rfl) (by kernel_rfl) (fun _ _ _ h => h) (Or.inl ⟨by rfl, ?hyb18⟩) hHeld ?_
      case hyb18 => (intro wS hSw; (try dsimp only at hSw); go_simp; (first | done | with_reducible rfl))
      try simp only [Act.put, List.setIfInBounds_toArray, List.set_cons_zero, List.set_cons_succ]
      refine wpAnyH_done (by kernel_rfl) ?_ _
      refine NoPanic.normal ?_
      have HFV : Hid (Off (used cs (i + 1)) y v1) := (HFD.out.trans (Off.of_grown HG1.out (by simp))).mono (fun b _ hb => used_more hb)
      have HXV : Hid (p.b ≠ [] → ∃ gb, Ap = some ⟨gb, 0, none⟩ ∧ XorAt v1 gb p.b.length) := fun hne => let ⟨gb, e, _, _, hx⟩ := HXB.out hne; ⟨gb, e, (hx _ HFD.out).grown HG1.out⟩
      clear hHeld
      go_wp2_with fail
      go_loopw [8] (fun kv wx => ∃ j : Nat, j ≤ p.b.length ∧ kv = .int .i64 (j : Int) ∧ Off (used cs (i + 1)) y wx ∧ (p.b ≠ [] → ∃ gb, Ap = some ⟨gb, 0, none⟩ ∧ XorAt wx gb p.b.length)) (fun kv _ => p.b.length - (intOf kv).toNat)
      case atStart => exact ⟨0, Nat.zero_le _, rfl, HFV.out, HXV.out⟩
      case round =>
        obtain ⟨j, hj, rfl, ho, hx⟩ := hrel
        have HO := Lib.hid ho
        have HX := Lib.hid hx
        clear ho hx
        have hcw : wr.cell? ⟨gv, i * 3 + 2, none⟩ = some (.slice Ap p.b.length capp) := HO.out.cell (HSX.out y (Off.refl _ _)).1.2.2.1 (fun hu => (HTV.out.ne (used_new HL.out hu).2 (by decide)) rfl)
        have HCW := Lib.hid hcw
        clear hcw
        by_cases hlj : j < p.b.length
        · have hjd : decide ((j : Int) < (p.b.length : Int)) = true := by simp; omega
          have hjd2 : decide (j < p.b.length) = true := by simpa using hlj
          have j0 : (0 : Int) ≤ (j : Int) := by omega
          have j1 : (j : Int) < (p.b.length : Int) := by omega
          obtain ⟨gb, rfl, hx⟩ := HX.out (by intro e; rw [e] at hlj; simp at hlj)
          obtain ⟨gb2, e, hus, htb, _⟩ := HXB.out (by intro e; rw [e] at hlj; simp at hlj)
          cases e
          obtain ⟨z, hz, hf⟩ := hx j hlj
          have HXX := Lib.hid hx
          have hdg := drew_grown wr none
          have CB : Hid (wr.drew.cell? ⟨gb, j, none⟩ = some (.int .u8 z) ∧ wr.drew.frozen? ⟨gb, j, none⟩ = false) := ⟨hdg.cell hz (by simp), (frozen_grown (World.block_lt_of_cell? _ _ hz) hdg).trans hf⟩
          have CV : Hid (wr.drew.cell? ⟨gv, i * 3 + 2, none⟩ = some (.slice (some ⟨gb, 0, none⟩) p.b.length capp)) := hdg.cell HCW.out (by simp)
          have hne : gb ≠ gv := fun e => (HTV.out.ne (e ▸ htb) (by decide)) rfl
          have CVS : Hid (∀ x, (wr.drew.setCell ⟨gb, j, none⟩ x).cell? ⟨gv, i * 3 + 2, none⟩ = some (.slice (some ⟨gb, 0, none⟩) p.b.length capp)) := fun x => by
            rw [World.cell?_setCell_other _ _ _ _ (by intro e; cases e; exact hne rfl)]
            exact CV.out
          have HUS := Lib.hid hus
          have HLJ := Lib.hid hlj
          clear hx hz hf hdg hne hus htb hlj hj
          have hcw := HCW.out
          go_upto_region 10 with fail
          clear hcw
          refine wp_region_noPanic ?_
          refine wp_region_held_drew (S := fun w' => w'.cell? ⟨gv, i * 3 + 2, none⟩ = some (.slice (some ⟨gb, 0, none⟩) p.b.length capp)) (by kernel_rfl) ?hSc (fun hHeld => ?_)
          case hSc => exact CV.out
          refine wpAnyH_take (i := 0) (oi := ⟨_, _, _, _, _, _⟩) (v := ?vc0) rfl (by kernel_rfl) (by kernel_rfl) (by kernel_rfl) (fun _ _ _ h => h) (Or.inl ⟨by rfl, ?hyc0⟩) hHeld ?_
          case hyc0 => (intro wS hSw; (try dsimp only at hSw); go_simp; (first | done | with_reducible rfl))
          try simp only [Act.put, List.setIfInBounds_toArray, List.set_cons_zero, List.set_cons_succ]
          refine wpAnyH_take (i := 1) (oi := ⟨_, _, _, _, _, _⟩) (v := ?vc1) rfl (by kernel_rfl) (by kernel_rfl) (by kernel_rfl) (fun _ _ _ h => h) (Or.inl ⟨by rfl, ?hyc1⟩) hHeld ?_
          case hyc1 => (intro wS hSw; (try dsimp only at hSw); go_simp; (first | done | with_reducible rfl))
          try simp only [Act.put, List.setIfInBounds_toArray, List.set_cons_zero, List.set_cons_succ]
          refine wpAnyH_take (i := 2) (oi := ⟨_, _, _, _, _, _⟩) (v := ?vc2) rfl (by kernel_rfl) (by kernel_rfl) (by kernel_rfl) (fun _ _ _ h => h) (Or.inl ⟨by rfl, ?hyc2⟩) hHeld ?_
          case hyc2 => (intro wS hSw; (try dsimp only at hSw); go_simp; (first | done | with_reducible rfl))
          try simp only [Act.put, List.setIfInBounds_toArray, List.set_cons_zero, List.set_cons_succ]
          refine wpAnyH_take (i := 3) (oi := ⟨_, _, _, _, _, _⟩) (v := ?vc3) rfl (by kernel_rfl) (by kernel_rfl) (by kernel_rfl) (fun _ _ _ h => h) (Or.inl ⟨by rfl, ?hyc3⟩) hHeld ?_
          case hyc3 => (intro wS hSw; (try dsimp only at hSw); go_simp; (first | done | with_reducible rfl))
          try simp only [Act.put, List.setIfInBounds_toArray, List.set_cons_zero, List.set_cons_succ]
          refine wpAnyH_take (i := 4) (oi := ⟨_, _, _, _, _, _⟩) (v := ?vc4) rfl (by kernel_rfl) (by kernel_rfl) (by kernel_rfl) (fun _ _ _ h => h) (Or.inl ⟨by rfl, ?hyc4⟩) hHeld ?_
          case hyc4 => (intro wS hSw; (try dsimp only at hSw); go_simp; (first | done | with_reducible rfl))
          try simp only [Act.put, List.setIfInBounds_toArray, List.set_cons_zero, List.set_cons_succ]
          refine wpAnyH_take (i := 5) (oi := ⟨_, _, _, _, _, _⟩) (v := ?vc5) rfl (by kernel_rfl) (by kernel_rfl) (by kernel_rfl) (fun _ _ _ h => h) (Or.inl ⟨by rfl, ?hyc5⟩) hHeld ?_
          case hyc5 => (intro wS hSw; (try dsimp only at hSw); go_simp; (first | done | with_reducible rfl))
          try simp only [Act.put, List.setIfInBounds_toArray, List.set_cons_zero, List.set_cons_succ]
          refine wpAnyH_take (i := 6) (oi := ⟨_, _, _, _, _, _⟩) (v := ?vc6) rfl (by kernel_rfl) (by kernel_rfl) (by kernel_rfl) (fun _ _ _ h => h) (Or.inl ⟨by rfl, ?hyc6⟩) hHeld ?_
          case hyc6 => (intro wS hSw; (try dsimp only at hSw); go_simp; (first | done | with_reducible rfl))
          try simp only [Act.put, List.setIfInBounds_toArray, List.set_cons_zero, List.set_cons_succ]
          refine wpAnyH_take (i := 7) (oi := ⟨_, _, _, _, _, _⟩) (v := ?vc7) rfl (by kernel_rfl) (by kernel_rfl) (by kernel_rfl) (fun _ _ _ h => h) (Or.inl ⟨by rfl, ?hyc7⟩) hHeld ?_
          case hyc7 => (intro wS hSw; (try dsimp only at hSw); go_simp; (first | done | with_reducible rfl))
          try simp only [Act.put, List.setIfInBounds_toArray, List.set_cons_zero, List.set_cons_succ]
          refine wpAnyH_take (i := 8) (oi := ⟨_, _, _, _, _, _⟩) (v := ?vc8) rfl (by kernel_rfl) (by kernel_rfl) (by kernel_rfl) (fun _ _ _ h => h) (Or.inl ⟨by rfl, ?hyc8⟩) hHeld ?_
          case hyc8 => (intro wS hSw; (try dsimp only at hSw); go_simp; (first | done | with_reducible rfl))
          try simp only [Act.put, List.setIfInBounds_toArray, List.set_cons_zero, List.set_cons_succ]
          refine wpAnyH_take (i := 9) (oi := ⟨_, _, _, _, _, _⟩) (v := ?vc9) rfl (by kernel_rfl) (by kernel_rfl) (by kernel_rfl) (fun _ _ _ h => h) (Or.inl ⟨by rfl, ?hyc9⟩) hHeld ?_
          case hyc9 => (intro wS hSw; (try dsimp only at hSw); go_simp; (first | done | with_reducible rfl))
          try simp only [Act.put, List.setIfInBounds_toArray, List.set_cons_zero, List.set_cons_succ]
          refine wpAnyH_take (i := 10) (oi := ⟨_, _, _, _, _, _⟩) (v := ?vc10) rfl (by kernel_rfl) (by kernel_rfl) (by kernel_rfl) (fun _ _ _ h => h) (Or.inl ⟨by rfl, ?hyc10⟩) hHeld ?_
          case hyc10 => (intro wS hSw; (try dsimp only at hSw); go_simp; (first | done | with_reducible rfl))
          try simp only [Act.put, List.setIfInBounds_toArray, List.set_cons_zero, List.set_cons_succ]
          refine wpAnyH_take (i := 11) (oi := ⟨_, _, _, _, _, _⟩) (v := ?vc11) rfl (by kernel_rfl) (by kernel_rfl) (by kernel_rfl) (fun _ _ _ h => h) (Or.inl ⟨by rfl, ?hyc11⟩) hHeld ?_
          case hyc11 => (intro wS hSw; (try dsimp only at hSw); go_simp; (first | done | with_reducible rfl))
          try simp only [Act.put, List.setIfInBounds_toArray, List.set_cons_zero, List.set_cons_succ]
          refine wpAnyH_take (i := 12) (oi := ⟨_, _, _, _, _, _⟩) (v := ?vc12) rfl (by kernel_rfl) (by kernel_rfl) (by kernel_rfl) (fun _ _ _ h => h) (Or.inl ⟨by rfl, ?hyc12⟩) hHeld ?_
          case hyc12 => (intro wS hSw; (try dsimp only at hSw); go_simp; (first | done | with_reducible rfl))
          try simp only [Act.put, List.setIfInBounds_toArray, List.set_cons_zero, List.set_cons_succ]
          refine wpAnyH_ready (rs := [13]) (by kernel_rfl) (by simp) ?_
          refine AllReadyH.cons (o := ⟨_, _, _, _, _, _⟩) rfl (fun K hK => ?_) AllReadyH.nil
          obtain ⟨c1, z1⟩ := CB.out
          go_simp
          clear c1 z1
          refine hK.out _ _ ?kc13 (fun hNew => ?_)
          case kc13 => (try dsimp only); exact hHeld
          clear hK K hHeld
          have hHeld := hNew
          clear hNew
          try simp only [Act.put, List.setIfInBounds_toArray, List.set_cons_zero, List.set_cons_succ]
          refine wpAnyH_take (i := 14) (oi := ⟨_, _, _, _, _, _⟩) (v := ?vc14) rfl (by kernel_rfl) (by kernel_rfl) (by kernel_rfl) (fun _ _ _ h => h) (Or.inl ⟨by rfl, ?hyc14⟩) hHeld ?_
          case hyc14 => (intro wS hSw; (try dsimp only at hSw); go_simp; (first | done | with_reducible rfl))
          try simp only [Act.put, List.setIfInBounds_toArray, List.set_cons_zero, List.set_cons_succ]
          refine wpAnyH_take (i := 15) (oi := ⟨_, _, _, _, _, _⟩) (v := ?vc15) rfl (by kernel_rfl) (by kernel_rfl) (by kernel_rfl) (fun _ _ _ h => h) (Or.inl ⟨by rfl, ?hyc15⟩) hHeld ?_
          case hyc15 => (intro wS hSw; (try dsimp only at hSw); go_simp; (first | done | with_reducible rfl))
          try simp only [Act.put, List.setIfInBounds_toArray, List.set_cons_zero, List.set_cons_succ]
          refine wpAnyH_ready (rs := [16]) (by kernel_rfl) (by simp) ?_
          refine AllReadyH.cons (o := ⟨_, _, _, _, _, _⟩) rfl (fun K hK => ?_) AllReadyH.nil
          obtain ⟨c1, z1⟩ := CB.out
          go_simp
          clear c1 z1
          refine hK.out _ _ ?kc16 (fun hNew => ?_)
          case kc16 => (try dsimp only); exact CVS.out _
          clear hK K hHeld
          have hHeld := hNew
          clear hNew
          try simp only [Act.put, List.setIfInBounds_toArray, List.set_cons_zero, List.set_cons_succ]
          refine wpAnyH_done (by kernel_rfl) ?_ _
          refine NoPanic.normal ?_
          clear hHeld
          go_wp2_with fail
          go_roundw
          case rel => exact ⟨j + 1, HLJ.out, by go_num, (HO.out.trans (Off.of_grown (drew_grown wr none) (by simp))).trans ((Off.cells (CellOff.set _ gb j _)).mono (fun b _ hb => hb.elim (fun _ e => e.1 ▸ HUS.out))), fun _ => ⟨gb, rfl, (HXX.out.grown (drew_grown wr none)).set _ _⟩⟩
          case measure => have := HLJ.out; simp [intOf]; omega
        · have hjd : decide ((j : Int) < (p.b.length : Int)) = false := by simp; omega
          have hjd2 : decide (j < p.b.length) = false := by simpa using hlj
          have hcw := HCW.out
          clear hlj hj
          go_wp2_with fail
          clear hcw
          go_roundw
          case rel => exact ⟨i + 1, HLT.out, rfl, by go_num, HO.out⟩
          case measure => have := HLT.out; simp [intOf]; omega
    · have hkd : decide ((i : Int) < (W : Int)) = false := by simp; omega
      have hkd2 : decide (i < W) = false := by simpa using hlt
      clear hlt hi
      go_wp2_with fail
      have HGW : Hid (w.grownBy wr none) := ⟨HFX.out.os.trans HG.out.os, HFX.out.tape.trans HG.out.tape, HFX.out.output.trans HG.out.output, Nat.le_trans HG.out.size HFX.out.size, fun b hb _ => (HFX.out.block b (Nat.lt_of_lt_of_le hb HG.out.size) (fun hu => by have := (used_new HL.out hu).1; omega)).trans (HG.out.block b hb (by simp))⟩
      have HN2 : Hid (wr.cell? ⟨m, 2, none⟩ = some (.slice (some ⟨xb, 0, none⟩) R.n capx)) := HGW.out.cell HM0.out.2.2 (by simp)
      have HRA : Hid (RefAt w T m R) := ⟨xb, va, V, HI.out⟩
      have hn64 : R.n ≤ 64 := HI.out.pos.2
      go_loopw [6, 9] (fun bv iv wx => ∃ j : Nat, j ≤ R.n + 2 ∧ bv = .bool true ∧ iv = .int .i64 ((j : Int) - 1) ∧ wx = wr) (fun _ iv _ => R.n + 2 - (intOf iv + 1).toNat)
      case atStart => exact ⟨0, Nat.zero_le _, rfl, rfl, rfl⟩
      case round =>
        obtain ⟨j, hj, rfl, rfl, rfl⟩ := hrel
        by_cases hlj : j < R.n + 2
        · have hjd : decide ((j : Int) - 1 ≤ (R.n : Int)) = true := by simp; omega
          have hwt := waits_at S nb D ((j : Int) - 1) wr (HH.out.grown HGW.out)
          have hrt := rwaits_at T m R ((j : Int) - 1) wr (HRA.out.grown HGW.out)
          rw [HD.out.waits] at hwt
          have hcell := HN2.out
          have HLJ := Lib.hid hlj
          have HWT := Lib.hid hwt
          have HRT := Lib.hid hrt
          clear hlj hj hwt hrt
          go_upto_region 14 with fail
          clear hcell
          go_wp2_with fail
          refine HWT.out.mono ?_
          rintro e wz ⟨rfl, hwz⟩
          have hwz := hwz.symm
          subst hwz
          go_wp2_with fail
          refine HRT.out.mono ?_
          rintro e wz ⟨rfl, hwz⟩
          have hwz := hwz.symm
          subst hwz
          clear HWT HRT
          go_wp2_with fail
          go_roundw
          case rel => have hq := HLJ.out; have hz : wrap64 (j : Int) = j := by unfold wrap64; omega
                      exact ⟨j + 1, hq, by simp, by rw [hz]; go_num, by simp⟩
          case measure => have hq := HLJ.out; have hz : wrap64 (j : Int) = j := by unfold wrap64; omega
                          rw [hz]; simp [intOf]; omega
        · have hjd : decide ((j : Int) - 1 ≤ (R.n : Int)) = false := by simp; omega
          have hcell := HN2.out
          clear hlj hj
          go_wp2_with fail
          go_ret
          exact ⟨rfl, HGW.out⟩
end Go.Proofs.Ytonfpifikblnjaa.Net
