/- The net's functions that turn it: Receive, Clear, Deliver, Double. -/
import Derived.Test.YtonfpifikblnjaaNetMut
namespace Go.Proofs.Ytonfpifikblnjaa.Net
open Go.RowKit

theorem results_row_tmp {P : Program} {fn : Func} {p u : Tmp} {ty : TypeId} (h : fn.results = #[.cell p ty, .tmp u]) (tmps : Array Value) (w : World) (g : Nat) (t : TypeId) (cs : Array Value) (fr : Nat × Nat) (d : TypeDesc)
    (hp : tmps.getD p undef = .pointer (some ⟨g, 0, none⟩)) (hg : w.heap[g]? = some (.cells cs t fr)) (hu : P.underlying ty = some d) (hd : (match d with | .struct _ | .array _ _ => true | _ => false) = true) (hi : (P.info? ty).map (·.size) = some cs.size) :
    (results fn tmps).run P w = .ok (.tuple #[.agg cs, tmps.getD u undef]) w := by
  rw [results_cell_tmp h, hp]
  simp [asAddr, run_loadVar_row w g t ty cs fr d hg hu hd hi, Result.andThen]

set_option maxHeartbeats 4000000 in
theorem receive_at (S : Nat → Prop) (nb : Nat) (D : Nt) (i : Int) (w : World) (h : NetAt w S nb D) :
    Calls Try.prog 15 #[.pointer (some ⟨nb, 0, none⟩), .int .i64 i] w fun e w' => ∃ A cap, e = .returned (.tuple #[.agg #[.int .i64 ((D.receive i).1.getD ⟨0, 0, []⟩).src, .int .i64 ((D.receive i).1.getD ⟨0, 0, []⟩).to, .slice A ((D.receive i).1.getD ⟨0, 0, []⟩).b.length cap], .bool (D.receive i).1.isSome]) ∧ Bytes w' S A ((D.receive i).1.getD ⟨0, 0, []⟩).b ∧ NetAt w' S nb (D.receive i).2 ∧ Turn S S w w' := by
  have hg1 := World.grownBy_alloc w (.cells #[.int .i64 0, .int .i64 0, .slice none 0 0] 37) none
  have hs1 : (w.alloc (.cells #[.int .i64 0, .int .i64 0, .slice none 0 0] 37)).heap.size = w.heap.size + 1 := World.size_alloc ..
  have hb1 := (MapKept.heap_alloc w (.cells #[.int .i64 0, .int .i64 0, .slice none 0 0] 37)).1
  obtain ⟨w1, hw1⟩ : ∃ w1, w1 = w.alloc (.cells #[.int .i64 0, .int .i64 0, .slice none 0 0] 37) := ⟨_, rfl⟩
  rw [← hw1] at hg1 hs1 hb1
  have h1 := h.grown hg1
  have HW := Lib.hid (waits_at S nb D i w1 h1)
  have HW1 := Lib.hid hw1
  have HH := Lib.hid h1
  have HG := Lib.hid hg1
  have HB := Lib.hid hb1
  have hsn := h.lt
  unfold Nt.receive
  by_cases h0 : D.waits i = 0
  · rw [if_pos h0]
    rw [h0] at HW
    have g1 := heap_setCell_same _ w.heap.size 0 _ _ (.int .i64 0) hb1
    have g2 := heap_setCell_same _ w.heap.size 1 _ _ (.int .i64 0) g1
    have g3 := heap_setCell_same _ w.heap.size 2 _ _ (.slice none 0 0) g2
    have HRES : Hid (w1.heap[w.heap.size]? = _) := hb1
    clear h0 h1 h hs1 hsn g1 g2 g3 hg1 hb1 hw1
    go_enter Try.func15, Try.ntmps15
    go_wp2_with fail
    rw [← HW1.out]
    refine HW.out.mono ?_
    rintro e w' ⟨rfl, rfl⟩
    have hw1 := HW1.out
    subst hw1
    go_wp2_with fail
    (try simp only [Exit.inBlock, Exit.then])
    refine bodyPost_ret (results_row_tmp rfl _ _ w.heap.size _ _ _ _ rfl HRES.out Try.underlying37 rfl (by kernel_rfl)) rfl ?_
    exact ⟨none, 0, rfl, .inl rfl, HH.out, ⟨OffU.of_grown HG.out, fun _ hb => .inl hb, HH.out.lt⟩⟩
  · rw [if_neg h0]
    obtain ⟨z, rfl, hz⟩ : ∃ z : Nat, i = (z : Int) ∧ z < D.n := by
      unfold Nt.waits at h0
      split at h0
      · exact Nt.is_nat (by assumption)
      · exact absurd rfl h0
    have hwz : D.waits (z : Int) = ((D.row (z + 1)).length : Int) := by
      unfold Nt.waits at h0 ⊢
      split at h0
      · rw [if_pos (by assumption)]; rfl
      · exact absurd rfl h0
    rw [hwz] at HW h0
    have hpos : 0 < (D.row (z + 1)).length := by omega
    obtain ⟨m, hm⟩ : ∃ m : Int, m = ((D.row (z + 1)).length : Int) := ⟨_, rfl⟩
    rw [← hm] at HW h0
    have hne : decide (m = 0) = false := decide_eq_false h0
    have hne2 : (m == 0) = false := by simpa using h0
    clear hm
    obtain ⟨bb, L, hn⟩ := h1
    have c2 := hn.boxes
    have htk := hn.take (j := z + 1) (by omega) 0 hpos
    have k0 : (0 : Int) ≤ (z : Int) := by omega
    have k1 : (z : Int) < (D.n : Int) := by omega
    simp only [pb, po, Int.toNat_natCast] at htk ⊢
    rw [Nat.mul_comm 2 z] at htk
    simp only [Option.getD_some, Option.isSome_some]
    have HTAKE := Lib.hid htk
    generalize D.nth (z + 1) 0 = k at HTAKE
    have HSN := Lib.hid hsn
    have HS1 := Lib.hid hs1
    clear htk hn hpos hwz hw1 hb1 hg1 hs1 h hsn hz
    go_enter Try.func15, Try.ntmps15
    go_wp2_with fail
    rw [← HW1.out]
    refine HW.out.mono ?_
    rintro e w' ⟨rfl, rfl⟩
    go_wp2_with fail
    refine HTAKE.out.mono ?_
    rintro e w2 ⟨A, cap, rfl, hby, ⟨L', hnet⟩, hoff⟩
    have hnS : ¬ S w.heap.size := fun hs => by have := HSN.out _ hs; omega
    have hb2 : w2.heap[w.heap.size]? = _ := (hoff.block _ (by have := HS1.out; omega) hnS).trans HB.out
    have e0 : w2.cell? ⟨w.heap.size, 0, none⟩ = some (.int .i64 0) := by simp only [World.cell?, hb2]; rfl
    have e1 : w2.cell? ⟨w.heap.size, 1, none⟩ = some (.int .i64 0) := by simp only [World.cell?, hb2]; rfl
    have e2 : w2.cell? ⟨w.heap.size, 2, none⟩ = some (.slice none 0 0) := by simp only [World.cell?, hb2]; rfl
    have z0 : w2.frozen? ⟨w.heap.size, 0, none⟩ = false := by simp only [World.frozen?, hb2]; simp
    have z1 : w2.frozen? ⟨w.heap.size, 1, none⟩ = false := by simp only [World.frozen?, hb2]; simp
    have z2 : w2.frozen? ⟨w.heap.size, 2, none⟩ = false := by simp only [World.frozen?, hb2]; simp
    have g1 := heap_setCell_same _ w.heap.size 0 _ _ (.int .i64 k.src) hb2
    have g2 := heap_setCell_same _ w.heap.size 1 _ _ (.int .i64 k.to) g1
    have g3 := heap_setCell_same _ w.heap.size 2 _ _ (.slice A k.b.length cap) g2
    have HRES := Lib.hid g3
    have HFIN : Hid (Bytes (((w2.setCell ⟨w.heap.size, 0, none⟩ (.int .i64 k.src)).setCell ⟨w.heap.size, 1, none⟩ (.int .i64 k.to)).setCell ⟨w.heap.size, 2, none⟩ (.slice A k.b.length cap)) S A k.b ∧
        NetAt (((w2.setCell ⟨w.heap.size, 0, none⟩ (.int .i64 k.src)).setCell ⟨w.heap.size, 1, none⟩ (.int .i64 k.to)).setCell ⟨w.heap.size, 2, none⟩ (.slice A k.b.length cap)) S nb (D.less (z + 1) 0) ∧
        Turn S S w (((w2.setCell ⟨w.heap.size, 0, none⟩ (.int .i64 k.src)).setCell ⟨w.heap.size, 1, none⟩ (.int .i64 k.to)).setCell ⟨w.heap.size, 2, none⟩ (.slice A k.b.length cap))) := by
      have kk : CellOff (fun x _ => x = w.heap.size) w2 (((w2.setCell ⟨w.heap.size, 0, none⟩ (.int .i64 k.src)).setCell ⟨w.heap.size, 1, none⟩ (.int .i64 k.to)).setCell ⟨w.heap.size, 2, none⟩ (.slice A k.b.length cap)) :=
        (((CellOff.set w2 w.heap.size 0 _).mono (fun _ _ _ h => h.1)).trans ((CellOff.set _ w.heap.size 1 _).mono (fun _ _ _ h => h.1))).trans ((CellOff.set _ w.heap.size 2 _).mono (fun _ _ _ h => h.1))
      have hXz : Typed w2 w.heap.size 37 := ⟨_, _, hb2⟩
      have ho2 : Off (fun b => b = w.heap.size) w2 _ := (Off.cells kk).mono (fun b _ hb => hb.elim (fun _ e => e))
      have hfin : NetAt _ S nb (D.less (z + 1) 0) := ⟨bb, L', hnet.other ho2 (fun b hb e => hnS (e ▸ hb))⟩
      refine ⟨hby.off kk (fun b hb _ e => (hb.ne hXz (by decide)) e), hfin, ⟨⟨⟨kk.os.trans (hoff.os.trans HG.out.os), kk.tape.trans (hoff.tape.trans HG.out.tape), kk.output.trans (hoff.output.trans HG.out.output), Nat.le_trans HG.out.size (Nat.le_trans hoff.size kk.size), fun b hb hs => ?_⟩, fun b hb => ?_⟩, fun _ hb => .inl hb, hfin.lt⟩⟩
      · have hs1 := HS1.out
        exact (ho2.block b (by have := hoff.size; omega) (by omega)).trans ((hoff.block b (by omega) hs).trans (HG.out.block b hb (by simp)))
      · have hs1 := HS1.out
        have hbl := hb.lt
        exact (ho2.block b (by have := hoff.size; omega) (by omega)).trans ((hoff.u8 b (hb.grown HG.out)).trans (HG.out.block b hbl (by simp)))
    clear hby hnet hoff hb2 g1 g2 g3 hnS
    go_wp2_with fail
    (try simp only [Exit.inBlock, Exit.then])
    refine bodyPost_ret (results_row_tmp rfl _ _ w.heap.size _ _ _ _ rfl HRES.out Try.underlying37 rfl (by kernel_rfl)) rfl ?_
    exact ⟨A, cap, rfl, HFIN.out⟩

set_option maxHeartbeats 4000000 in
theorem clear_at (S : Nat → Prop) (nb : Nat) (D : Nt) (i : Int) (w : World) (h : NetAt w S nb D) :
    Calls Try.prog 27 #[.pointer (some ⟨nb, 0, none⟩), .int .i64 i] w fun e w' => e = .returned (.tuple #[]) ∧ NetAt w' S nb (D.clear i) ∧ Turn S S w w' := by
  have HE := Lib.hid (end_at S nb D i w h)
  have HH := Lib.hid h
  unfold Nt.clear
  rcases Bool.eq_false_or_eq_true (D.is i) with e1 | e1
  · rw [if_pos e1]
    rw [e1] at HE
    obtain ⟨z, rfl, hz⟩ := Nt.is_nat e1
    obtain ⟨bb, L, hn⟩ := h
    have c2 := hn.boxes
    obtain ⟨hr, hrow⟩ := hn.rows (z + 1) (by omega)
    have hcA : w.cell? ⟨bb, z * 2, none⟩ = some (.pointer (nxt (L (z + 1)))) := by have := hr.first; simp only [pb, po] at this; rwa [Nat.mul_comm 2 z] at this
    have hcB : w.cell? ⟨bb, z * 2 + 1, none⟩ = some (.int .i64 ((L (z + 1)).length : Int)) := by have := hr.n; simp only [pb, po] at this; rwa [Nat.mul_comm 2 z] at this
    have hzA : w.frozen? ⟨bb, z * 2, none⟩ = false := by have := hr.fz.1; simp only [pb, po] at this; rwa [Nat.mul_comm 2 z] at this
    have hzB : w.frozen? ⟨bb, z * 2 + 1, none⟩ = false := by have := hr.fz.2; simp only [pb, po] at this; rwa [Nat.mul_comm 2 z] at this
    have k0 : (0 : Int) ≤ (z : Int) := by omega
    have k1 : (z : Int) < (D.n : Int) := by omega
    have HFIN : Hid (NetAt ((w.setCell ⟨bb, z * 2, none⟩ (.pointer none)).setCell ⟨bb, z * 2 + 1, none⟩ (.int .i64 0)) S nb (D.set (z + 1) []) ∧ Turn S S w ((w.setCell ⟨bb, z * 2, none⟩ (.pointer none)).setCell ⟨bb, z * 2 + 1, none⟩ (.int .i64 0))) := by
      have kk : CellOff (Cells bb (z * 2) (L (z + 1))) w ((w.setCell ⟨bb, z * 2, none⟩ (.pointer none)).setCell ⟨bb, z * 2 + 1, none⟩ (.int .i64 0)) :=
        ((CellOff.set w bb (z * 2) _).mono (fun _ _ _ h => .inl ⟨h.1, .inl h.2⟩)).trans ((CellOff.set _ bb (z * 2 + 1) _).mono (fun _ _ _ h => .inl ⟨h.1, .inr h.2⟩))
      have hrow' : RowAt ((w.setCell ⟨bb, z * 2, none⟩ (.pointer none)).setCell ⟨bb, z * 2 + 1, none⟩ (.int .i64 0)) S bb (z * 2) [] := by
        refine ⟨?_, ?_, ⟨?_, ?_⟩, trivial, List.nodup_nil, Nat.zero_le _⟩
        · rw [World.cell?_setCell_other _ _ _ _ (by first | (simp; done) | (simp; omega))]
          exact World.cell?_setCell_same _ _ _ hcA
        · refine World.cell?_setCell_same _ _ _ (u := .int .i64 ((L (z + 1)).length : Int)) ?_
          rw [World.cell?_setCell_other _ _ _ _ (by first | (simp; done) | (simp; omega))]
          exact hcB
        · rw [World.frozen?_setCell, World.frozen?_setCell]; exact hzA
        · rw [World.frozen?_setCell, World.frozen?_setCell]; exact hzB
      have hfin : NetAt _ S nb (D.set (z + 1) []) := ⟨bb, _, hn.turn (S' := S) (j := z + 1) (l' := []) (D' := D.set (z + 1) []) (by omega) (fun b hb hs => hs) (fun b hb => Nat.lt_of_lt_of_le (hn.lt b hb) kk.size)
        (by simp only [pb, po]; rw [Nat.mul_comm 2 z]; exact hrow') (by simp only [pb, po]; rw [Nat.mul_comm 2 z]; exact kk) (fun b hb => by simp at hb) rfl (hn.ok.sub (z + 1) [] (List.nil_sublist _))⟩
      refine ⟨hfin, (OffU.cells kk (by have := hn.noU8 (j := z + 1) (by omega); simp only [pb, po] at this; rwa [Nat.mul_comm 2 z] at this)).mono ?_, fun _ hb => .inl hb, hfin.lt⟩
      rintro b hb ⟨o, ⟨rfl, _⟩ | ⟨hm, _⟩⟩
      · exact hn.sbb
      · exact (hn.link (j := z + 1) (by omega) b hm).2
    simp only [Int.toNat_natCast]
    clear hn hr hrow e1 hz
    go_enter Try.func27, Try.ntmps27
    go_wp2_with fail
    refine HE.out.mono ?_
    rintro e w' ⟨rfl, rfl⟩
    go_wp2_with fail
    go_end0
    exact ⟨rfl, HFIN.out⟩
  · rw [if_neg (by rw [e1]; decide)]
    rw [e1] at HE
    clear e1 h
    go_enter Try.func27, Try.ntmps27
    go_wp2_with fail
    refine HE.out.mono ?_
    rintro e w' ⟨rfl, rfl⟩
    go_wp2_with fail
    go_end0
    exact ⟨rfl, HH.out, Turn.keep HH.out⟩

set_option maxHeartbeats 4000000 in
theorem double_at (S : Nat → Prop) (nb : Nat) (D : Nt) (i : Int) (w : World) (h : NetAt w S nb D) :
    Calls Try.prog 28 #[.pointer (some ⟨nb, 0, none⟩), .int .i64 i] w fun e w' => e = .returned (.int .i64 (D.double i).1) ∧ ∃ S', NetAt w' S' nb (D.double i).2 ∧ Turn S S' w w' := by
  have HT := Lib.hid (there_at S nb D i w h)
  have HH := Lib.hid h
  unfold Nt.double
  by_cases h0 : D.there i = 0
  · obtain ⟨z, rfl, hz⟩ := Nt.there_in h0
    obtain ⟨bb, L, hn⟩ := h
    rw [if_pos h0]
    rw [h0] at HT
    obtain ⟨hr, hrow⟩ := hn.rows 0 (Nat.zero_le _)
    have cn : w.cell? ⟨nb, 1, none⟩ = some (.int .i64 ((D.row 0).length : Int)) := by
      have := hr.n
      simp only [pb, po] at this
      rw [hrow, List.length_map]
      exact this
    by_cases hfull : 256 ≤ (D.row 0).length
    · have hd : decide ((256 : Int) ≤ ((D.row 0).length : Int)) = true := decide_eq_true (by omega)
      rw [if_pos hfull]
      clear hn hr hrow h0 hfull
      go_enter Try.func28, Try.ntmps28
      go_wp2_with fail
      refine HT.out.mono ?_
      rintro e w' ⟨rfl, rfl⟩
      go_wp2_with fail
      go_ret
      exact ⟨rfl, S, HH.out, Turn.keep HH.out⟩
    · have hd : decide ((256 : Int) ≤ ((D.row 0).length : Int)) = false := decide_eq_false (by omega)
      rw [if_neg hfull]
      simp only [Int.toNat_natCast]
      have hk := Nt.nth_mem hz
      have hok : (D.more 0 (D.nth 0 z)).OK := hn.ok.more 0 _ (hn.ok.small 0 _ hk) (fun _ => ⟨by omega, hn.ok.to_ _ hk⟩) (fun i e => by cases e)
      have hget := Nt.nth_get hz
      have hsm := hn.ok.small 0 _ hk
      generalize D.nth 0 z = k at hok hget hsm hk
      obtain ⟨g, hg⟩ : ∃ g, (L 0)[z]? = some (g, k) := by
        rw [hrow, List.getElem?_map] at hget
        rcases e : (L 0)[z]? with _ | p
        · rw [e] at hget; simp at hget
        · rw [e] at hget
          simp at hget
          exact ⟨p.1, by rw [← hget]⟩
      have hzl : z < (L 0).length := (List.getElem?_eq_some_iff.1 hg).1
      obtain ⟨hlS, hlT, c0, c1, ⟨A, cap, c2, hby⟩, c3, _⟩ := link_get hr.chain hg
      obtain ⟨sb, sx, hslot⟩ : ∃ sb sx, slot nb 0 (L 0) z = ⟨sb, sx, none⟩ := by
        rcases slot_at (L 0) nb 0 z (by omega) with ⟨e, _⟩ | ⟨p, hp, e⟩
        · exact ⟨_, _, e⟩
        · exact ⟨_, _, e⟩
      have hat := at_at S nb 0 z (L 0) w.drew (hr.grown (drew_grown w none)) (by omega)
      have hsc := slot_cell (L 0) nb 0 z ⟨hr.first, hr.chain⟩ hr.fz.1 (by omega)
      rw [drop_nxt hg] at hsc
      rw [hslot] at hat hsc
      have HPUT : Hid (∀ (w1 : World) (A' : Option Addr) (cap' : Nat), Bytes w1 (fun b => w.heap.size ≤ b) A' k.b → w.grownBy w1 none → Calls Try.prog 30 #[.pointer (some ⟨nb, 0, none⟩), .agg #[.int .i64 k.src, .int .i64 k.to, .slice A' k.b.length cap']] w1 fun e w' => e = .returned (.tuple #[]) ∧ NetAt w' (fun b => Sm S w.heap.size b ∧ b < w'.heap.size) nb (D.more 0 k) ∧ OffU S w1 w') := by
        intro w1 A' cap' hby hgr
        have hn1 : NetIn w1 S nb bb D L := hn.other (T := fun _ => False) (Off.of_grown hgr (by simp)) (fun _ _ x => x)
        exact hn1.put (j := 0) (Nat.zero_le _) hgr.size k A' cap' (hby.mono (fun b _ hs => .inr hs)) hok
      have HCP := Lib.hid (copied_at k A cap w.drew ((RowR.of_bytes cap hby).grown (drew_grown w none)) (by omega))
      have HAT := Lib.hid hat
      have hsc1 : w.drew.cell? ⟨sb, sx, none⟩ = some (.pointer (some ⟨g, 0, none⟩)) := hsc.1
      have d0 : w.drew.cell? ⟨g, 0, none⟩ = some (.int .i64 k.src) := c0
      have d1 : w.drew.cell? ⟨g, 1, none⟩ = some (.int .i64 k.to) := c1
      have d2 : w.drew.cell? ⟨g, 2, none⟩ = some (.slice A k.b.length cap) := c2
      clear hn hr hrow h0 hfull hk hok hget hsm hg hzl hlS hlT c0 c1 c2 c3 hby hslot hat hsc hz
      go_enter Try.func28, Try.ntmps28
      go_wp2_with fail
      refine HT.out.mono ?_
      rintro e w' ⟨rfl, rfl⟩
      go_wp2_with fail
      refine wp_region_noPanic ?_
      refine wp_region_held_drew (S := fun _ => True) (by kernel_rfl) ?hSb (fun hHeld => ?_)
      case hSb => (try exact True.intro)
      refine wpAnyH_take (i := 0) (oi := ⟨_, _, _, _, _, _⟩) (v := ?vb0) rfl (by kernel_rfl) (by kernel_rfl) (by kernel_rfl) (fun _ _ _ h => h) (Or.inl ⟨by rfl, ?hyb0⟩) hHeld ?_
      case hyb0 => (intro wS hSw; (try dsimp only at hSw); go_simp; (first | done | with_reducible rfl))
      try simp only [Act.put, List.setIfInBounds_toArray, List.set_cons_zero, List.set_cons_succ]
      refine wpAnyH_take (i := 1) (oi := ⟨_, _, _, _, _, _⟩) (v := ?vb1) rfl (by kernel_rfl) (by kernel_rfl) (by kernel_rfl) (fun _ _ _ h => h) (Or.inl ⟨by rfl, ?hyb1⟩) hHeld ?_
      case hyb1 => (intro wS hSw; (try dsimp only at hSw); go_simp; (first | done | with_reducible rfl))
      try simp only [Act.put, List.setIfInBounds_toArray, List.set_cons_zero, List.set_cons_succ]
      refine wpAnyH_take (i := 2) (oi := ⟨_, _, _, _, _, _⟩) (v := ?vb2) rfl (by kernel_rfl) (by kernel_rfl) (by kernel_rfl) (fun _ _ _ h => h) (Or.inl ⟨by rfl, ?hyb2⟩) hHeld ?_
      case hyb2 => (intro wS hSw; (try dsimp only at hSw); go_simp; (first | done | with_reducible rfl))
      try simp only [Act.put, List.setIfInBounds_toArray, List.set_cons_zero, List.set_cons_succ]
      refine wpAnyH_take (i := 3) (oi := ⟨_, _, _, _, _, _⟩) (v := ?vb3) rfl (by kernel_rfl) (by kernel_rfl) (by kernel_rfl) (fun _ _ _ h => h) (Or.inl ⟨by rfl, ?hyb3⟩) hHeld ?_
      case hyb3 => (intro wS hSw; (try dsimp only at hSw); go_simp; (first | done | with_reducible rfl))
      try simp only [Act.put, List.setIfInBounds_toArray, List.set_cons_zero, List.set_cons_succ]
      refine wpAnyH_take (i := 4) (oi := ⟨_, _, _, _, _, _⟩) (v := ?vb4) rfl (by kernel_rfl) (by kernel_rfl) (by kernel_rfl) (fun _ _ _ h => h) (Or.inl ⟨by rfl, ?hyb4⟩) hHeld ?_
      case hyb4 => (intro wS hSw; (try dsimp only at hSw); go_simp; (first | done | with_reducible rfl))
      try simp only [Act.put, List.setIfInBounds_toArray, List.set_cons_zero, List.set_cons_succ]
      refine wpAnyH_take (i := 5) (oi := ⟨_, _, _, _, _, _⟩) (v := ?vb5) rfl (by kernel_rfl) (by kernel_rfl) (by kernel_rfl) (fun _ _ _ h => h) (Or.inl ⟨by rfl, ?hyb5⟩) hHeld ?_
      case hyb5 => (intro wS hSw; (try dsimp only at hSw); go_simp; (first | done | with_reducible rfl))
      try simp only [Act.put, List.setIfInBounds_toArray, List.set_cons_zero, List.set_cons_succ]
      refine wpAnyH_take (i := 6) (oi := ⟨_, _, _, _, _, _⟩) (v := ?vb6) rfl (by kernel_rfl) (by kernel_rfl) (by kernel_rfl) (fun _ _ _ h => h) (Or.inl ⟨by rfl, ?hyb6⟩) hHeld ?_
      case hyb6 => (intro wS hSw; (try dsimp only at hSw); go_simp; (first | done | with_reducible rfl))
      try simp only [Act.put, List.setIfInBounds_toArray, List.set_cons_zero, List.set_cons_succ]
      refine wpAnyH_ready (rs := [7]) (by kernel_rfl) (by simp) ?_
      refine AllReadyH.cons (o := ⟨_, _, _, _, _, _⟩) rfl (fun K hK => ?_) AllReadyH.nil
      go_simp
      refine (HAT.out).mono ?_
      rintro e w1 ⟨rfl, rfl⟩
      go_wp2_with fail
      refine hK.out _ _ ?kb7 (fun hNew => ?_)
      case kb7 => (try dsimp only); (try exact True.intro)
      clear hK K hHeld
      have hHeld := hNew
      clear hNew
      try simp only [Act.put, List.setIfInBounds_toArray, List.set_cons_zero, List.set_cons_succ]
      refine wpAnyH_ready (rs := [8]) (by kernel_rfl) (by simp) ?_
      refine AllReadyH.cons (o := ⟨_, _, _, _, _, _⟩) rfl (fun K hK => ?_) AllReadyH.nil
      go_simp
      refine hK.out _ _ ?kb8 (fun hNew => ?_)
      case kb8 => (try dsimp only); (try exact True.intro)
      clear hK K hHeld
      have hHeld := hNew
      clear hNew
      try simp only [Act.put, List.setIfInBounds_toArray, List.set_cons_zero, List.set_cons_succ]
      refine wpAnyH_ready (rs := [9]) (by kernel_rfl) (by simp) ?_
      refine AllReadyH.cons (o := ⟨_, _, _, _, _, _⟩) rfl (fun K hK => ?_) AllReadyH.nil
      go_simp
      refine hK.out _ _ ?kb9 (fun hNew => ?_)
      case kb9 => (try dsimp only); (try exact True.intro)
      clear hK K hHeld
      have hHeld := hNew
      clear hNew
      try simp only [Act.put, List.setIfInBounds_toArray, List.set_cons_zero, List.set_cons_succ]
      refine wpAnyH_ready (rs := [10]) (by kernel_rfl) (by simp) ?_
      refine AllReadyH.cons (o := ⟨_, _, _, _, _, _⟩) rfl (fun K hK => ?_) AllReadyH.nil
      go_simp
      refine hK.out _ _ ?kb10 (fun hNew => ?_)
      case kb10 => (try dsimp only); (try exact True.intro)
      clear hK K hHeld
      have hHeld := hNew
      clear hNew
      try simp only [Act.put, List.setIfInBounds_toArray, List.set_cons_zero, List.set_cons_succ]
      refine wpAnyH_ready (rs := [11]) (by kernel_rfl) (by simp) ?_
      refine AllReadyH.cons (o := ⟨_, _, _, _, _, _⟩) rfl (fun K hK => ?_) AllReadyH.nil
      go_simp
      refine hK.out _ _ ?kb11 (fun hNew => ?_)
      case kb11 => (try dsimp only); (try exact True.intro)
      clear hK K hHeld
      have hHeld := hNew
      clear hNew
      try simp only [Act.put, List.setIfInBounds_toArray, List.set_cons_zero, List.set_cons_succ]
      refine wpAnyH_ready (rs := [12]) (by kernel_rfl) (by simp) ?_
      refine AllReadyH.cons (o := ⟨_, _, _, _, _, _⟩) rfl (fun K hK => ?_) AllReadyH.nil
      go_simp
      refine hK.out _ _ ?kb12 (fun hNew => ?_)
      case kb12 => (try dsimp only); (try exact True.intro)
      clear hK K hHeld
      have hHeld := hNew
      clear hNew
      try simp only [Act.put, List.setIfInBounds_toArray, List.set_cons_zero, List.set_cons_succ]
      refine wpAnyH_ready (rs := [13]) (by kernel_rfl) (by simp) ?_
      refine AllReadyH.cons (o := ⟨_, _, _, _, _, _⟩) rfl (fun K hK => ?_) AllReadyH.nil
      go_simp
      refine (HCP.out).mono ?_
      rintro e w1 ⟨A', cap', rfl, hby, _, hgr⟩
      have HBY := Lib.hid hby
      have HGR := Lib.hid hgr
      clear hby hgr
      go_wp2_with fail
      refine hK.out _ _ ?kb13 (fun hNew => ?_)
      case kb13 => (try dsimp only); (try exact True.intro)
      clear hK K hHeld
      have hHeld := hNew
      clear hNew
      try simp only [Act.put, List.setIfInBounds_toArray, List.set_cons_zero, List.set_cons_succ]
      refine wpAnyH_ready (rs := [14]) (by kernel_rfl) (by simp) ?_
      refine AllReadyH.cons (o := ⟨_, _, _, _, _, _⟩) rfl (fun K hK => ?_) AllReadyH.nil
      go_simp
      refine (HPUT.out w1 A' cap' HBY.out ((drew_grown _ none).andThen HGR.out (fun _ hj => .inr hj))).mono ?_
      rintro e w2 ⟨rfl, hnet, hoff⟩
      have HNET := Lib.hid hnet
      have HOFF := Lib.hid hoff
      clear hnet hoff
      go_wp2_with fail
      refine hK.out _ _ ?kb14 (fun hNew => ?_)
      case kb14 => (try dsimp only); (try exact True.intro)
      clear hK K hHeld
      have hHeld := hNew
      clear hNew
      try simp only [Act.put, List.setIfInBounds_toArray, List.set_cons_zero, List.set_cons_succ]
      refine wpAnyH_done (by kernel_rfl) ?_ _
      refine NoPanic.normal ?_
      go_wp2_with fail
      go_ret
      exact ⟨rfl, _, HNET.out, ⟨((OffU.of_grown (drew_grown _ none)).trans (OffU.of_grown HGR.out)).trans HOFF.out, fun b hb => hb.1, fun b hb => hb.2⟩⟩
  · have h5 := Nt.there_out h0
    rw [if_neg h0]
    simp only [h5] at HT ⊢
    clear h0 h h5
    go_enter Try.func28, Try.ntmps28
    go_wp2_with fail
    refine HT.out.mono ?_
    rintro e w' ⟨rfl, rfl⟩
    go_wp2_with fail
    go_ret
    exact ⟨rfl, S, HH.out, Turn.keep HH.out⟩

set_option maxHeartbeats 4000000 in
theorem deliver_at (S : Nat → Prop) (nb : Nat) (D : Nt) (i : Int) (w : World) (h : NetAt w S nb D) :
    Calls Try.prog 14 #[.pointer (some ⟨nb, 0, none⟩), .int .i64 i] w fun e w' => e = .returned (.int .i64 (D.deliver i).1) ∧ ∃ S', NetAt w' S' nb (D.deliver i).2 ∧ Turn S S' w w' := by
  have HT := Lib.hid (there_at S nb D i w h)
  have HH := Lib.hid h
  unfold Nt.deliver
  by_cases h0 : D.there i = 0
  · obtain ⟨z, rfl, hz⟩ := Nt.there_in h0
    obtain ⟨bb, L, hn⟩ := h
    have htk := hn.take (j := 0) (Nat.zero_le _) z hz
    have hk := Nt.nth_mem hz
    rw [if_pos h0]
    rw [h0] at HT
    simp only [Int.toNat_natCast, h0]
    have hsm := hn.ok.small 0 _ hk
    have hto := hn.ok.to_ _ hk
    generalize D.nth 0 z = k at htk hk hsm hto
    have hDn : (D.less 0 z).n = D.n := rfl
    generalize D.less 0 z = D1 at htk hDn
    obtain ⟨kt, hkt⟩ : ∃ kt : Nat, k.to = (kt : Int) := ⟨k.to.toNat, by omega⟩
    have hktn : kt < D.n := by omega
    have HTAKE := Lib.hid htk
    have HSN := Lib.hid hn.lt
    have HK := Lib.hid (And.intro hsm (And.intro hkt (And.intro hktn hDn)))
    clear hn htk h0 hk hsm hto hDn hz
    unfold Nt.boxed
    rw [hkt] at HTAKE ⊢
    simp only [Int.toNat_natCast]
    go_enter Try.func14, Try.ntmps14
    go_wp2_with fail
    refine HT.out.mono ?_
    rintro e w' ⟨rfl, rfl⟩
    go_wp2_with fail
    refine HTAKE.out.mono ?_
    rintro e w1 ⟨A, cap, rfl, hby, ⟨L', hnet⟩, hoff⟩
    have HBY := Lib.hid hby
    have HNET1 := Lib.hid hnet
    have HOFF1 := Lib.hid hoff
    clear hby hnet hoff
    go_wp2_with fail
    have hg2 := World.grownBy_alloc w1 (.cells #[.int .i64 k.src, .int .i64 (kt : Int), .slice A k.b.length cap] 37) none
    have hb2 := (MapKept.heap_alloc w1 (.cells #[.int .i64 k.src, .int .i64 (kt : Int), .slice A k.b.length cap] 37)).1
    generalize w1.alloc (.cells #[.int .i64 k.src, .int .i64 (kt : Int), .slice A k.b.length cap] 37) = w2 at hg2 hb2 ⊢
    generalize w1.heap.size = g6 at hb2 ⊢
    have hg3 : w1.grownBy w2.drew none := hg2.andThen (drew_grown w2 none) (fun _ hj => .inr hj)
    have hn3 : NetIn w2.drew S nb bb D1 L' := HNET1.out.other (T := fun _ => False) (Off.of_grown hg3 (by simp)) (fun _ _ x => x)
    have hby3 := HBY.out.grown hg3
    have hc : ∀ j, w2.drew.cell? ⟨g6, j, none⟩ = #[Value.int .i64 k.src, .int .i64 (kt : Int), .slice A k.b.length cap][j]? := fun j => by
      have hb2' : w2.drew.heap[g6]? = _ := hb2
      simp only [World.cell?, hb2']; rfl
    have C2 : Hid (w2.drew.cell? ⟨nb, 2, none⟩ = some (.slice (some ⟨bb, 0, none⟩) D.n D.n)) := by
      have := hn3.boxes
      rw [HK.out.2.2.2] at this
      exact this
    have C60 : Hid (w2.drew.cell? ⟨g6, 0, none⟩ = some (.int .i64 k.src)) := hc 0
    have C61 : Hid (w2.drew.cell? ⟨g6, 1, none⟩ = some (.int .i64 (kt : Int))) := hc 1
    have C62 : Hid (w2.drew.cell? ⟨g6, 2, none⟩ = some (.slice A k.b.length cap)) := hc 2
    have k0 : (0 : Int) ≤ (kt : Int) := by omega
    have k1 : (kt : Int) < (D.n : Int) := by omega
    have CN : Hid (w2.drew.cell? ⟨bb, kt * 2 + 1, none⟩ = some (.int .i64 ((D1.row (kt + 1)).length : Int))) := by
      obtain ⟨hr, hrow⟩ := hn3.rows (kt + 1) (by rw [HK.out.2.2.2]; exact HK.out.2.2.1)
      have := hr.n
      simp only [pb, po] at this
      show _ = _
      rw [hrow, List.length_map, Nat.mul_comm kt 2]
      exact this
    have HN3 := Lib.hid hn3
    have HBY3 := Lib.hid hby3
    have HOFF3 : Hid (OffU S w2.drew w2.drew ∧ OffU S w' w2.drew) := ⟨OffU.refl _ _, (HOFF1.out).trans (OffU.of_grown hg3)⟩
    clear hg2 hb2 hg3 hn3 hby3 hc
    refine wp_region_noPanic ?_
    refine wp_region_held_drew (S := fun w' => w'.cell? ⟨nb, 2, none⟩ = some (.slice (some ⟨bb, 0, none⟩) D.n D.n) ∧ w'.cell? ⟨g6, 1, none⟩ = some (.int .i64 (kt : Int))) (by kernel_rfl) ?hSd (fun hHeld => ?_)
    case hSd => exact ⟨C2.out, C61.out⟩
    refine wpAnyH_take (i := 0) (oi := ⟨_, _, _, _, _, _⟩) (v := ?vd0) rfl (by kernel_rfl) (by kernel_rfl) (by kernel_rfl) (fun _ _ _ h => h) (Or.inl ⟨by rfl, ?hyd0⟩) hHeld ?_
    case hyd0 => (intro wS hSw; (try dsimp only at hSw); go_simp; (first | done | with_reducible rfl))
    try simp only [Act.put, List.setIfInBounds_toArray, List.set_cons_zero, List.set_cons_succ]
    refine wpAnyH_take (i := 1) (oi := ⟨_, _, _, _, _, _⟩) (v := ?vd1) rfl (by kernel_rfl) (by kernel_rfl) (by kernel_rfl) (fun _ _ _ h => h) (Or.inl ⟨by rfl, ?hyd1⟩) hHeld ?_
    case hyd1 => (intro wS hSw; (try dsimp only at hSw); go_simp; (first | done | with_reducible rfl))
    try simp only [Act.put, List.setIfInBounds_toArray, List.set_cons_zero, List.set_cons_succ]
    refine wpAnyH_take (i := 2) (oi := ⟨_, _, _, _, _, _⟩) (v := ?vd2) rfl (by kernel_rfl) (by kernel_rfl) (by kernel_rfl) (fun _ _ _ h => h) (Or.inl ⟨by rfl, ?hyd2⟩) hHeld ?_
    case hyd2 => (intro wS hSw; (try dsimp only at hSw); go_simp; (first | done | with_reducible rfl))
    try simp only [Act.put, List.setIfInBounds_toArray, List.set_cons_zero, List.set_cons_succ]
    refine wpAnyH_take (i := 3) (oi := ⟨_, _, _, _, _, _⟩) (v := ?vd3) rfl (by kernel_rfl) (by kernel_rfl) (by kernel_rfl) (fun _ _ _ h => h) (Or.inl ⟨by rfl, ?hyd3⟩) hHeld ?_
    case hyd3 => (intro wS hSw; (try dsimp only at hSw); go_simp; (first | done | with_reducible rfl))
    try simp only [Act.put, List.setIfInBounds_toArray, List.set_cons_zero, List.set_cons_succ]
    refine wpAnyH_take (i := 4) (oi := ⟨_, _, _, _, _, _⟩) (v := ?vd4) rfl (by kernel_rfl) (by kernel_rfl) (by kernel_rfl) (fun _ _ _ h => h) (Or.inl ⟨by rfl, ?hyd4⟩) hHeld ?_
    case hyd4 => (intro wS hSw; (try dsimp only at hSw); go_simp; (first | done | with_reducible rfl))
    try simp only [Act.put, List.setIfInBounds_toArray, List.set_cons_zero, List.set_cons_succ]
    refine wpAnyH_take (i := 5) (oi := ⟨_, _, _, _, _, _⟩) (v := ?vd5) rfl (by kernel_rfl) (by kernel_rfl) (by kernel_rfl) (fun _ _ _ h => h) (Or.inl ⟨by rfl, ?hyd5⟩) hHeld ?_
    case hyd5 => (intro wS hSw; (try dsimp only at hSw); go_simp; (first | done | with_reducible rfl))
    try simp only [Act.put, List.setIfInBounds_toArray, List.set_cons_zero, List.set_cons_succ]
    refine wpAnyH_take (i := 6) (oi := ⟨_, _, _, _, _, _⟩) (v := ?vd6) rfl (by kernel_rfl) (by kernel_rfl) (by kernel_rfl) (fun _ _ _ h => h) (Or.inl ⟨by rfl, ?hyd6⟩) hHeld ?_
    case hyd6 => (intro wS hSw; (try dsimp only at hSw); go_simp; (first | done | with_reducible rfl))
    try simp only [Act.put, List.setIfInBounds_toArray, List.set_cons_zero, List.set_cons_succ]
    refine wpAnyH_take (i := 7) (oi := ⟨_, _, _, _, _, _⟩) (v := ?vd7) rfl (by kernel_rfl) (by kernel_rfl) (by kernel_rfl) (fun _ _ _ h => h) (Or.inl ⟨by rfl, ?hyd7⟩) hHeld ?_
    case hyd7 => (intro wS hSw; (try dsimp only at hSw); go_simp; (first | done | with_reducible rfl))
    try simp only [Act.put, List.setIfInBounds_toArray, List.set_cons_zero, List.set_cons_succ]
    refine wpAnyH_done (by kernel_rfl) ?_ _
    refine NoPanic.normal ?_
    have c60 := C60.out
    have c61 := C61.out
    have c62 := C62.out
    have cn := CN.out
    by_cases hfull : (D1.row (kt + 1)).length < 32
    · have hd : decide (((D1.row (kt + 1)).length : Int) < 32) = true := decide_eq_true (by omega)
      have HFULL := Lib.hid hfull
      have HPUT := Lib.hid (HN3.out.put (j := kt + 1) (by rw [HK.out.2.2.2]; exact HK.out.2.2.1) (Nat.le_refl _) k A cap (HBY3.out.mono (fun _ _ hs => .inl hs)) (HN3.out.ok.more (kt + 1) k HK.out.1 (fun e => by cases e) (fun i _ => hfull)))
      simp only [pb, po] at HPUT
      rw [Nat.mul_comm 2 kt, HK.out.2.1] at HPUT
      clear hfull
      go_wp2_with fail
      refine HPUT.out.mono ?_
      rintro e w3 ⟨rfl, hnet, hoff⟩
      have HNET := Lib.hid hnet
      have HOFF := Lib.hid hoff
      clear hnet hoff
      go_wp2_with fail
      go_ret
      (try rw [if_pos HFULL.out])
      exact ⟨rfl, _, HNET.out, ⟨HOFF3.out.2.trans HOFF.out, fun b hb => hb.1.elim .inl (fun e => .inr (Nat.le_trans HOFF3.out.2.size e)), fun b hb => hb.2⟩⟩
    · have hd : decide (((D1.row (kt + 1)).length : Int) < 32) = false := decide_eq_false (by omega)
      have HFULL := Lib.hid hfull
      clear hfull
      go_wp2_with fail
      go_ret
      (try rw [if_neg HFULL.out])
      exact ⟨rfl, S, ⟨bb, L', HN3.out⟩, ⟨HOFF3.out.2, fun _ hb => .inl hb, HN3.out.lt⟩⟩
  · have h5 := Nt.there_out h0
    rw [if_neg h0]
    simp only [h5] at HT ⊢
    clear h0 h h5
    go_enter Try.func14, Try.ntmps14
    go_wp2_with fail
    refine HT.out.mono ?_
    rintro e w' ⟨rfl, rfl⟩
    go_wp2_with fail
    go_ret
    exact ⟨rfl, S, HH.out, Turn.keep HH.out⟩
end Go.Proofs.Ytonfpifikblnjaa.Net
