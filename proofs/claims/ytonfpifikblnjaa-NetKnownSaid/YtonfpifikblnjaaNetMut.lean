/- The net's functions that turn it. -/
import Derived.Deep.RegionHeld3
import Derived.OrdersHeld
import Derived.Test.YtonfpifikblnjaaNetTurn
namespace Go.Proofs.Ytonfpifikblnjaa.Net
open Go.RowKit

set_option maxHeartbeats 1000000 in
theorem drop_at (S : Nat → Prop) (nb : Nat) (D : Nt) (i : Int) (w : World) (h : NetAt w S nb D) :
    Calls Try.prog 26 #[.pointer (some ⟨nb, 0, none⟩), .int .i64 i] w fun e w' => e = .returned (.int .i64 (D.drop i).1) ∧ ∃ S', NetAt w' S' nb (D.drop i).2 ∧ Turn S S' w w' := by
  have HT := Lib.hid (there_at S nb D i w h)
  have HH := Lib.hid h
  unfold Nt.drop
  by_cases h0 : D.there i = 0
  · obtain ⟨z, rfl, hz⟩ := Nt.there_in h0
    obtain ⟨bb, L, hn⟩ := h
    have HTAKE := Lib.hid (hn.take (j := 0) (Nat.zero_le _) z hz)
    rw [if_pos h0]
    simp only [h0] at HT ⊢
    clear hn h0
    go_enter Try.func26, Try.ntmps26
    go_wp2_with fail
    refine HT.out.mono ?_
    rintro e w' ⟨rfl, rfl⟩
    go_wp2_with fail
    refine HTAKE.out.mono ?_
    rintro e w1 ⟨A, cap, rfl, hby, ⟨L', hnet⟩, hoff⟩
    have HNET := Lib.hid (show NetAt w1 S nb _ from ⟨bb, L', hnet⟩)
    have HOFF := Lib.hid hoff
    clear hby hnet hoff
    go_wp2_with fail
    go_ret
    exact ⟨rfl, S, HNET.out, Turn.same HNET.out HOFF.out⟩
  · have h5 := Nt.there_out h0
    rw [if_neg h0]
    simp only [h5] at HT ⊢
    clear h0 h h5
    go_enter Try.func26, Try.ntmps26
    go_wp2_with fail
    refine HT.out.mono ?_
    rintro e w' ⟨rfl, rfl⟩
    go_wp2_with fail
    go_ret
    exact ⟨rfl, S, HH.out, Turn.keep HH.out⟩

set_option maxHeartbeats 4000000 in
theorem send_at (S : Nat → Prop) (nb : Nat) (D : Nt) (k : Pk) (A : Option Addr) (cap : Nat) (w : World) (h : NetAt w S nb D) (hk : RowR w A cap k.b) (hl : k.b.length ≤ 1000) :
    Calls Try.prog 13 #[.pointer (some ⟨nb, 0, none⟩), .int .i64 k.src, .int .i64 k.to, .slice A k.b.length cap] w fun e w' => e = .returned (.int .i64 (D.send k).1) ∧ ∃ S', NetAt w' S' nb (D.send k).2 ∧ Turn S S' w w' := by
  have HE1 := Lib.hid (end_at S nb D k.src w h)
  have HE2 := Lib.hid (end_at S nb D k.to w h)
  have HH := Lib.hid h
  unfold Nt.send
  rcases Bool.eq_false_or_eq_true (D.is k.src) with e1 | e1
  · rw [e1] at HE1
    rcases Bool.eq_false_or_eq_true (D.is k.to) with e2 | e2
    · rw [e2] at HE2
      rw [if_pos ⟨e1, e2⟩]
      obtain ⟨bb, L, hn⟩ := h
      obtain ⟨hr, hrow⟩ := hn.rows 0 (Nat.zero_le _)
      have cn : w.cell? ⟨nb, 1, none⟩ = some (.int .i64 ((D.row 0).length : Int)) := by
        have := hr.n
        simp only [pb, po] at this
        rw [hrow, List.length_map]
        exact this
      by_cases hfull : 256 ≤ (D.row 0).length
      · have hd : decide ((256 : Int) ≤ ((D.row 0).length : Int)) = true := decide_eq_true (by omega)
        rw [if_pos hfull]
        clear hn hr hrow e1 e2 hfull hl hk
        go_enter Try.func13, Try.ntmps13
        go_wp2_with fail
        refine HE1.out.mono ?_
        rintro e w' ⟨rfl, rfl⟩
        go_wp2_with fail
        refine HE2.out.mono ?_
        rintro e w' ⟨rfl, rfl⟩
        go_wp2_with fail
        go_ret
        exact ⟨rfl, S, HH.out, Turn.keep HH.out⟩
      · have hd : decide ((256 : Int) ≤ ((D.row 0).length : Int)) = false := decide_eq_false (by omega)
        rw [if_neg hfull]
        have hto : 0 ≤ k.to ∧ k.to < (D.n : Int) := by
          obtain ⟨z, hz, hz2⟩ := Nt.is_nat e2
          omega
        have hok : (D.more 0 k).OK := hn.ok.more 0 k hl (fun _ => ⟨by omega, hto⟩) (fun i e => by cases e)
        have HPUT : Hid (∀ (w1 : World) (A' : Option Addr) (cap' : Nat), Bytes w1 (fun b => w.heap.size ≤ b) A' k.b → w.grownBy w1 none → Calls Try.prog 30 #[.pointer (some ⟨nb, 0, none⟩), .agg #[.int .i64 k.src, .int .i64 k.to, .slice A' k.b.length cap']] w1 fun e w' => e = .returned (.tuple #[]) ∧ NetAt w' (fun b => Sm S w.heap.size b ∧ b < w'.heap.size) nb (D.more 0 k) ∧ OffU S w1 w') := by
          intro w1 A' cap' hby hgr
          have hn1 : NetIn w1 S nb bb D L := hn.other (T := fun _ => False) (Off.of_grown hgr (by simp)) (fun _ _ x => x)
          exact hn1.put (j := 0) (Nat.zero_le _) hgr.size k A' cap' (hby.mono (fun b _ hs => .inr hs)) hok
        have HCP := Lib.hid (copied_at k A cap w.drew (hk.grown (drew_grown w none)) (by omega))
        clear hn hr hrow e1 e2 hfull hl hk hto hok
        go_enter Try.func13, Try.ntmps13
        go_wp2_with fail
        refine HE1.out.mono ?_
        rintro e w' ⟨rfl, rfl⟩
        go_wp2_with fail
        refine HE2.out.mono ?_
        rintro e w' ⟨rfl, rfl⟩
        go_wp2_with fail
        refine wp_region_noPanic ?_
        refine wp_region_held_drew (S := fun _ => True) (by kernel_rfl) ?hSs (fun hHeld => ?_)
        case hSs => (try exact True.intro)
        refine wpAnyH_take (i := 0) (oi := ⟨_, _, _, _, _, _⟩) (v := ?vs0) rfl (by kernel_rfl) (by kernel_rfl) (by kernel_rfl) (fun _ _ _ h => h) (Or.inl ⟨by rfl, ?hys0⟩) hHeld ?_
        case hys0 => (intro wS hSw; (try dsimp only at hSw); go_simp; (first | done | with_reducible rfl))
        try simp only [Act.put, List.setIfInBounds_toArray, List.set_cons_zero, List.set_cons_succ]
        refine wpAnyH_take (i := 1) (oi := ⟨_, _, _, _, _, _⟩) (v := ?vs1) rfl (by kernel_rfl) (by kernel_rfl) (by kernel_rfl) (fun _ _ _ h => h) (Or.inl ⟨by rfl, ?hys1⟩) hHeld ?_
        case hys1 => (intro wS hSw; (try dsimp only at hSw); go_simp; (first | done | with_reducible rfl))
        try simp only [Act.put, List.setIfInBounds_toArray, List.set_cons_zero, List.set_cons_succ]
        refine wpAnyH_take (i := 2) (oi := ⟨_, _, _, _, _, _⟩) (v := ?vs2) rfl (by kernel_rfl) (by kernel_rfl) (by kernel_rfl) (fun _ _ _ h => h) (Or.inl ⟨by rfl, ?hys2⟩) hHeld ?_
        case hys2 => (intro wS hSw; (try dsimp only at hSw); go_simp; (first | done | with_reducible rfl))
        try simp only [Act.put, List.setIfInBounds_toArray, List.set_cons_zero, List.set_cons_succ]
        refine wpAnyH_take (i := 3) (oi := ⟨_, _, _, _, _, _⟩) (v := ?vs3) rfl (by kernel_rfl) (by kernel_rfl) (by kernel_rfl) (fun _ _ _ h => h) (Or.inl ⟨by rfl, ?hys3⟩) hHeld ?_
        case hys3 => (intro wS hSw; (try dsimp only at hSw); go_simp; (first | done | with_reducible rfl))
        try simp only [Act.put, List.setIfInBounds_toArray, List.set_cons_zero, List.set_cons_succ]
        refine wpAnyH_take (i := 4) (oi := ⟨_, _, _, _, _, _⟩) (v := ?vs4) rfl (by kernel_rfl) (by kernel_rfl) (by kernel_rfl) (fun _ _ _ h => h) (Or.inl ⟨by rfl, ?hys4⟩) hHeld ?_
        case hys4 => (intro wS hSw; (try dsimp only at hSw); go_simp; (first | done | with_reducible rfl))
        try simp only [Act.put, List.setIfInBounds_toArray, List.set_cons_zero, List.set_cons_succ]
        refine wpAnyH_take (i := 5) (oi := ⟨_, _, _, _, _, _⟩) (v := ?vs5) rfl (by kernel_rfl) (by kernel_rfl) (by kernel_rfl) (fun _ _ _ h => h) (Or.inl ⟨by rfl, ?hys5⟩) hHeld ?_
        case hys5 => (intro wS hSw; (try dsimp only at hSw); go_simp; (first | done | with_reducible rfl))
        try simp only [Act.put, List.setIfInBounds_toArray, List.set_cons_zero, List.set_cons_succ]
        refine wpAnyH_take (i := 6) (oi := ⟨_, _, _, _, _, _⟩) (v := ?vs6) rfl (by kernel_rfl) (by kernel_rfl) (by kernel_rfl) (fun _ _ _ h => h) (Or.inl ⟨by rfl, ?hys6⟩) hHeld ?_
        case hys6 => (intro wS hSw; (try dsimp only at hSw); go_simp; (first | done | with_reducible rfl))
        try simp only [Act.put, List.setIfInBounds_toArray, List.set_cons_zero, List.set_cons_succ]
        refine wpAnyH_ready (rs := [7]) (by kernel_rfl) (by simp) ?_
        refine AllReadyH.cons (o := ⟨_, _, _, _, _, _⟩) rfl (fun K hK => ?_) AllReadyH.nil
        go_simp
        refine (HCP.out).mono ?_
        rintro e w1 ⟨A', cap', rfl, hby, _, hgr⟩
        have HBY := Lib.hid hby
        have HGR := Lib.hid hgr
        clear hby hgr
        go_wp2_with fail
        refine hK.out _ _ ?ks7 (fun hNew => ?_)
        case ks7 => (try dsimp only); (try exact True.intro)
        clear hK K hHeld
        have hHeld := hNew
        clear hNew
        try simp only [Act.put, List.setIfInBounds_toArray, List.set_cons_zero, List.set_cons_succ]
        refine wpAnyH_ready (rs := [8]) (by kernel_rfl) (by simp) ?_
        refine AllReadyH.cons (o := ⟨_, _, _, _, _, _⟩) rfl (fun K hK => ?_) AllReadyH.nil
        go_simp
        refine (HPUT.out w1 A' cap' HBY.out ((drew_grown _ none).andThen HGR.out (fun _ hj => .inr hj))).mono ?_
        rintro e w2 ⟨rfl, hnet, hoff⟩
        have HNET := Lib.hid hnet
        have HOFF := Lib.hid hoff
        clear hnet hoff
        go_wp2_with fail
        refine hK.out _ _ ?ks8 (fun hNew => ?_)
        case ks8 => (try dsimp only); (try exact True.intro)
        clear hK K hHeld
        have hHeld := hNew
        clear hNew
        try simp only [Act.put, List.setIfInBounds_toArray, List.set_cons_zero, List.set_cons_succ]
        refine wpAnyH_done (by kernel_rfl) ?_ _
        refine NoPanic.normal ?_
        go_wp2_with fail
        go_ret
        refine ⟨rfl, _, HNET.out, ⟨((OffU.of_grown (drew_grown _ none)).trans (OffU.of_grown HGR.out)).trans HOFF.out, fun b hb => hb.1, fun b hb => hb.2⟩⟩
    · rw [e2] at HE2
      rw [if_neg (by rw [e2]; simp)]
      clear e1 e2 h hk hl
      go_enter Try.func13, Try.ntmps13
      go_wp2_with fail
      refine HE1.out.mono ?_
      rintro e w' ⟨rfl, rfl⟩
      go_wp2_with fail
      refine HE2.out.mono ?_
      rintro e w' ⟨rfl, rfl⟩
      go_wp2_with fail
      go_ret
      exact ⟨rfl, S, HH.out, Turn.keep HH.out⟩
  · rw [e1] at HE1
    rw [if_neg (by rw [e1]; simp)]
    clear e1 h hk hl
    go_enter Try.func13, Try.ntmps13
    go_wp2_with fail
    refine HE1.out.mono ?_
    rintro e w' ⟨rfl, rfl⟩
    go_wp2_with fail
    go_ret
    exact ⟨rfl, S, HH.out, Turn.keep HH.out⟩

set_option maxHeartbeats 4000000 in
theorem delay_at (S : Nat → Prop) (nb : Nat) (D : Nt) (i : Int) (w : World) (h : NetAt w S nb D) :
    Calls Try.prog 25 #[.pointer (some ⟨nb, 0, none⟩), .int .i64 i] w fun e w' => e = .returned (.int .i64 (D.delay i).1) ∧ ∃ S', NetAt w' S' nb (D.delay i).2 ∧ Turn S S' w w' := by
  have HT := Lib.hid (there_at S nb D i w h)
  have HH := Lib.hid h
  unfold Nt.delay
  by_cases h0 : D.there i = 0
  · obtain ⟨z, rfl, hz⟩ := Nt.there_in h0
    obtain ⟨bb, L, hn⟩ := h
    have hnd : NetIn w.drew S nb bb D L := hn.other (T := fun _ => False) (Off.of_grown (drew_grown w none) (by simp)) (fun _ _ x => x)
    have HTAKE := Lib.hid (hnd.take (j := 0) (Nat.zero_le _) z hz)
    have HOK : Hid (((D.less 0 z).more 0 (D.nth 0 z)).OK) := by
      have hw := hn.ok.way
      have hlen : ((D.less 0 z).row 0).length = (D.row 0).length - 1 := List.length_eraseIdx_of_lt hz
      exact (hn.ok.less 0 z).more 0 _ (hn.ok.small 0 _ (Nt.nth_mem hz)) (fun _ => ⟨by omega, hn.ok.to_ _ (Nt.nth_mem hz)⟩) (fun i e => by cases e)
    rw [if_pos h0]
    simp only [h0, Int.toNat_natCast] at HT ⊢
    clear hn hnd h0
    go_enter Try.func25, Try.ntmps25
    go_wp2_with fail
    refine HT.out.mono ?_
    rintro e w' ⟨rfl, rfl⟩
    go_wp2_with fail
    refine wp_region_noPanic ?_
    refine wp_region_held_drew (S := fun _ => True) (by kernel_rfl) ?hSy (fun hHeld => ?_)
    case hSy => (try exact True.intro)
    refine wpAnyH_take (i := 0) (oi := ⟨_, _, _, _, _, _⟩) (v := ?vy0) rfl (by kernel_rfl) (by kernel_rfl) (by kernel_rfl) (fun _ _ _ h => h) (Or.inl ⟨by rfl, ?hyy0⟩) hHeld ?_
    case hyy0 => (intro wS hSw; (try dsimp only at hSw); go_simp; (first | done | with_reducible rfl))
    try simp only [Act.put, List.setIfInBounds_toArray, List.set_cons_zero, List.set_cons_succ]
    refine wpAnyH_take (i := 1) (oi := ⟨_, _, _, _, _, _⟩) (v := ?vy1) rfl (by kernel_rfl) (by kernel_rfl) (by kernel_rfl) (fun _ _ _ h => h) (Or.inl ⟨by rfl, ?hyy1⟩) hHeld ?_
    case hyy1 => (intro wS hSw; (try dsimp only at hSw); go_simp; (first | done | with_reducible rfl))
    try simp only [Act.put, List.setIfInBounds_toArray, List.set_cons_zero, List.set_cons_succ]
    refine wpAnyH_take (i := 2) (oi := ⟨_, _, _, _, _, _⟩) (v := ?vy2) rfl (by kernel_rfl) (by kernel_rfl) (by kernel_rfl) (fun _ _ _ h => h) (Or.inl ⟨by rfl, ?hyy2⟩) hHeld ?_
    case hyy2 => (intro wS hSw; (try dsimp only at hSw); go_simp; (first | done | with_reducible rfl))
    try simp only [Act.put, List.setIfInBounds_toArray, List.set_cons_zero, List.set_cons_succ]
    refine wpAnyH_take (i := 3) (oi := ⟨_, _, _, _, _, _⟩) (v := ?vy3) rfl (by kernel_rfl) (by kernel_rfl) (by kernel_rfl) (fun _ _ _ h => h) (Or.inl ⟨by rfl, ?hyy3⟩) hHeld ?_
    case hyy3 => (intro wS hSw; (try dsimp only at hSw); go_simp; (first | done | with_reducible rfl))
    try simp only [Act.put, List.setIfInBounds_toArray, List.set_cons_zero, List.set_cons_succ]
    refine wpAnyH_take (i := 4) (oi := ⟨_, _, _, _, _, _⟩) (v := ?vy4) rfl (by kernel_rfl) (by kernel_rfl) (by kernel_rfl) (fun _ _ _ h => h) (Or.inl ⟨by rfl, ?hyy4⟩) hHeld ?_
    case hyy4 => (intro wS hSw; (try dsimp only at hSw); go_simp; (first | done | with_reducible rfl))
    try simp only [Act.put, List.setIfInBounds_toArray, List.set_cons_zero, List.set_cons_succ]
    refine wpAnyH_take (i := 5) (oi := ⟨_, _, _, _, _, _⟩) (v := ?vy5) rfl (by kernel_rfl) (by kernel_rfl) (by kernel_rfl) (fun _ _ _ h => h) (Or.inl ⟨by rfl, ?hyy5⟩) hHeld ?_
    case hyy5 => (intro wS hSw; (try dsimp only at hSw); go_simp; (first | done | with_reducible rfl))
    try simp only [Act.put, List.setIfInBounds_toArray, List.set_cons_zero, List.set_cons_succ]
    refine wpAnyH_take (i := 6) (oi := ⟨_, _, _, _, _, _⟩) (v := ?vy6) rfl (by kernel_rfl) (by kernel_rfl) (by kernel_rfl) (fun _ _ _ h => h) (Or.inl ⟨by rfl, ?hyy6⟩) hHeld ?_
    case hyy6 => (intro wS hSw; (try dsimp only at hSw); go_simp; (first | done | with_reducible rfl))
    try simp only [Act.put, List.setIfInBounds_toArray, List.set_cons_zero, List.set_cons_succ]
    refine wpAnyH_ready (rs := [7]) (by kernel_rfl) (by simp) ?_
    refine AllReadyH.cons (o := ⟨_, _, _, _, _, _⟩) rfl (fun K hK => ?_) AllReadyH.nil
    go_simp
    refine (HTAKE.out).mono ?_
    rintro e w1 ⟨A, cap, rfl, hby, ⟨L', hnet⟩, hoff⟩
    have HBY := Lib.hid hby
    have HNET1 := Lib.hid hnet
    have HOFF1 := Lib.hid hoff
    clear hby hnet hoff
    go_wp2_with fail
    refine hK.out _ _ ?ky7 (fun hNew => ?_)
    case ky7 => (try dsimp only); (try exact True.intro)
    clear hK K hHeld
    have hHeld := hNew
    clear hNew
    try simp only [Act.put, List.setIfInBounds_toArray, List.set_cons_zero, List.set_cons_succ]
    refine wpAnyH_ready (rs := [8]) (by kernel_rfl) (by simp) ?_
    refine AllReadyH.cons (o := ⟨_, _, _, _, _, _⟩) rfl (fun K hK => ?_) AllReadyH.nil
    go_simp
    refine (HNET1.out.put (j := 0) (Nat.zero_le _) (Nat.le_refl _) (D.nth 0 z) A cap (HBY.out.mono (fun _ _ hs => .inl hs)) HOK.out).mono ?_
    rintro e w2 ⟨rfl, hnet, hoff⟩
    have HNET := Lib.hid hnet
    have HOFF := Lib.hid hoff
    clear hnet hoff
    go_wp2_with fail
    refine hK.out _ _ ?ky8 (fun hNew => ?_)
    case ky8 => (try dsimp only); (try exact True.intro)
    clear hK K hHeld
    have hHeld := hNew
    clear hNew
    try simp only [Act.put, List.setIfInBounds_toArray, List.set_cons_zero, List.set_cons_succ]
    refine wpAnyH_done (by kernel_rfl) ?_ _
    refine NoPanic.normal ?_
    go_wp2_with fail
    go_ret
    exact ⟨rfl, _, HNET.out, ⟨((OffU.of_grown (drew_grown _ none)).trans HOFF1.out).trans HOFF.out, fun b hb => hb.1.elim .inl (fun e => .inr (Nat.le_trans HOFF1.out.size e)), fun b hb => hb.2⟩⟩
  · have h5 := Nt.there_out h0
    rw [if_neg h0]
    simp only [h5] at HT ⊢
    clear h0 h h5
    go_enter Try.func25, Try.ntmps25
    go_wp2_with fail
    refine HT.out.mono ?_
    rintro e w' ⟨rfl, rfl⟩
    go_wp2_with fail
    go_ret
    exact ⟨rfl, S, HH.out, Turn.keep HH.out⟩
end Go.Proofs.Ytonfpifikblnjaa.Net
