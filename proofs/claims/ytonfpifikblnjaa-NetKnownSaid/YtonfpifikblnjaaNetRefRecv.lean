/- The document's net: Double, Receive. -/
import Derived.Test.YtonfpifikblnjaaNetRefDel
namespace Go.Proofs.Ytonfpifikblnjaa.Net
open Go.RowKit

def Rf.double (R : Rf) (i : Int) : Int × Rf := if R.there i = true then R.made (R.get (((R.row 0)[i.toNat]?).getD 0)) else (5, R)
def Rf.receive (R : Rf) (x : Int) : Option Pk × Rf := if R.waits x = 0 then (none, R) else (some (R.get (((R.row (x.toNat + 1))[0]?).getD 0)), R.set (x.toNat + 1) ((R.row (x.toNat + 1)).eraseIdx 0))

set_option maxRecDepth 100000 in
set_option maxHeartbeats 8000000 in
theorem rdouble_at (T : Nat → Prop) (m : Nat) (R : Rf) (i : Int) (w : World) (h : RefAt w T m R) (ho : R.OK) :
    Calls Try.prog 36 #[.pointer (some ⟨m, 0, none⟩), .int .i64 i] w fun e w' => e = .returned (.int .i64 (R.double i).1) ∧ ∃ T', RefAt w' T' m (R.double i).2 ∧ RTurn T T' w w' := by
  have HT := Lib.hid (rthere_at T m R i w h)
  have HH := Lib.hid h
  unfold Rf.double
  by_cases ht : R.there i = true
  · obtain ⟨z, rfl, hz⟩ := Rf.there_nat ht
    rw [if_pos ht]
    rw [ht] at HT
    have hd := drew_grown w none
    have HMD := h.grown hd
    obtain ⟨xb, va, V, hI⟩ := h
    obtain ⟨k, hk⟩ : ∃ k, (R.row 0)[z]? = some k := ⟨_, List.getElem?_eq_getElem hz⟩
    have hkm := List.mem_of_getElem? hk
    have hklt : k < R.all.length := ho.all 0 (Nat.zero_le _) k hkm
    obtain ⟨p, hp⟩ : ∃ p, R.all[k]? = some p := ⟨_, List.getElem?_eq_getElem hklt⟩
    have hget : R.get (((R.row 0)[(z : Int).toNat]?).getD 0) = p := by rw [Int.toNat_natCast, hk]; unfold Rf.get; rw [Option.getD_some, hp]; rfl
    rw [hget]
    have HMADE := Lib.hid (made_at T m R p w.drew HMD (by have := ho.few; omega) ho.way)
    have HFIN : Hid (∀ w', (∃ T', RefAt w' T' m (R.made p).2 ∧ RTurn T T' w.drew w') → ∃ T', RefAt w' T' m (R.made p).2 ∧ RTurn T T' w w') := fun w' ⟨T', h1, h2⟩ => ⟨T', h1, (RTurn.grown hI.lt hd).trans h2⟩
    obtain ⟨A1, cap1, hv, hcell⟩ := int_row (hI.rows 0 (Nat.zero_le _)).1
    obtain ⟨gR, rfl, cR⟩ := hcell z k hk
    obtain ⟨Aa, capa, hva, hcella⟩ := all_row hI.all
    obtain ⟨gA, rfl, a0, a1, a2⟩ := hcella k p hp
    obtain ⟨capx, hnet, _⟩ := hI.net
    have c0 : w.cell? ⟨m, 0, none⟩ = some (.slice (some ⟨gA, 0, none⟩) R.all.length capa) := by rw [← hva]; simp only [World.cell?, hnet]; rfl
    have c1 : w.cell? ⟨m, 1, none⟩ = some (.slice (some ⟨gR, 0, none⟩) (R.row 0).length cap1) := by rw [← hv]; simp only [World.cell?, hnet]; rfl
    have k0 : (0 : Int) ≤ (k : Int) := by omega
    have k1 : (k : Int) < (R.all.length : Int) := by omega
    have z0 : (0 : Int) ≤ (z : Int) := by omega
    have z1 : (z : Int) < ((R.row 0).length : Int) := by omega
    generalize R.made p = mm at HMADE HFIN
    clear hd HMD hI hk hkm hklt hp hget hv hva hcell hcella hnet hz ht ho
    go_enter Try.func36, Try.ntmps36
    go_wp2_with fail
    refine HT.out.mono ?_
    rintro e w' ⟨rfl, hw⟩
    have hw := hw.symm
    subst hw
    go_upto_region 3 with fail
    refine wp_region_noPanic ?_
    refine wp_region_held_drew (S := fun _ => True) (by kernel_rfl) ?hSd (fun hHeld => ?_)
    case hSd => (try exact True.intro)
    refine wpAnyH_take (i := 0) (oi := ⟨_, _, _, _, _, _⟩) (v := ?vd0) rfl (by kernel_rfl) (by kernel_rfl) (by kernel_rfl) (fun _ _ _ h => h) (Or.inl ⟨by rfl, ?hyd0⟩) hHeld ?_
    case hyd0 => (intro wS hSw; (try dsimp only at hSw); go_simp; (first | done | with_reducible rfl))
    try simp only [Act.put, List.setIfInBounds_toArray, List.set_cons_zero, List.set_cons_succ]
    refine wpAnyH_take (i := 1) (oi := ⟨_, _, _, _, _, _⟩) (v := ?vd1) rfl (by kernel_rfl) (by kernel_rfl) (by kernel_rfl) (fun _ _ _ h => h) (Or.inl ⟨by rfl, ?hyd1⟩) hHeld ?_
    case hyd1 => (intro wS hSw; (try dsimp only at hSw); go_simp; (first | done | with_reducible rfl))
    try simp only [Act.put, List.setIfInBounds_toArray, List.set_cons_zero, List.set_cons_succ]
    refine wpAnyH_take (i := 2) (oi := ⟨_, _, _, _, _, _⟩) (v := ?vd2) rfl (by kernel_rfl) (by kernel_rfl) (by kernel_rfl) (fun _ _ _ h => h) (Or.inl ⟨by rfl, ?hyd2⟩) hHeld ?_
    case hyd2 => (intro wS hSw; (try dsimp only at hSw); go_simp; (first | done | with_reducible rfl))
    try simp only [Act.put, List.setIfInBounds_toArray, List.set_cons_zero, List.set_cons_succ]
    refine wpAnyH_take (i := 3) (oi := ⟨_, _, _, _, _, _⟩) (v := ?vd3) rfl (by kernel_rfl) (by kernel_rfl) (by kernel_rfl) (fun _ _ _ h => h) (Or.inl ⟨by rfl, ?hyd3⟩) hHeld ?_
    case hyd3 => (intro wS hSw; (try dsimp only at hSw); go_simp; (first | done | with_reducible rfl))
    try simp only [Act.put, List.setIfInBounds_toArray, List.set_cons_zero, List.set_cons_succ]
    refine wpAnyH_take (i := 5) (oi := ⟨_, _, _, _, _, _⟩) (v := ?vd5) rfl (by kernel_rfl) (by kernel_rfl) (by kernel_rfl) (fun _ _ _ h => h) (Or.inl ⟨by rfl, ?hyd5⟩) hHeld ?_
    case hyd5 => (intro wS hSw; (try dsimp only at hSw); go_simp; (first | done | with_reducible rfl))
    try simp only [Act.put, List.setIfInBounds_toArray, List.set_cons_zero, List.set_cons_succ]
    refine wpAnyH_take (i := 6) (oi := ⟨_, _, _, _, _, _⟩) (v := ?vd6) rfl (by kernel_rfl) (by kernel_rfl) (by kernel_rfl) (fun _ _ _ h => h) (Or.inl ⟨by rfl, ?hyd6⟩) hHeld ?_
    case hyd6 => (intro wS hSw; (try dsimp only at hSw); go_simp; (first | done | with_reducible rfl))
    try simp only [Act.put, List.setIfInBounds_toArray, List.set_cons_zero, List.set_cons_succ]
    refine wpAnyH_take (i := 7) (oi := ⟨_, _, _, _, _, _⟩) (v := ?vd7) rfl (by kernel_rfl) (by kernel_rfl) (by kernel_rfl) (fun _ _ _ h => h) (Or.inl ⟨by rfl, ?hyd7⟩) hHeld ?_
    case hyd7 => (intro wS hSw; (try dsimp only at hSw); go_simp; (first | done | with_reducible rfl))
    try simp only [Act.put, List.setIfInBounds_toArray, List.set_cons_zero, List.set_cons_succ]
    refine wpAnyH_take (i := 9) (oi := ⟨_, _, _, _, _, _⟩) (v := ?vd9) rfl (by kernel_rfl) (by kernel_rfl) (by kernel_rfl) (fun _ _ _ h => h) (Or.inl ⟨by rfl, ?hyd9⟩) hHeld ?_
    case hyd9 => (intro wS hSw; (try dsimp only at hSw); go_simp; (first | done | with_reducible rfl))
    try simp only [Act.put, List.setIfInBounds_toArray, List.set_cons_zero, List.set_cons_succ]
    refine wpAnyH_ready (rs := [4, 8]) (by kernel_rfl) (by simp) ?_
    refine AllReadyH.cons (o := ⟨_, _, _, _, _, _⟩) rfl (fun K hK => ?_) (AllReadyH.cons (o := ⟨_, _, _, _, _, _⟩) rfl (fun K hK => ?_) AllReadyH.nil)
    · go_simp
      refine hK.out _ _ ?kda4 (fun hNew => ?_)
      case kda4 => (try dsimp only); (try exact True.intro)
      clear hK K hHeld
      have hHeld := hNew
      clear hNew
      try simp only [Act.put, List.setIfInBounds_toArray, List.set_cons_zero, List.set_cons_succ]
      refine wpAnyH_ready (rs := [8]) (by kernel_rfl) (by simp) ?_
      refine AllReadyH.cons (o := ⟨_, _, _, _, _, _⟩) rfl (fun K hK => ?_) AllReadyH.nil
      go_simp
      refine hK.out _ _ ?kda8 (fun hNew => ?_)
      case kda8 => (try dsimp only); (try exact True.intro)
      clear hK K hHeld
      have hHeld := hNew
      clear hNew
      try simp only [Act.put, List.setIfInBounds_toArray, List.set_cons_zero, List.set_cons_succ]
      refine wpAnyH_take (i := 10) (oi := ⟨_, _, _, _, _, _⟩) (v := ?vda10) rfl (by kernel_rfl) (by kernel_rfl) (by kernel_rfl) (fun _ _ _ h => h) (Or.inl ⟨by rfl, ?hyda10⟩) hHeld ?_
      case hyda10 => (intro wS hSw; (try dsimp only at hSw); go_simp; (first | done | with_reducible rfl))
      try simp only [Act.put, List.setIfInBounds_toArray, List.set_cons_zero, List.set_cons_succ]
      refine wpAnyH_ready (rs := [11]) (by kernel_rfl) (by simp) ?_
      refine AllReadyH.cons (o := ⟨_, _, _, _, _, _⟩) rfl (fun K hK => ?_) AllReadyH.nil
      go_simp
      refine hK.out _ _ ?kda11 (fun hNew => ?_)
      case kda11 => (try dsimp only); (try exact True.intro)
      clear hK K hHeld
      have hHeld := hNew
      clear hNew
      try simp only [Act.put, List.setIfInBounds_toArray, List.set_cons_zero, List.set_cons_succ]
      refine wpAnyH_take (i := 12) (oi := ⟨_, _, _, _, _, _⟩) (v := ?vda12) rfl (by kernel_rfl) (by kernel_rfl) (by kernel_rfl) (fun _ _ _ h => h) (Or.inl ⟨by rfl, ?hyda12⟩) hHeld ?_
      case hyda12 => (intro wS hSw; (try dsimp only at hSw); go_simp; (first | done | with_reducible rfl))
      try simp only [Act.put, List.setIfInBounds_toArray, List.set_cons_zero, List.set_cons_succ]
      refine wpAnyH_ready (rs := [13]) (by kernel_rfl) (by simp) ?_
      refine AllReadyH.cons (o := ⟨_, _, _, _, _, _⟩) rfl (fun K hK => ?_) AllReadyH.nil
      go_simp
      refine hK.out _ _ ?kda13 (fun hNew => ?_)
      case kda13 => (try dsimp only); (try exact True.intro)
      clear hK K hHeld
      have hHeld := hNew
      clear hNew
      try simp only [Act.put, List.setIfInBounds_toArray, List.set_cons_zero, List.set_cons_succ]
      refine wpAnyH_ready (rs := [14]) (by kernel_rfl) (by simp) ?_
      refine AllReadyH.cons (o := ⟨_, _, _, _, _, _⟩) rfl (fun K hK => ?_) AllReadyH.nil
      go_simp
      refine HMADE.out.mono ?_
      rintro e wz ⟨rfl, hx⟩
      have HX := Lib.hid hx
      clear hx HMADE
      go_wp2_with fail
      refine hK.out _ _ ?kda14 (fun hNew => ?_)
      case kda14 => (try dsimp only); (try exact True.intro)
      clear hK K hHeld
      have hHeld := hNew
      clear hNew
      try simp only [Act.put, List.setIfInBounds_toArray, List.set_cons_zero, List.set_cons_succ]
      refine wpAnyH_take (i := 15) (oi := ⟨_, _, _, _, _, _⟩) (v := ?vda15) rfl (by kernel_rfl) (by kernel_rfl) (by kernel_rfl) (fun _ _ _ h => h) (Or.inl ⟨by rfl, ?hyda15⟩) hHeld ?_
      case hyda15 => (intro wS hSw; (try dsimp only at hSw); go_simp; (first | done | with_reducible rfl))
      try simp only [Act.put, List.setIfInBounds_toArray, List.set_cons_zero, List.set_cons_succ]
      refine wpAnyH_done (by kernel_rfl) ?_ _
      refine NoPanic.normal ?_
      clear hHeld
      go_wp2_with fail
      go_ret
      exact ⟨rfl, HFIN.out _ HX.out⟩
    · go_simp
      refine hK.out _ _ ?kdb8 (fun hNew => ?_)
      case kdb8 => (try dsimp only); (try exact True.intro)
      clear hK K hHeld
      have hHeld := hNew
      clear hNew
      try simp only [Act.put, List.setIfInBounds_toArray, List.set_cons_zero, List.set_cons_succ]
      refine wpAnyH_take (i := 10) (oi := ⟨_, _, _, _, _, _⟩) (v := ?vdb10) rfl (by kernel_rfl) (by kernel_rfl) (by kernel_rfl) (fun _ _ _ h => h) (Or.inl ⟨by rfl, ?hydb10⟩) hHeld ?_
      case hydb10 => (intro wS hSw; (try dsimp only at hSw); go_simp; (first | done | with_reducible rfl))
      try simp only [Act.put, List.setIfInBounds_toArray, List.set_cons_zero, List.set_cons_succ]
      refine wpAnyH_ready (rs := [4, 11]) (by kernel_rfl) (by simp) ?_
      refine AllReadyH.cons (o := ⟨_, _, _, _, _, _⟩) rfl (fun K hK => ?_) (AllReadyH.cons (o := ⟨_, _, _, _, _, _⟩) rfl (fun K hK => ?_) AllReadyH.nil)
      · go_simp
        refine hK.out _ _ ?kdc4 (fun hNew => ?_)
        case kdc4 => (try dsimp only); (try exact True.intro)
        clear hK K hHeld
        have hHeld := hNew
        clear hNew
        try simp only [Act.put, List.setIfInBounds_toArray, List.set_cons_zero, List.set_cons_succ]
        refine wpAnyH_ready (rs := [11]) (by kernel_rfl) (by simp) ?_
        refine AllReadyH.cons (o := ⟨_, _, _, _, _, _⟩) rfl (fun K hK => ?_) AllReadyH.nil
        go_simp
        refine hK.out _ _ ?kdc11 (fun hNew => ?_)
        case kdc11 => (try dsimp only); (try exact True.intro)
        clear hK K hHeld
        have hHeld := hNew
        clear hNew
        try simp only [Act.put, List.setIfInBounds_toArray, List.set_cons_zero, List.set_cons_succ]
        refine wpAnyH_take (i := 12) (oi := ⟨_, _, _, _, _, _⟩) (v := ?vdc12) rfl (by kernel_rfl) (by kernel_rfl) (by kernel_rfl) (fun _ _ _ h => h) (Or.inl ⟨by rfl, ?hydc12⟩) hHeld ?_
        case hydc12 => (intro wS hSw; (try dsimp only at hSw); go_simp; (first | done | with_reducible rfl))
        try simp only [Act.put, List.setIfInBounds_toArray, List.set_cons_zero, List.set_cons_succ]
        refine wpAnyH_ready (rs := [13]) (by kernel_rfl) (by simp) ?_
        refine AllReadyH.cons (o := ⟨_, _, _, _, _, _⟩) rfl (fun K hK => ?_) AllReadyH.nil
        go_simp
        refine hK.out _ _ ?kdc13 (fun hNew => ?_)
        case kdc13 => (try dsimp only); (try exact True.intro)
        clear hK K hHeld
        have hHeld := hNew
        clear hNew
        try simp only [Act.put, List.setIfInBounds_toArray, List.set_cons_zero, List.set_cons_succ]
        refine wpAnyH_ready (rs := [14]) (by kernel_rfl) (by simp) ?_
        refine AllReadyH.cons (o := ⟨_, _, _, _, _, _⟩) rfl (fun K hK => ?_) AllReadyH.nil
        go_simp
        refine HMADE.out.mono ?_
        rintro e wz ⟨rfl, hx⟩
        have HX := Lib.hid hx
        clear hx HMADE
        go_wp2_with fail
        refine hK.out _ _ ?kdc14 (fun hNew => ?_)
        case kdc14 => (try dsimp only); (try exact True.intro)
        clear hK K hHeld
        have hHeld := hNew
        clear hNew
        try simp only [Act.put, List.setIfInBounds_toArray, List.set_cons_zero, List.set_cons_succ]
        refine wpAnyH_take (i := 15) (oi := ⟨_, _, _, _, _, _⟩) (v := ?vdc15) rfl (by kernel_rfl) (by kernel_rfl) (by kernel_rfl) (fun _ _ _ h => h) (Or.inl ⟨by rfl, ?hydc15⟩) hHeld ?_
        case hydc15 => (intro wS hSw; (try dsimp only at hSw); go_simp; (first | done | with_reducible rfl))
        try simp only [Act.put, List.setIfInBounds_toArray, List.set_cons_zero, List.set_cons_succ]
        refine wpAnyH_done (by kernel_rfl) ?_ _
        refine NoPanic.normal ?_
        clear hHeld
        go_wp2_with fail
        go_ret
        exact ⟨rfl, HFIN.out _ HX.out⟩
      · go_simp
        refine hK.out _ _ ?kde11 (fun hNew => ?_)
        case kde11 => (try dsimp only); (try exact True.intro)
        clear hK K hHeld
        have hHeld := hNew
        clear hNew
        try simp only [Act.put, List.setIfInBounds_toArray, List.set_cons_zero, List.set_cons_succ]
        refine wpAnyH_ready (rs := [4]) (by kernel_rfl) (by simp) ?_
        refine AllReadyH.cons (o := ⟨_, _, _, _, _, _⟩) rfl (fun K hK => ?_) AllReadyH.nil
        go_simp
        refine hK.out _ _ ?kde4 (fun hNew => ?_)
        case kde4 => (try dsimp only); (try exact True.intro)
        clear hK K hHeld
        have hHeld := hNew
        clear hNew
        try simp only [Act.put, List.setIfInBounds_toArray, List.set_cons_zero, List.set_cons_succ]
        refine wpAnyH_take (i := 12) (oi := ⟨_, _, _, _, _, _⟩) (v := ?vde12) rfl (by kernel_rfl) (by kernel_rfl) (by kernel_rfl) (fun _ _ _ h => h) (Or.inl ⟨by rfl, ?hyde12⟩) hHeld ?_
        case hyde12 => (intro wS hSw; (try dsimp only at hSw); go_simp; (first | done | with_reducible rfl))
        try simp only [Act.put, List.setIfInBounds_toArray, List.set_cons_zero, List.set_cons_succ]
        refine wpAnyH_ready (rs := [13]) (by kernel_rfl) (by simp) ?_
        refine AllReadyH.cons (o := ⟨_, _, _, _, _, _⟩) rfl (fun K hK => ?_) AllReadyH.nil
        go_simp
        refine hK.out _ _ ?kde13 (fun hNew => ?_)
        case kde13 => (try dsimp only); (try exact True.intro)
        clear hK K hHeld
        have hHeld := hNew
        clear hNew
        try simp only [Act.put, List.setIfInBounds_toArray, List.set_cons_zero, List.set_cons_succ]
        refine wpAnyH_ready (rs := [14]) (by kernel_rfl) (by simp) ?_
        refine AllReadyH.cons (o := ⟨_, _, _, _, _, _⟩) rfl (fun K hK => ?_) AllReadyH.nil
        go_simp
        refine HMADE.out.mono ?_
        rintro e wz ⟨rfl, hx⟩
        have HX := Lib.hid hx
        clear hx HMADE
        go_wp2_with fail
        refine hK.out _ _ ?kde14 (fun hNew => ?_)
        case kde14 => (try dsimp only); (try exact True.intro)
        clear hK K hHeld
        have hHeld := hNew
        clear hNew
        try simp only [Act.put, List.setIfInBounds_toArray, List.set_cons_zero, List.set_cons_succ]
        refine wpAnyH_take (i := 15) (oi := ⟨_, _, _, _, _, _⟩) (v := ?vde15) rfl (by kernel_rfl) (by kernel_rfl) (by kernel_rfl) (fun _ _ _ h => h) (Or.inl ⟨by rfl, ?hyde15⟩) hHeld ?_
        case hyde15 => (intro wS hSw; (try dsimp only at hSw); go_simp; (first | done | with_reducible rfl))
        try simp only [Act.put, List.setIfInBounds_toArray, List.set_cons_zero, List.set_cons_succ]
        refine wpAnyH_done (by kernel_rfl) ?_ _
        refine NoPanic.normal ?_
        clear hHeld
        go_wp2_with fail
        go_ret
        exact ⟨rfl, HFIN.out _ HX.out⟩
  · have hf : R.there i = false := by simpa using ht
    rw [if_neg ht]
    rw [hf] at HT
    clear ht hf h ho
    go_enter Try.func36, Try.ntmps36
    go_wp2_with fail
    refine HT.out.mono ?_
    rintro e w' ⟨rfl, hw⟩
    have hw := hw.symm
    subst hw
    go_wp2_with fail
    go_ret
    exact ⟨rfl, T, HH.out, ⟨Off.refl _ _, fun _ hb => .inl hb, HH.out.lt⟩⟩

set_option maxRecDepth 100000 in
set_option maxHeartbeats 8000000 in
theorem rreceive_at (T : Nat → Prop) (m xb : Nat) (va : Value) (V : Nat → Value) (R : Rf) (i : Int) (w : World) (h : RefIn w T m xb va V R) (ho : R.OK) :
    Calls Try.prog 38 #[.pointer (some ⟨m, 0, none⟩), .int .i64 i] w fun e w' => e = .returned (.tuple #[.agg #[.int .i64 ((R.receive i).1.getD ⟨0, 0, []⟩).src, .int .i64 ((R.receive i).1.getD ⟨0, 0, []⟩).to, strV ((R.receive i).1.getD ⟨0, 0, []⟩).b], .bool (R.receive i).1.isSome]) ∧
      ∃ T' V', RefIn w' T' m xb va V' (R.receive i).2 ∧ RTurn T T' w w' := by
  have hg1 := World.grownBy_alloc w (.cells #[.int .i64 0, .int .i64 0, .string ⟨#[]⟩] 48) none
  have hs1 : (w.alloc (.cells #[.int .i64 0, .int .i64 0, .string ⟨#[]⟩] 48)).heap.size = w.heap.size + 1 := World.size_alloc ..
  have hb1 := (MapKept.heap_alloc w (.cells #[.int .i64 0, .int .i64 0, .string ⟨#[]⟩] 48)).1
  obtain ⟨w1, hw1⟩ : ∃ w1, w1 = w.alloc (.cells #[.int .i64 0, .int .i64 0, .string ⟨#[]⟩] 48) := ⟨_, rfl⟩
  rw [← hw1] at hg1 hs1 hb1
  have h1 : RefIn w1 T m xb va V R := h.other (U := fun _ => False) (Off.of_grown hg1 (by simp)) (fun _ _ x => x)
  have HW := Lib.hid (rwaits_at T m R i w1 ⟨xb, va, V, h1⟩)
  have HW1 := Lib.hid hw1
  have HI := Lib.hid h1
  have HG := Lib.hid hg1
  have HB := Lib.hid hb1
  have HTL := Lib.hid h.lt
  have HS1 := Lib.hid hs1
  unfold Rf.receive
  by_cases h0 : R.waits i = 0
  · rw [if_pos h0]
    rw [h0] at HW
    have g1 := heap_setCell_same _ w.heap.size 0 _ _ (.int .i64 0) hb1
    have HRES : Hid (w1.heap[w.heap.size]? = some (.cells #[.int .i64 0, .int .i64 0, .string ⟨#[]⟩] 48)) := hb1
    clear h0 h1 h hs1 g1 hg1 hb1 hw1 ho
    go_enter Try.func38, Try.ntmps38
    go_wp2_with fail
    rw [← HW1.out]
    refine HW.out.mono ?_
    rintro e w' ⟨rfl, hw⟩
    have hw := hw.symm
    subst hw
    have hw1 := HW1.out
    subst hw1
    go_wp2_with fail
    (try simp only [Exit.inBlock, Exit.then])
    refine bodyPost_ret (results_row_tmp rfl _ _ w.heap.size _ _ _ _ rfl HRES.out Try.underlying48 rfl (by kernel_rfl)) rfl ?_
    exact ⟨rfl, T, V, HI.out, RTurn.grown HTL.out HG.out⟩
  · rw [if_neg h0]
    obtain ⟨z, rfl, hz⟩ : ∃ z : Nat, i = (z : Int) ∧ z < R.n := by
      unfold Rf.waits at h0
      split at h0
      · exact Rf.is_nat (by assumption)
      · exact absurd rfl h0
    have hwz : R.waits (z : Int) = ((R.row (z + 1)).length : Int) := by
      unfold Rf.waits at h0 ⊢
      split at h0
      · rw [if_pos (by assumption)]; rfl
      · exact absurd rfl h0
    rw [hwz] at HW h0
    have hpos : 0 < (R.row (z + 1)).length := by omega
    obtain ⟨k, hk⟩ : ∃ k, (R.row (z + 1))[0]? = some k := ⟨_, List.getElem?_eq_getElem hpos⟩
    have hklt : k < R.all.length := ho.all (z + 1) hz k (List.mem_of_getElem? hk)
    obtain ⟨p, hp⟩ : ∃ p, R.all[k]? = some p := ⟨_, List.getElem?_eq_getElem hklt⟩
    have hget : R.get k = p := by unfold Rf.get; rw [hp]; rfl
    simp only [Int.toNat_natCast, hk, Option.getD_some, Option.isSome_some, hget]
    obtain ⟨ml, hml⟩ : ∃ ml : Int, ml = ((R.row (z + 1)).length : Int) := ⟨_, rfl⟩
    rw [← hml] at HW h0
    have hne : (ml == 0) = false := by simpa using h0
    obtain ⟨A1, cap1, hv, hcell⟩ := int_row (h1.rows (z + 1) hz).1
    obtain ⟨gR, rfl, cR⟩ := hcell 0 k hk
    obtain ⟨Aa, capa, hva, hcella⟩ := all_row h1.all
    obtain ⟨gA, rfl, a0, a1, a2⟩ := hcella k p hp
    obtain ⟨capx, hnet, hcx⟩ := h1.net
    have c2 : w1.cell? ⟨m, 2, none⟩ = some (.slice (some ⟨xb, 0, none⟩) R.n capx) := by simp only [World.cell?, hnet]; rfl
    have cb := (h1.cell (j := z + 1) hz).1
    simp only [rb, ro] at cb
    rw [hv] at cb
    have z0 : (0 : Int) ≤ (z : Int) := by omega
    have z1 : (z : Int) < (R.n : Int) := by omega
    have k0 : (0 : Int) ≤ (k : Int) := by omega
    have k1 : (k : Int) < (R.all.length : Int) := by omega
    have l0 : (0 : Int) < ((R.row (z + 1)).length : Int) := by omega
    have l1 : 0 < (R.row (z + 1)).length := hpos
    have HV := Lib.hid hv
    have HVA := Lib.hid hva
    have HZ := Lib.hid (And.intro hz hpos)
    have HP1 := Lib.hid (And.intro hk (And.intro hp hget))
    have hwo := without_at (V (z + 1)) (R.row (z + 1)) 0 w1.drew ((h1.other (U := fun _ => False) (Off.of_grown (drew_grown w1 none) (by simp)) (fun _ _ x => x)).rows (z + 1) hz).1 (by have := ho.box z hz; omega)
    rw [hv] at hwo
    have HWO := Lib.hid hwo
    have hIx : RefIn w1.drew T m xb va V R := h1.other (U := fun _ => False) (Off.of_grown (drew_grown w1 none) (by simp)) (fun _ _ x => x)
    have C2 : Hid (w1.drew.cell? ⟨m, 2, none⟩ = some (.slice (some ⟨xb, 0, none⟩) R.n capx)) := c2
    have C1 : Hid (w1.cell? ⟨xb, z, none⟩ = some (.slice (some ⟨gR, 0, none⟩) (R.row (z + 1)).length cap1)) := cb
    have HPUT : Hid (∀ (v2 : Value) (w5 : World), IntRow w5 v2 ((R.row (z + 1)).eraseIdx 0) → w1.drew.grownBy w5 none → (∀ g, v2.ownBlock = some g → w1.drew.heap.size ≤ g) →
        w5.cell? ⟨xb, z, none⟩ = some (.slice (some ⟨gR, 0, none⟩) (R.row (z + 1)).length cap1) ∧ w5.frozen? ⟨xb, z, none⟩ = false ∧ w5.cell? ⟨m, 2, none⟩ = some (.slice (some ⟨xb, 0, none⟩) R.n capx) ∧ (w5.setCell ⟨xb, z, none⟩ v2).cell? ⟨m, 2, none⟩ = some (.slice (some ⟨xb, 0, none⟩) R.n capx) ∧
        ∃ T' V', RefIn (w5.setCell ⟨xb, z, none⟩ v2) T' m xb va V' (R.set (z + 1) ((R.row (z + 1)).eraseIdx 0)) ∧ RTurn T T' w1 (w5.setCell ⟨xb, z, none⟩ v2) ∧ (∀ b, T' b → T b ∨ w1.heap.size ≤ b)) := by
      intro v2 w5 h5 hg5 hnew
      obtain ⟨p1, p2⟩ := hIx.put (j := z + 1) HZ.out.1 (grown_any hg5 _) h5 (.inr hnew)
      simp only [rb, ro] at p1 p2
      have hcm := hIx.cell (j := z + 1) HZ.out.1
      simp only [rb, ro] at hcm
      have q1 := hg5.cell hcm.1 (by simp)
      rw [HV.out] at q1
      have q2 := hg5.cell C2.out (by simp)
      have hmx : m ≠ xb := hIx.mx
      refine ⟨q1, (frozen_grown (World.block_lt_of_cell? _ _ hcm.1) hg5).trans hcm.2, q2, (World.cell?_of_block (a := ⟨m, 2, none⟩) (heap_setCell_other w5 ⟨xb, z, none⟩ m v2 hmx)).trans q2, _, _, p1, ⟨⟨p2.os, p2.tape, p2.output, p2.size, p2.block⟩, fun b hb => hb.1, fun b hb => hb.2⟩, fun b hb => hb.1⟩
    clear h0 hwz hpos hk hklt hp hget hml hv hcell hva hcella hnet hwo hIx h1 h ho hs1 hg1 hb1 hw1 hz
    go_enter Try.func38, Try.ntmps38
    go_wp2_with fail
    rw [← HW1.out]
    refine HW.out.mono ?_
    rintro e w' ⟨rfl, hw⟩
    have hw := hw.symm
    subst hw
    go_upto_region 4 with fail
    clear c2 cb cR a0 a1 a2
    refine wp_region_noPanic ?_
    refine wp_region_held_drew (S := fun w' => w'.cell? ⟨m, 2, none⟩ = some (.slice (some ⟨xb, 0, none⟩) R.n capx)) (by kernel_rfl) ?hSr (fun hHeld => ?_)
    case hSr => exact C2.out
    refine wpAnyH_take (i := 0) (oi := ⟨_, _, _, _, _, _⟩) (v := ?vr0) rfl (by kernel_rfl) (by kernel_rfl) (by kernel_rfl) (fun _ _ _ h => h) (Or.inl ⟨by rfl, ?hyr0⟩) hHeld ?_
    case hyr0 => (intro wS hSw; (try dsimp only at hSw); go_simp; (first | done | with_reducible rfl))
    try simp only [Act.put, List.setIfInBounds_toArray, List.set_cons_zero, List.set_cons_succ]
    refine wpAnyH_take (i := 1) (oi := ⟨_, _, _, _, _, _⟩) (v := ?vr1) rfl (by kernel_rfl) (by kernel_rfl) (by kernel_rfl) (fun _ _ _ h => h) (Or.inl ⟨by rfl, ?hyr1⟩) hHeld ?_
    case hyr1 => (intro wS hSw; (try dsimp only at hSw); go_simp; (first | done | with_reducible rfl))
    try simp only [Act.put, List.setIfInBounds_toArray, List.set_cons_zero, List.set_cons_succ]
    refine wpAnyH_take (i := 2) (oi := ⟨_, _, _, _, _, _⟩) (v := ?vr2) rfl (by kernel_rfl) (by kernel_rfl) (by kernel_rfl) (fun _ _ _ h => h) (Or.inl ⟨by rfl, ?hyr2⟩) hHeld ?_
    case hyr2 => (intro wS hSw; (try dsimp only at hSw); go_simp; (first | done | with_reducible rfl))
    try simp only [Act.put, List.setIfInBounds_toArray, List.set_cons_zero, List.set_cons_succ]
    refine wpAnyH_take (i := 3) (oi := ⟨_, _, _, _, _, _⟩) (v := ?vr3) rfl (by kernel_rfl) (by kernel_rfl) (by kernel_rfl) (fun _ _ _ h => h) (Or.inl ⟨by rfl, ?hyr3⟩) hHeld ?_
    case hyr3 => (intro wS hSw; (try dsimp only at hSw); go_simp; (first | done | with_reducible rfl))
    try simp only [Act.put, List.setIfInBounds_toArray, List.set_cons_zero, List.set_cons_succ]
    refine wpAnyH_take (i := 4) (oi := ⟨_, _, _, _, _, _⟩) (v := ?vr4) rfl (by kernel_rfl) (by kernel_rfl) (by kernel_rfl) (fun _ _ _ h => h) (Or.inl ⟨by rfl, ?hyr4⟩) hHeld ?_
    case hyr4 => (intro wS hSw; (try dsimp only at hSw); go_simp; (first | done | with_reducible rfl))
    try simp only [Act.put, List.setIfInBounds_toArray, List.set_cons_zero, List.set_cons_succ]
    refine wpAnyH_take (i := 5) (oi := ⟨_, _, _, _, _, _⟩) (v := ?vr5) rfl (by kernel_rfl) (by kernel_rfl) (by kernel_rfl) (fun _ _ _ h => h) (Or.inl ⟨by rfl, ?hyr5⟩) hHeld ?_
    case hyr5 => (intro wS hSw; (try dsimp only at hSw); go_simp; (first | done | with_reducible rfl))
    try simp only [Act.put, List.setIfInBounds_toArray, List.set_cons_zero, List.set_cons_succ]
    refine wpAnyH_take (i := 6) (oi := ⟨_, _, _, _, _, _⟩) (v := ?vr6) rfl (by kernel_rfl) (by kernel_rfl) (by kernel_rfl) (fun _ _ _ h => h) (Or.inl ⟨by rfl, ?hyr6⟩) hHeld ?_
    case hyr6 => (intro wS hSw; (try dsimp only at hSw); go_simp; (first | done | with_reducible rfl))
    try simp only [Act.put, List.setIfInBounds_toArray, List.set_cons_zero, List.set_cons_succ]
    refine wpAnyH_take (i := 7) (oi := ⟨_, _, _, _, _, _⟩) (v := ?vr7) rfl (by kernel_rfl) (by kernel_rfl) (by kernel_rfl) (fun _ _ _ h => h) (Or.inl ⟨by rfl, ?hyr7⟩) hHeld ?_
    case hyr7 => (intro wS hSw; (try dsimp only at hSw); go_simp; (first | done | with_reducible rfl))
    try simp only [Act.put, List.setIfInBounds_toArray, List.set_cons_zero, List.set_cons_succ]
    refine wpAnyH_take (i := 8) (oi := ⟨_, _, _, _, _, _⟩) (v := ?vr8) rfl (by kernel_rfl) (by kernel_rfl) (by kernel_rfl) (fun _ _ _ h => h) (Or.inl ⟨by rfl, ?hyr8⟩) hHeld ?_
    case hyr8 => (intro wS hSw; (try dsimp only at hSw); go_simp; (first | done | with_reducible rfl))
    try simp only [Act.put, List.setIfInBounds_toArray, List.set_cons_zero, List.set_cons_succ]
    refine wpAnyH_take (i := 9) (oi := ⟨_, _, _, _, _, _⟩) (v := ?vr9) rfl (by kernel_rfl) (by kernel_rfl) (by kernel_rfl) (fun _ _ _ h => h) (Or.inl ⟨by rfl, ?hyr9⟩) hHeld ?_
    case hyr9 => (intro wS hSw; (try dsimp only at hSw); go_simp; (first | done | with_reducible rfl))
    try simp only [Act.put, List.setIfInBounds_toArray, List.set_cons_zero, List.set_cons_succ]
    refine wpAnyH_take (i := 10) (oi := ⟨_, _, _, _, _, _⟩) (v := ?vr10) rfl (by kernel_rfl) (by kernel_rfl) (by kernel_rfl) (fun _ _ _ h => h) (Or.inl ⟨by rfl, ?hyr10⟩) hHeld ?_
    case hyr10 => (intro wS hSw; (try dsimp only at hSw); go_simp; (first | done | with_reducible rfl))
    try simp only [Act.put, List.setIfInBounds_toArray, List.set_cons_zero, List.set_cons_succ]
    refine wpAnyH_ready (rs := [11]) (by kernel_rfl) (by simp) ?_
    refine AllReadyH.cons (o := ⟨_, _, _, _, _, _⟩) rfl (fun K hK => ?_) AllReadyH.nil
    have c1 := C1.out
    go_simp
    clear c1
    refine hK.out _ _ ?kr11 (fun hNew => ?_)
    case kr11 => (try dsimp only); exact hHeld
    clear hK K hHeld
    have hHeld := hNew
    clear hNew
    try simp only [Act.put, List.setIfInBounds_toArray, List.set_cons_zero, List.set_cons_succ]
    refine wpAnyH_ready (rs := [12]) (by kernel_rfl) (by simp) ?_
    refine AllReadyH.cons (o := ⟨_, _, _, _, _, _⟩) rfl (fun K hK => ?_) AllReadyH.nil
    go_simp
    refine HWO.out.mono ?_
    rintro e w3 ⟨v3, rfl, hrow3, hg3, hnew3⟩
    obtain ⟨A3, n3, cap3, rfl⟩ := row_any hrow3
    have hp := HPUT.out _ _ hrow3 hg3 hnew3
    have HP := Lib.hid hp
    clear hp hrow3 hg3 hnew3 HWO
    go_wp2_with fail
    refine hK.out _ _ ?kr12 (fun hNew => ?_)
    case kr12 => (try dsimp only); exact HP.out.2.2.1
    clear hK K hHeld
    have hHeld := hNew
    clear hNew
    try simp only [Act.put, List.setIfInBounds_toArray, List.set_cons_zero, List.set_cons_succ]
    refine wpAnyH_take (i := 13) (oi := ⟨_, _, _, _, _, _⟩) (v := ?vr13) rfl (by kernel_rfl) (by kernel_rfl) (by kernel_rfl) (fun _ _ _ h => h) (Or.inl ⟨by rfl, ?hyr13⟩) hHeld ?_
    case hyr13 => (intro wS hSw; (try dsimp only at hSw); go_simp; (first | done | with_reducible rfl))
    try simp only [Act.put, List.setIfInBounds_toArray, List.set_cons_zero, List.set_cons_succ]
    refine wpAnyH_ready (rs := [14]) (by kernel_rfl) (by simp) ?_
    refine AllReadyH.cons (o := ⟨_, _, _, _, _, _⟩) rfl (fun K hK => ?_) AllReadyH.nil
    have c5 := HP.out.1
    have z5 := HP.out.2.1
    go_simp
    clear c5 z5
    refine hK.out _ _ ?kr14 (fun hNew => ?_)
    case kr14 => (try dsimp only); exact HP.out.2.2.2.1
    clear hK K hHeld
    have hHeld := hNew
    clear hNew
    try simp only [Act.put, List.setIfInBounds_toArray, List.set_cons_zero, List.set_cons_succ]
    refine wpAnyH_done (by kernel_rfl) ?_ _
    refine NoPanic.normal ?_
    obtain ⟨T', V', q1, q2, q3⟩ := HP.out.2.2.2.2
    have HQ := Lib.hid (And.intro q1 (And.intro q2 q3))
    obtain ⟨y, hy⟩ : ∃ y, y = w3.setCell ⟨xb, z, none⟩ (.slice A3 n3 cap3) := ⟨_, rfl⟩
    rw [← hy] at q1 q2 ⊢
    clear hy
    have hwlt : w.heap.size < w1.heap.size := by have := HS1.out; omega
    have hTw : ¬ T w.heap.size := fun ht => by have := HTL.out _ ht; omega
    have hTw' : ¬ T' w.heap.size := fun ht => by
      rcases q3 _ ht with e | e
      · exact hTw e
      · omega
    have hby : y.heap[w.heap.size]? = _ := (q2.off.block _ hwlt hTw).trans HB.out
    obtain ⟨gA', Aa', hva', hcella'⟩ := all_row q1.all
    have hall2 : (R.set (z + 1) ((R.row (z + 1)).eraseIdx 0)).all = R.all := rfl
    rw [hall2] at hva' hcella'
    obtain ⟨gA2, hgA2, a0, a1, a2⟩ := hcella' k p HP1.out.2.1
    rw [HVA.out] at hva'
    obtain rfl : gA2 = gA := by
      rw [hgA2] at hva'
      cases hva'
      rfl
    obtain ⟨capy, hnety, _⟩ := q1.net
    have c0 : y.cell? ⟨m, 0, none⟩ = some (.slice (some ⟨gA2, 0, none⟩) R.all.length capa) := by rw [← HVA.out]; simp only [World.cell?, hnety]; rfl
    have d0 : y.cell? ⟨w.heap.size, 0, none⟩ = some (.int .i64 0) := by simp only [World.cell?, hby]; rfl
    have d1 : y.cell? ⟨w.heap.size, 1, none⟩ = some (.int .i64 0) := by simp only [World.cell?, hby]; rfl
    have d2 : y.cell? ⟨w.heap.size, 2, none⟩ = some (.string ⟨#[]⟩) := by simp only [World.cell?, hby]; rfl
    have y0 : y.frozen? ⟨w.heap.size, 0, none⟩ = false := by simp only [World.frozen?, hby]; simp
    have y1 : y.frozen? ⟨w.heap.size, 1, none⟩ = false := by simp only [World.frozen?, hby]; simp
    have y2 : y.frozen? ⟨w.heap.size, 2, none⟩ = false := by simp only [World.frozen?, hby]; simp
    have f1 := heap_setCell_same _ w.heap.size 0 _ _ (.int .i64 p.src) hby
    have f2 := heap_setCell_same _ w.heap.size 1 _ _ (.int .i64 p.to) f1
    have f3 := heap_setCell_same _ w.heap.size 2 _ _ (strV p.b) f2
    have HRES := Lib.hid f3
    have hof : Off (fun b => b = w.heap.size) y (((y.setCell ⟨w.heap.size, 0, none⟩ (.int .i64 p.src)).setCell ⟨w.heap.size, 1, none⟩ (.int .i64 p.to)).setCell ⟨w.heap.size, 2, none⟩ (strV p.b)) :=
      (Off.cells ((((CellOff.set y w.heap.size 0 _).mono (fun _ _ _ h => h.1)).trans ((CellOff.set _ w.heap.size 1 _).mono (fun _ _ _ h => h.1))).trans ((CellOff.set _ w.heap.size 2 _).mono (fun _ _ _ h => h.1)) : CellOff (fun x _ => x = w.heap.size) y _)).mono (fun b _ hb => hb.elim (fun _ e => e))
    have hfin : RefIn (((y.setCell ⟨w.heap.size, 0, none⟩ (.int .i64 p.src)).setCell ⟨w.heap.size, 1, none⟩ (.int .i64 p.to)).setCell ⟨w.heap.size, 2, none⟩ (strV p.b)) T' m xb va V' (R.set (z + 1) ((R.row (z + 1)).eraseIdx 0)) := q1.other hof (fun b hb e => hTw' (e ▸ hb))
    have HFIN : Hid (RefIn (((y.setCell ⟨w.heap.size, 0, none⟩ (.int .i64 p.src)).setCell ⟨w.heap.size, 1, none⟩ (.int .i64 p.to)).setCell ⟨w.heap.size, 2, none⟩ (strV p.b)) T' m xb va V' (R.set (z + 1) ((R.row (z + 1)).eraseIdx 0)) ∧ RTurn T T' w (((y.setCell ⟨w.heap.size, 0, none⟩ (.int .i64 p.src)).setCell ⟨w.heap.size, 1, none⟩ (.int .i64 p.to)).setCell ⟨w.heap.size, 2, none⟩ (strV p.b))) := by
      have t1 := (RTurn.grown HTL.out HG.out).trans q2
      refine ⟨hfin, ⟨⟨hof.os.trans t1.off.os, hof.tape.trans t1.off.tape, hof.output.trans t1.off.output, Nat.le_trans t1.off.size hof.size, fun b hb hn => ?_⟩, t1.sub, hfin.lt⟩⟩
      exact (hof.block b (Nat.lt_of_lt_of_le hb t1.off.size) (show ¬ b = w.heap.size by omega)).trans (t1.off.block b hb hn)
    clear hHeld q1 q2 q3 hwlt hTw hTw' hby hcella' hall2 hva' hnety f1 f2 f3 hof hfin HQ HP
    go_wp2_with fail
    (try simp only [Exit.inBlock, Exit.then])
    refine bodyPost_ret (results_row_tmp rfl _ _ w.heap.size _ _ _ _ rfl HRES.out Try.underlying48 rfl (by kernel_rfl)) rfl ?_
    exact ⟨rfl, T', V', HFIN.out⟩
end Go.Proofs.Ytonfpifikblnjaa.Net
