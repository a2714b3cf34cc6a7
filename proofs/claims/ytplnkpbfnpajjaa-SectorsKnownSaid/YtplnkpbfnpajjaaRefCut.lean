/- The document's disk: Cut, Settle. -/
import Derived.Test.YtplnkpbfnpajjaaRefNew
namespace Go.Proofs.Ytplnkpbfnpajjaa.Sec
open Go.RowKit Go.Maps

section
variable {ops : Array Oper} {o : Oper} {a : Act} {w : World} {K : Act → World → Prop} {Q : Exit → Act → World → Prop} {E : Prop}
theorem step_append_str (hg : o.guard = none) (s x : Operand) (hop : o.op = Op.call { callee := Callee.builtin Builtin.append, args := #[s, x], argTypes := #[32, 32] })
    (B : Nat) (v : Value) (xs : List Value) (y : Value) (hy : y.oneCell' = true) (hown : StrRow w B v xs) (hs : a.eval s = v) (g : Nat) (hx : a.eval x = .slice (some ⟨g, 0, none⟩) 1 1) (hc : w.cell? ⟨g, 0, none⟩ = some y) (hb : xs.length < 100000) (hbase : B ≤ w.heap.size)
    (hK : ∀ v' w', StrRow w' B v' (xs ++ [y]) → w.grownBy w' v.ownBlock → K (a.put o.dst v') w') :
    if Region.wanted o (yielded ops a.tmps) = true then Oper.wp Try.prog o a w K Q else E := by
  obtain ⟨i0, hi0, he⟩ := Option.map_eq_some_iff.1 info_str
  simp only [Prod.mk.injEq] at he
  refine step_append_own hg s x 32 9 hop i0 _ 1 16 Try.underlying32 hi0 he.1 he.2.1 he.2.2 rfl (by decide) B v xs.length xs hown hs ⟨g, 0, none⟩ 1 1 [y] hx rfl ?_ ?_ (by unfold maxLen; omega) (by omega) hbase ?_
  · intro j z hj
    match j, hj with
    | 0, hj =>
      simp at hj
      subst hj
      simpa [Addr.add] using hc
  · intro z hz
    simp at hz
    subst hz
    exact hy
  · intro v' w' h1 h2 _
    refine hK v' w' ?_ h2
    unfold StrRow
    rw [List.length_append]
    exact h1
end

set_option maxRecDepth 100000 in
set_option maxHeartbeats 4000000 in
theorem rcut_at (S : Nat → Prop) (m : Nat) (D : Dsk) (q : Int) (w : World) (h : RefAt w S m D) :
    Calls Try.prog 16 #[.pointer (some ⟨m, 0, none⟩), .int .i64 q] w fun e w' => ∃ c, e = .returned (.pointer (some ⟨c, 0, none⟩)) ∧ RefAt w' (fun b => w.heap.size ≤ b) c (D.cut q) ∧ Off (fun _ => False) w w' := by
  have H := Lib.hid (h.mono (T := fun b => b < w.heap.size) (fun k hk _ => hk))
  obtain ⟨h1, h2, sb0, sl, inn, hm, hS, hb, hbS, hl, hlS, ha⟩ := h
  obtain ⟨A, cap, rfl, hcap, _⟩ := str_slice hb
  obtain ⟨L, capl, rfl, hlcap, _⟩ := ref_slice hl
  rw [tellV_length] at hm hcap
  unfold Dsk.cut
  obtain ⟨kk, hkk⟩ : ∃ kk : Nat, (kk : Int) = max 0 (min (D.wr.length : Int) q) := ⟨(max 0 (min (D.wr.length : Int) q)).toNat, by omega⟩
  obtain ⟨mi, hmi⟩ : ∃ mi : Int, mi = min (D.wr.length : Int) q := ⟨_, rfl⟩
  have hmn' : ∀ (w : World) (ts : Array TypeId) (t : TypeId), (Builtin.min_ ts t #[.int .i64 (D.wr.length : Int), .int .i64 q]).run Try.prog w = .ok (.int .i64 mi) w := fun w ts t => by
    rw [run_min_int2]
    congr 2
    split <;> omega
  have hmx : ∀ (w : World) (ts : Array TypeId) (t : TypeId), (Builtin.max_ ts t #[.int .i64 0, .int .i64 mi]).run Try.prog w = .ok (.int .i64 (kk : Int)) w := fun w ts t => by
    rw [run_max_int2]
    congr 2
    split <;> omega
  have hkn : kk ≤ D.wr.length := by omega
  rw [← hkk, Int.toNat_natCast]
  obtain ⟨f, hf⟩ : ∃ f, f = behind D.base (D.wr.take kk) := ⟨_, rfl⟩
  rw [← hf]
  have HF := Lib.hid hf
  have hmlt := (Array.getElem?_eq_some_iff.1 hm).1
  obtain ⟨c, hcq⟩ : ∃ c, c = w.heap.size := ⟨_, rfl⟩
  have hb0 := (MapKept.heap_alloc w (.cells #[.slice none 0 0, .slice none 0 0, .bool false, .int .i64 0, .bool false] 61)).1
  have hga := World.grownBy_alloc w (.cells #[.slice none 0 0, .slice none 0 0, .bool false, .int .i64 0, .bool false] 61) none
  have hm1 := (hga.block m hmlt (by simp)).trans hm
  have c1 : (w.alloc (.cells #[.slice none 0 0, .slice none 0 0, .bool false, .int .i64 0, .bool false] 61)).cell? ⟨m, 1, none⟩ = some (.slice L D.wr.length capl) := cell_blk hm1 1
  have HB0 := Lib.hid (And.intro hb0 hga)
  have HM := Lib.hid hm
  have HCQ := Lib.hid hcq
  have HMLT := Lib.hid hmlt
  clear hb hl hkk hmi hf hb0 hga hm1 hm hmlt
  go_enter Try.func16, Try.ntmps16
  go_wp2_with fail
  obtain ⟨hb0, hga⟩ := HB0.out
  rw [← hcq] at hb0 ⊢
  have HO0 := Lib.hid (Off.of_grown (S := fun b => w.heap.size ≤ b) hga (by simp))
  generalize w.alloc (.cells #[.slice none 0 0, .slice none 0 0, .bool false, .int .i64 0, .bool false] 61) = w1 at hb0 HO0 ⊢
  have HBB0 := Lib.hid hb0
  clear hb0 hga HB0 c1 hcq
  go_loopw [6] (fun iv wr => ∃ (k : Nat) (sb : Value), k ≤ D.n ∧ iv = .int .i64 (k : Int) ∧ wr.heap[c]? = some (.cells #[sb, .slice none 0 0, .bool false, .int .i64 0, .bool false] 61) ∧ StrRow wr w.heap.size sb (tellV f k) ∧ Off (fun b => w.heap.size ≤ b) w wr) (fun iv _ => D.n - (intOf iv).toNat)
  case atStart => exact ⟨0, _, Nat.zero_le _, rfl, HBB0.out, World.ownsRow_nil _ _ _ _, HO0.out⟩
  case round =>
    obtain ⟨k, sb, hk, rfl, hmc, hrow, hoff⟩ := hrel
    have HMC := Lib.hid hmc
    have HROW := Lib.hid hrow
    have HOFF := Lib.hid hoff
    have hmr := (hoff.block m HMLT.out (by have := HMLT.out; omega)).trans HM.out
    have c0 : wr.cell? ⟨m, 0, none⟩ = some (.slice A D.n cap) := cell_blk hmr 0
    by_cases hlt : k < D.n
    · have hd1 : decide ((k : Int) < (D.n : Int)) = true := by simp; omega
      obtain ⟨A1, n1, cap1, hsb⟩ := row_shape' hrow
      have c0x : wr.drew.cell? ⟨c, 0, none⟩ = some sb := cell_blk (w := wr.drew) hmc 0
      have c0w : wr.cell? ⟨c, 0, none⟩ = some sb := cell_blk hmc 0
      have hgA := drew_alloc_grown wr (.cells #[strV (f k)] 9) none
      have c0z : (wr.alloc (.cells #[strV (f k)] 9)).cell? ⟨c, 0, none⟩ = some sb := cell_blk (w := wr.alloc (.cells #[strV (f k)] 9)) (((World.grownBy_alloc wr _ none).block c (Array.getElem?_eq_some_iff.1 hmc).1 (by simp)).trans hmc) 0
      have HR2 : Hid (StrRow (wr.drew.alloc (.cells #[strV (f k)] 9)) w.heap.size sb (tellV f k)) := row_off (S := fun _ => False) hrow (Off.of_grown hgA (by simp)) (fun _ _ h => h)
      have HCN : Hid ((wr.drew.alloc (.cells #[strV (f k)] 9)).cell? ⟨wr.heap.size, 0, none⟩ = some (strV (f k))) := cell_new wr.drew #[strV (f k)] 9 0
      have HLEN : Hid ((tellV f k).length < 100000) := by show _ < _; rw [tellV_length]; omega
      have HBB : Hid (w.heap.size ≤ (wr.drew.alloc (.cells #[strV (f k)] 9)).heap.size) := Nat.le_trans hoff.size hgA.size
      have HPUSH : Hid (∀ v2 w5, StrRow w5 w.heap.size v2 (tellV f k ++ [strV (f k)]) → (wr.drew.alloc (.cells #[strV (f k)] 9)).grownBy w5 sb.ownBlock → _) := fun v2 w5 h5 hg5 => fld_push (j := 0) (v2 := v2) hmc hrow (by decide) hgA h5 hg5
      have hat := rat_at _ m k kk D wr.drew ((H.out.off hoff (fun k _ h => by omega)).grown (drew_grown wr none)) hlt hkn
      rw [← HF.out] at hat
      have HAT := Lib.hid hat
      clear hmc hrow hoff hgA hat hmr
      clear hsb
      go_wp2_with fail
      refine wp_region_noPanic ?_
      refine wp_region_held_drew (S := fun _ => True) (by kernel_rfl) ?hSa (fun hHeld => ?_)
      case hSa => trivial
      refine wpAnyH_take (i := 0) (oi := ⟨_, _, _, _, _, _⟩) (v := ?va0) rfl (by kernel_rfl) (by kernel_rfl) (by kernel_rfl) (fun _ _ _ h => h) (Or.inl ⟨by rfl, ?hya0⟩) hHeld ?_
      case hya0 => (intro wS hSw; (try dsimp only at hSw); go_simp; (first | done | with_reducible rfl))
      try simp only [Act.put, List.setIfInBounds_toArray, List.set_cons_zero, List.set_cons_succ]
      refine wpAnyH_take (i := 1) (oi := ⟨_, _, _, _, _, _⟩) (v := ?va1) rfl (by kernel_rfl) (by kernel_rfl) (by kernel_rfl) (fun _ _ _ h => h) (Or.inl ⟨by rfl, ?hya1⟩) hHeld ?_
      case hya1 => (intro wS hSw; (try dsimp only at hSw); go_simp; (first | done | with_reducible rfl))
      try simp only [Act.put, List.setIfInBounds_toArray, List.set_cons_zero, List.set_cons_succ]
      refine wpAnyH_take (i := 2) (oi := ⟨_, _, _, _, _, _⟩) (v := ?va2) rfl (by kernel_rfl) (by kernel_rfl) (by kernel_rfl) (fun _ _ _ h => h) (Or.inl ⟨by rfl, ?hya2⟩) hHeld ?_
      case hya2 => (intro wS hSw; (try dsimp only at hSw); go_simp; (first | done | with_reducible rfl))
      try simp only [Act.put, List.setIfInBounds_toArray, List.set_cons_zero, List.set_cons_succ]
      refine wpAnyH_take (i := 3) (oi := ⟨_, _, _, _, _, _⟩) (v := ?va3) rfl (by kernel_rfl) (by kernel_rfl) (by kernel_rfl) (fun _ _ _ h => h) (Or.inl ⟨by rfl, ?hya3⟩) hHeld ?_
      case hya3 => (intro wS hSw; (try dsimp only at hSw); go_simp; (first | done | with_reducible rfl))
      try simp only [Act.put, List.setIfInBounds_toArray, List.set_cons_zero, List.set_cons_succ]
      refine wpAnyH_take (i := 5) (oi := ⟨_, _, _, _, _, _⟩) (v := ?va5) rfl (by kernel_rfl) (by kernel_rfl) (by kernel_rfl) (fun _ _ _ h => h) (Or.inl ⟨by rfl, ?hya5⟩) hHeld ?_
      case hya5 => (intro wS hSw; (try dsimp only at hSw); go_simp; (first | done | with_reducible rfl))
      try simp only [Act.put, List.setIfInBounds_toArray, List.set_cons_zero, List.set_cons_succ]
      refine wpAnyH_take (i := 6) (oi := ⟨_, _, _, _, _, _⟩) (v := ?va6) rfl (by kernel_rfl) (by kernel_rfl) (by kernel_rfl) (fun _ _ _ h => h) (Or.inl ⟨by rfl, ?hya6⟩) hHeld ?_
      case hya6 => (intro wS hSw; (try dsimp only at hSw); go_simp; (first | done | with_reducible rfl))
      try simp only [Act.put, List.setIfInBounds_toArray, List.set_cons_zero, List.set_cons_succ]
      refine wpAnyH_take (i := 7) (oi := ⟨_, _, _, _, _, _⟩) (v := ?va7) rfl (by kernel_rfl) (by kernel_rfl) (by kernel_rfl) (fun _ _ _ h => h) (Or.inl ⟨by rfl, ?hya7⟩) hHeld ?_
      case hya7 => (intro wS hSw; (try dsimp only at hSw); go_simp; (first | done | with_reducible rfl))
      try simp only [Act.put, List.setIfInBounds_toArray, List.set_cons_zero, List.set_cons_succ]
      refine wpAnyH_ready (rs := [4, 8]) (by kernel_rfl) (by simp) ?_
      refine AllReadyH.cons (o := ⟨_, _, _, _, _, _⟩) rfl (fun K hK => ?_) (AllReadyH.cons (o := ⟨_, _, _, _, _, _⟩) rfl (fun K hK => ?_) AllReadyH.nil)
      · go_simp
        refine hK.out _ _ ?kax4 (fun hNew => ?_)
        case kax4 => (try dsimp only); all_goals trivial
        clear hK K hHeld
        have hHeld := hNew
        clear hNew
        try simp only [Act.put, List.setIfInBounds_toArray, List.set_cons_zero, List.set_cons_succ]
        refine wpAnyH_ready (rs := [8]) (by kernel_rfl) (by simp) ?_
        refine AllReadyH.cons (o := ⟨_, _, _, _, _, _⟩) rfl (fun K hK => ?_) AllReadyH.nil
        go_simp
        refine HAT.out.mono ?_
        rintro e v ⟨rfl, rfl⟩
        go_wp2_with fail
        refine hK.out _ _ ?kax8 (fun hNew => ?_)
        case kax8 => (try dsimp only); all_goals trivial
        clear hK K hHeld
        have hHeld := hNew
        clear hNew
        try simp only [Act.put, List.setIfInBounds_toArray, List.set_cons_zero, List.set_cons_succ]
        refine wpAnyH_ready (rs := [9]) (by kernel_rfl) (by simp) ?_
        refine AllReadyH.cons (o := ⟨_, _, _, _, _, _⟩) rfl (fun K hK => ?_) AllReadyH.nil
        go_simp
        refine hK.out _ _ ?kax9 (fun hNew => ?_)
        case kax9 => (try dsimp only); all_goals trivial
        clear hK K hHeld
        have hHeld := hNew
        clear hNew
        try simp only [Act.put, List.setIfInBounds_toArray, List.set_cons_zero, List.set_cons_succ]
        refine wpAnyH_ready (rs := [10]) (by kernel_rfl) (by simp) ?_
        refine AllReadyH.cons (o := ⟨_, _, _, _, _, _⟩) rfl (fun K hK => ?_) AllReadyH.nil
        refine step_append_str rfl (.tmp 30) (.tmp 35) rfl w.heap.size sb _ (strV (f k)) rfl HR2.out rfl wr.heap.size rfl HCN.out HLEN.out HBB.out ?_
        intro v2 w5 h5 hg5
        obtain ⟨A2, nn2, cap2, rfl⟩ := row_shape' h5
        have hp := HPUSH.out _ w5 h5 hg5
        have z0 := frozen_blk hp.1 0
        have e0 := cell_blk hp.1 0
        have HP := Lib.hid hp
        clear hp h5 hg5
        refine hK.out _ _ ?kax10 (fun hNew => ?_)
        case kax10 => (try dsimp only); all_goals trivial
        clear hK K hHeld
        have hHeld := hNew
        clear hNew
        try simp only [Act.put, List.setIfInBounds_toArray, List.set_cons_zero, List.set_cons_succ]
        refine wpAnyH_take (i := 11) (oi := ⟨_, _, _, _, _, _⟩) (v := ?vax11) rfl (by kernel_rfl) (by kernel_rfl) (by kernel_rfl) (fun _ _ _ h => h) (Or.inl ⟨by rfl, ?hyax11⟩) hHeld ?_
        case hyax11 => (intro wS hSw; (try dsimp only at hSw); go_simp; (first | done | with_reducible rfl))
        try simp only [Act.put, List.setIfInBounds_toArray, List.set_cons_zero, List.set_cons_succ]
        refine wpAnyH_take (i := 12) (oi := ⟨_, _, _, _, _, _⟩) (v := ?vax12) rfl (by kernel_rfl) (by kernel_rfl) (by kernel_rfl) (fun _ _ _ h => h) (Or.inl ⟨by rfl, ?hyax12⟩) hHeld ?_
        case hyax12 => (intro wS hSw; (try dsimp only at hSw); go_simp; (first | done | with_reducible rfl))
        try simp only [Act.put, List.setIfInBounds_toArray, List.set_cons_zero, List.set_cons_succ]
        refine wpAnyH_ready (rs := [13]) (by kernel_rfl) (by simp) ?_
        refine AllReadyH.cons (o := ⟨_, _, _, _, _, _⟩) rfl (fun K hK => ?_) AllReadyH.nil
        go_simp
        refine hK.out _ _ ?kax13 (fun hNew => ?_)
        case kax13 => (try dsimp only); all_goals trivial
        clear hK K hHeld
        have hHeld := hNew
        clear hNew
        try simp only [Act.put, List.setIfInBounds_toArray, List.set_cons_zero, List.set_cons_succ]
        refine wpAnyH_done (by kernel_rfl) ?_ _
        refine NoPanic.normal ?_
        obtain ⟨_, hm6, hr6, ho6⟩ := HP.out
        clear hHeld HP z0 e0
        go_wp2_with fail
        go_roundw
        case rel =>
          refine ⟨k + 1, _, hlt, by go_num, hm6, by rw [tellV_succ]; exact hr6, HOFF.out.trans (ho6 _ (by have := HCQ.out; show w.heap.size ≤ c; omega) (fun g hg => (HROW.out.lt g hg).1))⟩
        case measure => simp [intOf]; omega
      · go_simp
        refine HAT.out.mono ?_
        rintro e v ⟨rfl, rfl⟩
        go_wp2_with fail
        refine hK.out _ _ ?kaw8 (fun hNew => ?_)
        case kaw8 => (try dsimp only); all_goals trivial
        clear hK K hHeld
        have hHeld := hNew
        clear hNew
        try simp only [Act.put, List.setIfInBounds_toArray, List.set_cons_zero, List.set_cons_succ]
        refine wpAnyH_ready (rs := [4, 9]) (by kernel_rfl) (by simp) ?_
        refine AllReadyH.cons (o := ⟨_, _, _, _, _, _⟩) rfl (fun K hK => ?_) (AllReadyH.cons (o := ⟨_, _, _, _, _, _⟩) rfl (fun K hK => ?_) AllReadyH.nil)
        · go_simp
          refine hK.out _ _ ?kay4 (fun hNew => ?_)
          case kay4 => (try dsimp only); all_goals trivial
          clear hK K hHeld
          have hHeld := hNew
          clear hNew
          try simp only [Act.put, List.setIfInBounds_toArray, List.set_cons_zero, List.set_cons_succ]
          refine wpAnyH_ready (rs := [9]) (by kernel_rfl) (by simp) ?_
          refine AllReadyH.cons (o := ⟨_, _, _, _, _, _⟩) rfl (fun K hK => ?_) AllReadyH.nil
          go_simp
          refine hK.out _ _ ?kay9 (fun hNew => ?_)
          case kay9 => (try dsimp only); all_goals trivial
          clear hK K hHeld
          have hHeld := hNew
          clear hNew
          try simp only [Act.put, List.setIfInBounds_toArray, List.set_cons_zero, List.set_cons_succ]
          refine wpAnyH_ready (rs := [10]) (by kernel_rfl) (by simp) ?_
          refine AllReadyH.cons (o := ⟨_, _, _, _, _, _⟩) rfl (fun K hK => ?_) AllReadyH.nil
          refine step_append_str rfl (.tmp 30) (.tmp 35) rfl w.heap.size sb _ (strV (f k)) rfl HR2.out rfl wr.heap.size rfl HCN.out HLEN.out HBB.out ?_
          intro v2 w5 h5 hg5
          obtain ⟨A2, nn2, cap2, rfl⟩ := row_shape' h5
          have hp := HPUSH.out _ w5 h5 hg5
          have z0 := frozen_blk hp.1 0
          have e0 := cell_blk hp.1 0
          have HP := Lib.hid hp
          clear hp h5 hg5
          refine hK.out _ _ ?kay10 (fun hNew => ?_)
          case kay10 => (try dsimp only); all_goals trivial
          clear hK K hHeld
          have hHeld := hNew
          clear hNew
          try simp only [Act.put, List.setIfInBounds_toArray, List.set_cons_zero, List.set_cons_succ]
          refine wpAnyH_take (i := 11) (oi := ⟨_, _, _, _, _, _⟩) (v := ?vay11) rfl (by kernel_rfl) (by kernel_rfl) (by kernel_rfl) (fun _ _ _ h => h) (Or.inl ⟨by rfl, ?hyay11⟩) hHeld ?_
          case hyay11 => (intro wS hSw; (try dsimp only at hSw); go_simp; (first | done | with_reducible rfl))
          try simp only [Act.put, List.setIfInBounds_toArray, List.set_cons_zero, List.set_cons_succ]
          refine wpAnyH_take (i := 12) (oi := ⟨_, _, _, _, _, _⟩) (v := ?vay12) rfl (by kernel_rfl) (by kernel_rfl) (by kernel_rfl) (fun _ _ _ h => h) (Or.inl ⟨by rfl, ?hyay12⟩) hHeld ?_
          case hyay12 => (intro wS hSw; (try dsimp only at hSw); go_simp; (first | done | with_reducible rfl))
          try simp only [Act.put, List.setIfInBounds_toArray, List.set_cons_zero, List.set_cons_succ]
          refine wpAnyH_ready (rs := [13]) (by kernel_rfl) (by simp) ?_
          refine AllReadyH.cons (o := ⟨_, _, _, _, _, _⟩) rfl (fun K hK => ?_) AllReadyH.nil
          go_simp
          refine hK.out _ _ ?kay13 (fun hNew => ?_)
          case kay13 => (try dsimp only); all_goals trivial
          clear hK K hHeld
          have hHeld := hNew
          clear hNew
          try simp only [Act.put, List.setIfInBounds_toArray, List.set_cons_zero, List.set_cons_succ]
          refine wpAnyH_done (by kernel_rfl) ?_ _
          refine NoPanic.normal ?_
          obtain ⟨_, hm6, hr6, ho6⟩ := HP.out
          clear hHeld HP z0 e0
          go_wp2_with fail
          go_roundw
          case rel =>
            refine ⟨k + 1, _, hlt, by go_num, hm6, by rw [tellV_succ]; exact hr6, HOFF.out.trans (ho6 _ (by have := HCQ.out; show w.heap.size ≤ c; omega) (fun g hg => (HROW.out.lt g hg).1))⟩
          case measure => simp [intOf]; omega
        · go_simp
          refine hK.out _ _ ?kaz9 (fun hNew => ?_)
          case kaz9 => (try dsimp only); all_goals trivial
          clear hK K hHeld
          have hHeld := hNew
          clear hNew
          try simp only [Act.put, List.setIfInBounds_toArray, List.set_cons_zero, List.set_cons_succ]
          refine wpAnyH_ready (rs := [4]) (by kernel_rfl) (by simp) ?_
          refine AllReadyH.cons (o := ⟨_, _, _, _, _, _⟩) rfl (fun K hK => ?_) AllReadyH.nil
          go_simp
          refine hK.out _ _ ?kaz4 (fun hNew => ?_)
          case kaz4 => (try dsimp only); all_goals trivial
          clear hK K hHeld
          have hHeld := hNew
          clear hNew
          try simp only [Act.put, List.setIfInBounds_toArray, List.set_cons_zero, List.set_cons_succ]
          refine wpAnyH_ready (rs := [10]) (by kernel_rfl) (by simp) ?_
          refine AllReadyH.cons (o := ⟨_, _, _, _, _, _⟩) rfl (fun K hK => ?_) AllReadyH.nil
          refine step_append_str rfl (.tmp 30) (.tmp 35) rfl w.heap.size sb _ (strV (f k)) rfl HR2.out rfl wr.heap.size rfl HCN.out HLEN.out HBB.out ?_
          intro v2 w5 h5 hg5
          obtain ⟨A2, nn2, cap2, rfl⟩ := row_shape' h5
          have hp := HPUSH.out _ w5 h5 hg5
          have z0 := frozen_blk hp.1 0
          have e0 := cell_blk hp.1 0
          have HP := Lib.hid hp
          clear hp h5 hg5
          refine hK.out _ _ ?kaz10 (fun hNew => ?_)
          case kaz10 => (try dsimp only); all_goals trivial
          clear hK K hHeld
          have hHeld := hNew
          clear hNew
          try simp only [Act.put, List.setIfInBounds_toArray, List.set_cons_zero, List.set_cons_succ]
          refine wpAnyH_take (i := 11) (oi := ⟨_, _, _, _, _, _⟩) (v := ?vaz11) rfl (by kernel_rfl) (by kernel_rfl) (by kernel_rfl) (fun _ _ _ h => h) (Or.inl ⟨by rfl, ?hyaz11⟩) hHeld ?_
          case hyaz11 => (intro wS hSw; (try dsimp only at hSw); go_simp; (first | done | with_reducible rfl))
          try simp only [Act.put, List.setIfInBounds_toArray, List.set_cons_zero, List.set_cons_succ]
          refine wpAnyH_take (i := 12) (oi := ⟨_, _, _, _, _, _⟩) (v := ?vaz12) rfl (by kernel_rfl) (by kernel_rfl) (by kernel_rfl) (fun _ _ _ h => h) (Or.inl ⟨by rfl, ?hyaz12⟩) hHeld ?_
          case hyaz12 => (intro wS hSw; (try dsimp only at hSw); go_simp; (first | done | with_reducible rfl))
          try simp only [Act.put, List.setIfInBounds_toArray, List.set_cons_zero, List.set_cons_succ]
          refine wpAnyH_ready (rs := [13]) (by kernel_rfl) (by simp) ?_
          refine AllReadyH.cons (o := ⟨_, _, _, _, _, _⟩) rfl (fun K hK => ?_) AllReadyH.nil
          go_simp
          refine hK.out _ _ ?kaz13 (fun hNew => ?_)
          case kaz13 => (try dsimp only); all_goals trivial
          clear hK K hHeld
          have hHeld := hNew
          clear hNew
          try simp only [Act.put, List.setIfInBounds_toArray, List.set_cons_zero, List.set_cons_succ]
          refine wpAnyH_done (by kernel_rfl) ?_ _
          refine NoPanic.normal ?_
          obtain ⟨_, hm6, hr6, ho6⟩ := HP.out
          clear hHeld HP z0 e0
          go_wp2_with fail
          go_roundw
          case rel =>
            refine ⟨k + 1, _, hlt, by go_num, hm6, by rw [tellV_succ]; exact hr6, HOFF.out.trans (ho6 _ (by have := HCQ.out; show w.heap.size ≤ c; omega) (fun g hg => (HROW.out.lt g hg).1))⟩
          case measure => simp [intOf]; omega
    · obtain rfl : k = D.n := by omega
      have hd1 : decide (D.n < D.n) = false := by simp
      have HEND : Hid (RefAt wr (fun b => w.heap.size ≤ b) c ⟨D.n, f, f, [], none, false⟩) :=
        ⟨h1, by show (0 : Nat) < _; omega, sb, .slice none 0 0, 0, hmc, by have := HCQ.out; show w.heap.size ≤ c; omega, row_base hrow, fun g hg => (hrow.lt g hg).1, World.ownsRow_nil _ _ _ _, by simp [Value.ownBlock], fun k hk => by cases hk⟩
      clear hmc hrow hoff hmr hlt
      go_wp2_with fail
      go_ret
      exact ⟨c, rfl, HEND.out, HOFF.out.mono (fun k hk h => by omega)⟩

set_option maxRecDepth 100000 in
set_option maxHeartbeats 4000000 in
theorem rsettle_at (S : Nat → Prop) (m : Nat) (D : Dsk) (w : World) (h : RefAt w S m D) (hS : ∀ b, w.heap.size ≤ b → S b) (hf : Full D) :
    Calls Try.prog 35 #[.pointer (some ⟨m, 0, none⟩)] w fun e w' => e = .returned (.tuple #[]) ∧ RefAt w' S m { D with base := D.now, wr := [] } ∧ Off S w w' := by
  have HCUT := Lib.hid (rcut_at S m D (D.wr.length : Int) w h)
  obtain ⟨h1, h2, sb, sl, inn, hm, hSm, hb, hbS, hl, hlS, ha⟩ := h
  obtain ⟨L, capl, rfl, hlcap, _⟩ := ref_slice hl
  have c1 : w.cell? ⟨m, 1, none⟩ = some (.slice L D.wr.length capl) := cell_blk hm 1
  have HM := Lib.hid hm
  have HF := Lib.hid hf
  clear hm hb hl hf
  go_enter Try.func35, Try.ntmps35
  go_wp2_with fail
  refine HCUT.out.mono ?_
  rintro e w1 ⟨c, rfl, hrc, ho⟩
  obtain ⟨_, _, sb2, sl2, inn2, hm2, hSc, hb2, hbS2, _⟩ := hrc
  have hm1 := (ho.none.block m (Array.getElem?_eq_some_iff.1 HM.out).1 (by simp)).trans HM.out
  have cc : w1.cell? ⟨c, 0, none⟩ = some sb2 := cell_blk hm2 0
  have cm := cell_blk hm1 0
  have zm := frozen_blk hm1 0
  have zm1 := frozen_blk hm1 1
  obtain ⟨A2, n2, cap2, hsb2⟩ := row_shape' hb2
  subst hsb2
  obtain ⟨hma, hga⟩ := ref_set (j := 0) (v := .slice A2 n2 cap2) hm1 rfl
  have cma := cell_blk hma 1
  have zma := frozen_blk hma 1
  have HM1 := Lib.hid hm1
  have HB2 := Lib.hid (And.intro hb2 hbS2)
  have HO := Lib.hid ho
  clear hm1 hm2 hb2 hbS2 ho hma hga HCUT
  go_wp2_with fail
  go_end0
  obtain ⟨hma, hga⟩ := ref_set (j := 0) (v := .slice A2 n2 cap2) HM1.out rfl
  obtain ⟨hmb, hgb⟩ := ref_set (j := 1) (v := .slice none 0 0) hma rfl
  have hg := grown_trans hga hgb
  obtain ⟨hb2, hbS2⟩ := HB2.out
  have hbase : (D.cut (D.wr.length : Int)).base = D.now := by
    show behind D.base (D.wr.take _) = _
    rw [show (max 0 (min (D.wr.length : Int) (D.wr.length : Int))).toNat = D.wr.length by omega, List.take_length]
    exact HF.out.symm
  rw [hbase] at hb2
  refine ⟨rfl, ⟨h1, by show (0 : Nat) < _; omega, .slice A2 n2 cap2, .slice none 0 0, inn, hmb, hSm, ref_kept hb2 HM1.out (by decide) hg, fun g hg => hS g (hbS2 g hg), World.ownsRow_nil _ _ _ _, by simp [Value.ownBlock], ha⟩, ?_⟩
  exact (HO.out.mono (fun _ _ h => h.elim)).trans (grown_off hg hSm)

theorem info_rw : (Try.prog.info? 69).map (fun i => (i.zero, i.size, i.bytes)) = some (some (.agg #[.int .i64 0, .string ByteArray.empty]), 2, 24) := by kernel_rfl
section
variable {ops : Array Oper} {o : Oper} {a : Act} {w : World} {K : Act → World → Prop} {Q : Exit → Act → World → Prop} {E : Prop}
theorem step_append_ref (hg : o.guard = none) (s x : Operand) (hop : o.op = Op.call { callee := Callee.builtin Builtin.append, args := #[s, x], argTypes := #[59, 59] })
    (v : Value) (wr : List (Nat × List UInt8)) (i : Nat) (y : List UInt8) (hs : a.eval s = v) (hown : w.ownsRow 0 69 2 v wr.length (refRows wr)) (g : Nat) (hx : a.eval x = .slice (some ⟨g, 0, none⟩) 1 1) (hc : w.cell? ⟨g, 0, none⟩ = some (.int .i64 (i : Int))) (hc1 : w.cell? ⟨g, 1, none⟩ = some (strV y)) (hb : wr.length < 1000000)
    (hK : ∀ v' w', w'.ownsRow 0 69 2 v' (wr.length + 1) (refRows wr ++ [.int .i64 (i : Int), strV y]) → w.grownBy w' v.ownBlock → (v'.ownBlock = v.ownBlock ∨ v'.ownBlock = some w.heap.size) → K (a.put o.dst v') w') :
    if Region.wanted o (yielded ops a.tmps) = true then Oper.wp Try.prog o a w K Q else E := by
  obtain ⟨i0, hi0, he⟩ := Option.map_eq_some_iff.1 info_rw
  simp only [Prod.mk.injEq] at he
  refine step_append_own hg s x 59 69 hop i0 _ 2 24 Try.underlying59 hi0 he.1 he.2.1 he.2.2 rfl (by decide) 0 v wr.length _ hown hs ⟨g, 0, none⟩ 1 1 [.int .i64 (i : Int), strV y] hx rfl ?_ ?_ (by unfold maxLen; omega) (by omega) (Nat.zero_le _) hK
  · intro j z hj
    match j, hj with
    | 0, hj =>
      simp at hj
      subst hj
      simpa [Addr.add] using hc
    | 1, hj =>
      simp at hj
      subst hj
      simpa [Addr.add] using hc1
  · intro z hz
    simp at hz
    rcases hz with rfl | rfl <;> rfl
end
/-- The writes, one longer. -/
theorem ref_pushed {W0 v w5 : World} {S : Nat → Prop} {m i : Nat} {D : Dsk} {x : List UInt8} {sb sl x2 x3 x4 v2 : Value} (h : RefAt W0 S m D) (hm : W0.heap[m]? = some (.cells #[sb, sl, x2, x3, x4] 61)) (hS : ∀ b, W0.heap.size ≤ b → S b) (hn : D.wr.length + 1 < 1000000)
    (hg : W0.grownBy v none) (h5 : w5.ownsRow 0 69 2 v2 (D.wr.length + 1) (refRows D.wr ++ [.int .i64 (i : Int), strV x])) (hg5 : (v.alloc (.cells #[.int .i64 (i : Int), strV x] 69)).grownBy w5 sl.ownBlock) (hob : v2.ownBlock = sl.ownBlock ∨ v2.ownBlock = some (v.alloc (.cells #[.int .i64 (i : Int), strV x] 69)).heap.size) :
    w5.heap[m]? = some (.cells #[sb, sl, x2, x3, x4] 61) ∧ RefAt (w5.setCell ⟨m, 1, none⟩ v2) S m (D.push i x) ∧ Off S W0 (w5.setCell ⟨m, 1, none⟩ v2) := by
  obtain ⟨h1, h2, sb', sl', inn, hm', hSm, hb, hbS, hl, hlS, ha⟩ := h
  rw [hm] at hm'
  simp only [Option.some.injEq, Obj.cells.injEq, Array.mk.injEq, List.cons.injEq, and_true] at hm'
  obtain ⟨rfl, rfl, rfl, rfl, rfl⟩ := hm'
  have hg4 := hg.andThen (World.grownBy_alloc v (.cells #[.int .i64 (i : Int), strV x] 69) none) (fun _ hj => .inr hj)
  obtain ⟨p1, p2, p3, p4⟩ := fld_push (j := 1) (v2 := v2) hm hl (by decide) hg4 h5 hg5
  have ho := p4 S hSm hlS
  refine ⟨p1, ⟨h1, by show (D.wr ++ [(i, x)]).length < _; rw [List.length_append]; simp; omega, sb, v2, inn, p2, hSm, ?_, hbS, ?_, ?_, ha⟩, ho⟩
  · refine row_off hb (p4 (fun b => b = m ∨ sl.ownBlock = some b) (.inl rfl) (fun g hg => .inr hg)) ?_
    rintro g hg (rfl | hg')
    · obtain ⟨cur, hc⟩ := row_blk hb hg
      rw [hm] at hc
      injection hc with hc
      injection hc with _ hc
      exact absurd hc (by decide)
    · exact rows_apart hb hl (by decide) hg hg'
  · show World.ownsRow _ 0 _ 2 v2 (D.wr ++ [(i, x)]).length (refRows (D.wr ++ [(i, x)]))
    rw [List.length_append]
    simpa [refRows] using p3
  · intro g hg'
    rcases hob with e | e
    · exact hlS g (e ▸ hg')
    · rw [e] at hg'
      cases hg'
      exact hS _ hg4.size
theorem ref_rows {W0 : World} {S : Nat → Prop} {m : Nat} {D : Dsk} {sb sl x2 x3 x4 : Value} (h : RefAt W0 S m D) (hm : W0.heap[m]? = some (.cells #[sb, sl, x2, x3, x4] 61)) (v : World) (hg : W0.grownBy v none) (o : Obj) :
    (v.alloc o).ownsRow 0 69 2 sl D.wr.length (refRows D.wr) ∧ v.cell? ⟨m, 1, none⟩ = some sl ∧ (v.alloc o).cell? ⟨m, 1, none⟩ = some sl := by
  obtain ⟨h1, h2, sb', sl', inn, hm', hSm, hb, hbS, hl, hlS, ha⟩ := h
  rw [hm] at hm'
  simp only [Option.some.injEq, Obj.cells.injEq, Array.mk.injEq, List.cons.injEq, and_true] at hm'
  obtain ⟨rfl, rfl, rfl, rfl, rfl⟩ := hm'
  have hg4 := hg.andThen (World.grownBy_alloc v o none) (fun _ hj => .inr hj)
  have hlt := (Array.getElem?_eq_some_iff.1 hm).1
  exact ⟨row_off (S := fun _ => False) hl (Off.of_grown hg4 (by simp)) (fun _ _ h => h), cell_blk ((hg.block m hlt (by simp)).trans hm) 1, cell_blk ((hg4.block m hlt (by simp)).trans hm) 1⟩

set_option maxRecDepth 100000 in
set_option maxHeartbeats 4000000 in
theorem rwrite_plain (S : Nat → Prop) (m i : Nat) (D : Dsk) (l : List UInt8) (w : World) (h : RefAt w S m D) (hS : ∀ b, w.heap.size ≤ b → S b) (hi : i < D.n) (ho : D.off = false) (hl : l.length ≤ 128) (harm : D.armed = none) (hn : D.wr.length + 1 < 1000000) :
    Calls Try.prog 36 #[.pointer (some ⟨m, 0, none⟩), .int .i64 (i : Int), strV l] w fun e w' => e = .returned (.int .i64 0) ∧ RefAt w' S m (D.push i (pad l)) ∧ Off S w w' := by
  have hask := rasked_at S m D (i : Int) w h
  rw [show askedN D (i : Int) = 0 by unfold askedN; rw [if_neg (by simp [ho]), if_neg (by omega)]] at hask
  have HA := Lib.hid hask
  have HR := Lib.hid h
  obtain ⟨_, _, sb, sl, inn, hm, _, _, _, hrl, _⟩ := h
  rw [harm] at hm
  have c1 : w.drew.cell? ⟨m, 1, none⟩ = some sl := cell_blk (w := w.drew) hm 1
  have c2 : w.cell? ⟨m, 2, none⟩ = some (.bool false) := cell_blk hm 2
  obtain ⟨A1, n1, cap1, hsl⟩ := row_shape' hrl
  have hbs := bs_size l
  have d128 : decide ((128 : Int) < (l.length : Int)) = false := by simp; omega
  obtain ⟨W0, hW0⟩ : ∃ W0, W0 = w := ⟨_, rfl⟩
  have HSEC := Lib.hid (rsector_at l hl w.drew)
  have HROWS : Hid (∀ v, w.grownBy v none → _) := fun v hg => ref_rows HR.out hm v hg (.cells #[.int .i64 (i : Int), strV (pad l)] 69)
  have HPUSH : Hid (∀ v v2 w5, w.grownBy v none → _ → _ → _ → _) := fun v v2 w5 hg h5 hg5 hob => ref_pushed (v := v) (v2 := v2) (w5 := w5) (x := pad l) (i := i) HR.out hm hS hn hg h5 hg5 hob
  have HLEN : Hid (D.wr.length < 1000000) := by show _ < _; omega
  have HW0 := Lib.hid (Off.refl S w)
  subst hW0
  clear hask hm hrl hl
  subst hsl
  go_enter Try.func36, Try.ntmps36
  go_wp2_with fail
  refine HA.out.mono ?_
  rintro e w' ⟨rfl, rfl⟩
  go_wp2_with fail
  refine wp_region_noPanic ?_
  refine wp_region_held_drew (S := fun _ => True) (by kernel_rfl) ?hSb (fun hHeld => ?_)
  case hSb => trivial
  refine wpAnyH_take (i := 0) (oi := ⟨_, _, _, _, _, _⟩) (v := ?vb0) rfl (by kernel_rfl) (by kernel_rfl) (by kernel_rfl) (fun _ _ _ h => h) (Or.inl ⟨by rfl, ?hyb0⟩) hHeld ?_
  case hyb0 => (intro wS hSw; (try dsimp only at hSw); go_simp; (first | done | with_reducible rfl))
  try simp only [Act.put, List.setIfInBounds_toArray, List.set_cons_zero, List.set_cons_succ]
  refine wpAnyH_take (i := 1) (oi := ⟨_, _, _, _, _, _⟩) (v := ?vb1) rfl (by kernel_rfl) (by kernel_rfl) (by kernel_rfl) (fun _ _ _ h => h) (Or.inl ⟨by rfl, ?hyb1⟩) hHeld ?_
  case hyb1 => (intro wS hSw; (try dsimp only at hSw); go_simp; (first | done | with_reducible rfl))
  try simp only [Act.put, List.setIfInBounds_toArray, List.set_cons_zero, List.set_cons_succ]
  refine wpAnyH_take (i := 2) (oi := ⟨_, _, _, _, _, _⟩) (v := ?vb2) rfl (by kernel_rfl) (by kernel_rfl) (by kernel_rfl) (fun _ _ _ h => h) (Or.inl ⟨by rfl, ?hyb2⟩) hHeld ?_
  case hyb2 => (intro wS hSw; (try dsimp only at hSw); go_simp; (first | done | with_reducible rfl))
  try simp only [Act.put, List.setIfInBounds_toArray, List.set_cons_zero, List.set_cons_succ]
  refine wpAnyH_take (i := 3) (oi := ⟨_, _, _, _, _, _⟩) (v := ?vb3) rfl (by kernel_rfl) (by kernel_rfl) (by kernel_rfl) (fun _ _ _ h => h) (Or.inl ⟨by rfl, ?hyb3⟩) hHeld ?_
  case hyb3 => (intro wS hSw; (try dsimp only at hSw); go_simp; (first | done | with_reducible rfl))
  try simp only [Act.put, List.setIfInBounds_toArray, List.set_cons_zero, List.set_cons_succ]
  refine wpAnyH_take (i := 5) (oi := ⟨_, _, _, _, _, _⟩) (v := ?vb5) rfl (by kernel_rfl) (by kernel_rfl) (by kernel_rfl) (fun _ _ _ h => h) (Or.inl ⟨by rfl, ?hyb5⟩) hHeld ?_
  case hyb5 => (intro wS hSw; (try dsimp only at hSw); go_simp; (first | done | with_reducible rfl))
  try simp only [Act.put, List.setIfInBounds_toArray, List.set_cons_zero, List.set_cons_succ]
  refine wpAnyH_take (i := 6) (oi := ⟨_, _, _, _, _, _⟩) (v := ?vb6) rfl (by kernel_rfl) (by kernel_rfl) (by kernel_rfl) (fun _ _ _ h => h) (Or.inl ⟨by rfl, ?hyb6⟩) hHeld ?_
  case hyb6 => (intro wS hSw; (try dsimp only at hSw); go_simp; (first | done | with_reducible rfl))
  try simp only [Act.put, List.setIfInBounds_toArray, List.set_cons_zero, List.set_cons_succ]
  refine wpAnyH_ready (rs := [4, 7]) (by kernel_rfl) (by simp) ?_
  refine AllReadyH.cons (o := ⟨_, _, _, _, _, _⟩) rfl (fun K hK => ?_) (AllReadyH.cons (o := ⟨_, _, _, _, _, _⟩) rfl (fun K hK => ?_) AllReadyH.nil)
  · go_simp
    refine hK.out _ _ ?kbx4 (fun hNew => ?_)
    case kbx4 => (try dsimp only); all_goals trivial
    clear hK K hHeld
    have hHeld := hNew
    clear hNew
    try simp only [Act.put, List.setIfInBounds_toArray, List.set_cons_zero, List.set_cons_succ]
    refine wpAnyH_ready (rs := [7]) (by kernel_rfl) (by simp) ?_
    refine AllReadyH.cons (o := ⟨_, _, _, _, _, _⟩) rfl (fun K hK => ?_) AllReadyH.nil
    go_simp
    refine HSEC.out.mono ?_
    rintro e v ⟨rfl, hov⟩
    have HOV : Hid (W0.grownBy v none) := (drew_grown W0 none).andThen hov.none (fun _ hj => .inr hj)
    have hsl : (v.alloc (.cells #[.int .i64 (i : Int), strV (pad l)] 69)).ownsRow 0 69 2 (.slice A1 n1 cap1) D.wr.length (refRows D.wr) := (HROWS.out v HOV.out).1
    have c1v : v.cell? ⟨m, 1, none⟩ = some (.slice A1 n1 cap1) := (HROWS.out v HOV.out).2.1
    have c1z : (v.alloc (.cells #[.int .i64 (i : Int), strV (pad l)] 69)).cell? ⟨m, 1, none⟩ = some (.slice A1 n1 cap1) := (HROWS.out v HOV.out).2.2
    have HSL := Lib.hid hsl
    clear hov hsl
    go_wp2_with fail
    refine hK.out _ _ ?kbx7 (fun hNew => ?_)
    case kbx7 => (try dsimp only); all_goals trivial
    clear hK K hHeld
    have hHeld := hNew
    clear hNew
    try simp only [Act.put, List.setIfInBounds_toArray, List.set_cons_zero, List.set_cons_succ]
    refine wpAnyH_take (i := 8) (oi := ⟨_, _, _, _, _, _⟩) (v := ?vbx8) rfl (by kernel_rfl) (by kernel_rfl) (by kernel_rfl) (fun _ _ _ h => h) (Or.inl ⟨by rfl, ?hybx8⟩) hHeld ?_
    case hybx8 => (intro wS hSw; (try dsimp only at hSw); go_simp; (first | done | with_reducible rfl))
    try simp only [Act.put, List.setIfInBounds_toArray, List.set_cons_zero, List.set_cons_succ]
    refine wpAnyH_ready (rs := [9]) (by kernel_rfl) (by simp) ?_
    refine AllReadyH.cons (o := ⟨_, _, _, _, _, _⟩) rfl (fun K hK => ?_) AllReadyH.nil
    go_simp
    refine hK.out _ _ ?kbx9 (fun hNew => ?_)
    case kbx9 => (try dsimp only); all_goals trivial
    clear hK K hHeld
    have hHeld := hNew
    clear hNew
    try simp only [Act.put, List.setIfInBounds_toArray, List.set_cons_zero, List.set_cons_succ]
    refine wpAnyH_ready (rs := [10]) (by kernel_rfl) (by simp) ?_
    refine AllReadyH.cons (o := ⟨_, _, _, _, _, _⟩) rfl (fun K hK => ?_) AllReadyH.nil
    refine step_append_ref rfl (.tmp 46) (.tmp 51) rfl (.slice A1 n1 cap1) D.wr i (pad l) rfl HSL.out v.heap.size rfl (by exact cell_new v #[.int .i64 (i : Int), strV (pad l)] 69 0) (by exact cell_new v #[.int .i64 (i : Int), strV (pad l)] 69 1) HLEN.out ?_
    intro v2 w5 h5 hg5 hob5
    obtain ⟨A2, nn2, cap2, rfl⟩ := row_shape' h5
    have hp := HPUSH.out v _ w5 HOV.out h5 hg5 hob5
    have z0 := frozen_blk hp.1 1
    have e0 := cell_blk hp.1 1
    have HP := Lib.hid hp
    clear hp h5 hg5 hob5
    refine hK.out _ _ ?kbx10 (fun hNew => ?_)
    case kbx10 => (try dsimp only); all_goals trivial
    clear hK K hHeld
    have hHeld := hNew
    clear hNew
    try simp only [Act.put, List.setIfInBounds_toArray, List.set_cons_zero, List.set_cons_succ]
    refine wpAnyH_take (i := 11) (oi := ⟨_, _, _, _, _, _⟩) (v := ?vbx11) rfl (by kernel_rfl) (by kernel_rfl) (by kernel_rfl) (fun _ _ _ h => h) (Or.inl ⟨by rfl, ?hybx11⟩) hHeld ?_
    case hybx11 => (intro wS hSw; (try dsimp only at hSw); go_simp; (first | done | with_reducible rfl))
    try simp only [Act.put, List.setIfInBounds_toArray, List.set_cons_zero, List.set_cons_succ]
    refine wpAnyH_take (i := 12) (oi := ⟨_, _, _, _, _, _⟩) (v := ?vbx12) rfl (by kernel_rfl) (by kernel_rfl) (by kernel_rfl) (fun _ _ _ h => h) (Or.inl ⟨by rfl, ?hybx12⟩) hHeld ?_
    case hybx12 => (intro wS hSw; (try dsimp only at hSw); go_simp; (first | done | with_reducible rfl))
    try simp only [Act.put, List.setIfInBounds_toArray, List.set_cons_zero, List.set_cons_succ]
    refine wpAnyH_ready (rs := [13]) (by kernel_rfl) (by simp) ?_
    refine AllReadyH.cons (o := ⟨_, _, _, _, _, _⟩) rfl (fun K hK => ?_) AllReadyH.nil
    go_simp
    refine hK.out _ _ ?kbx13 (fun hNew => ?_)
    case kbx13 => (try dsimp only); all_goals trivial
    clear hK K hHeld
    have hHeld := hNew
    clear hNew
    try simp only [Act.put, List.setIfInBounds_toArray, List.set_cons_zero, List.set_cons_succ]
    refine wpAnyH_done (by kernel_rfl) ?_ _
    refine NoPanic.normal ?_
    have hp := HP.out
    clear hHeld HP z0 e0
    go_wp2_with fail
    go_ret
    exact ⟨rfl, hp.2.1, HW0.out.trans hp.2.2⟩
  · go_simp
    refine HSEC.out.mono ?_
    rintro e v ⟨rfl, hov⟩
    have HOV : Hid (W0.grownBy v none) := (drew_grown W0 none).andThen hov.none (fun _ hj => .inr hj)
    have hsl : (v.alloc (.cells #[.int .i64 (i : Int), strV (pad l)] 69)).ownsRow 0 69 2 (.slice A1 n1 cap1) D.wr.length (refRows D.wr) := (HROWS.out v HOV.out).1
    have c1v : v.cell? ⟨m, 1, none⟩ = some (.slice A1 n1 cap1) := (HROWS.out v HOV.out).2.1
    have c1z : (v.alloc (.cells #[.int .i64 (i : Int), strV (pad l)] 69)).cell? ⟨m, 1, none⟩ = some (.slice A1 n1 cap1) := (HROWS.out v HOV.out).2.2
    have HSL := Lib.hid hsl
    clear hov hsl
    go_wp2_with fail
    refine hK.out _ _ ?kbw7 (fun hNew => ?_)
    case kbw7 => (try dsimp only); all_goals trivial
    clear hK K hHeld
    have hHeld := hNew
    clear hNew
    try simp only [Act.put, List.setIfInBounds_toArray, List.set_cons_zero, List.set_cons_succ]
    refine wpAnyH_take (i := 8) (oi := ⟨_, _, _, _, _, _⟩) (v := ?vbw8) rfl (by kernel_rfl) (by kernel_rfl) (by kernel_rfl) (fun _ _ _ h => h) (Or.inl ⟨by rfl, ?hybw8⟩) hHeld ?_
    case hybw8 => (intro wS hSw; (try dsimp only at hSw); go_simp; (first | done | with_reducible rfl))
    try simp only [Act.put, List.setIfInBounds_toArray, List.set_cons_zero, List.set_cons_succ]
    refine wpAnyH_ready (rs := [4, 9]) (by kernel_rfl) (by simp) ?_
    refine AllReadyH.cons (o := ⟨_, _, _, _, _, _⟩) rfl (fun K hK => ?_) (AllReadyH.cons (o := ⟨_, _, _, _, _, _⟩) rfl (fun K hK => ?_) AllReadyH.nil)
    · go_simp
      refine hK.out _ _ ?kby4 (fun hNew => ?_)
      case kby4 => (try dsimp only); all_goals trivial
      clear hK K hHeld
      have hHeld := hNew
      clear hNew
      try simp only [Act.put, List.setIfInBounds_toArray, List.set_cons_zero, List.set_cons_succ]
      refine wpAnyH_ready (rs := [9]) (by kernel_rfl) (by simp) ?_
      refine AllReadyH.cons (o := ⟨_, _, _, _, _, _⟩) rfl (fun K hK => ?_) AllReadyH.nil
      go_simp
      refine hK.out _ _ ?kby9 (fun hNew => ?_)
      case kby9 => (try dsimp only); all_goals trivial
      clear hK K hHeld
      have hHeld := hNew
      clear hNew
      try simp only [Act.put, List.setIfInBounds_toArray, List.set_cons_zero, List.set_cons_succ]
      refine wpAnyH_ready (rs := [10]) (by kernel_rfl) (by simp) ?_
      refine AllReadyH.cons (o := ⟨_, _, _, _, _, _⟩) rfl (fun K hK => ?_) AllReadyH.nil
      refine step_append_ref rfl (.tmp 46) (.tmp 51) rfl (.slice A1 n1 cap1) D.wr i (pad l) rfl HSL.out v.heap.size rfl (by exact cell_new v #[.int .i64 (i : Int), strV (pad l)] 69 0) (by exact cell_new v #[.int .i64 (i : Int), strV (pad l)] 69 1) HLEN.out ?_
      intro v2 w5 h5 hg5 hob5
      obtain ⟨A2, nn2, cap2, rfl⟩ := row_shape' h5
      have hp := HPUSH.out v _ w5 HOV.out h5 hg5 hob5
      have z0 := frozen_blk hp.1 1
      have e0 := cell_blk hp.1 1
      have HP := Lib.hid hp
      clear hp h5 hg5 hob5
      refine hK.out _ _ ?kby10 (fun hNew => ?_)
      case kby10 => (try dsimp only); all_goals trivial
      clear hK K hHeld
      have hHeld := hNew
      clear hNew
      try simp only [Act.put, List.setIfInBounds_toArray, List.set_cons_zero, List.set_cons_succ]
      refine wpAnyH_take (i := 11) (oi := ⟨_, _, _, _, _, _⟩) (v := ?vby11) rfl (by kernel_rfl) (by kernel_rfl) (by kernel_rfl) (fun _ _ _ h => h) (Or.inl ⟨by rfl, ?hyby11⟩) hHeld ?_
      case hyby11 => (intro wS hSw; (try dsimp only at hSw); go_simp; (first | done | with_reducible rfl))
      try simp only [Act.put, List.setIfInBounds_toArray, List.set_cons_zero, List.set_cons_succ]
      refine wpAnyH_take (i := 12) (oi := ⟨_, _, _, _, _, _⟩) (v := ?vby12) rfl (by kernel_rfl) (by kernel_rfl) (by kernel_rfl) (fun _ _ _ h => h) (Or.inl ⟨by rfl, ?hyby12⟩) hHeld ?_
      case hyby12 => (intro wS hSw; (try dsimp only at hSw); go_simp; (first | done | with_reducible rfl))
      try simp only [Act.put, List.setIfInBounds_toArray, List.set_cons_zero, List.set_cons_succ]
      refine wpAnyH_ready (rs := [13]) (by kernel_rfl) (by simp) ?_
      refine AllReadyH.cons (o := ⟨_, _, _, _, _, _⟩) rfl (fun K hK => ?_) AllReadyH.nil
      go_simp
      refine hK.out _ _ ?kby13 (fun hNew => ?_)
      case kby13 => (try dsimp only); all_goals trivial
      clear hK K hHeld
      have hHeld := hNew
      clear hNew
      try simp only [Act.put, List.setIfInBounds_toArray, List.set_cons_zero, List.set_cons_succ]
      refine wpAnyH_done (by kernel_rfl) ?_ _
      refine NoPanic.normal ?_
      have hp := HP.out
      clear hHeld HP z0 e0
      go_wp2_with fail
      go_ret
      exact ⟨rfl, hp.2.1, HW0.out.trans hp.2.2⟩
    · go_simp
      refine hK.out _ _ ?kbz9 (fun hNew => ?_)
      case kbz9 => (try dsimp only); all_goals trivial
      clear hK K hHeld
      have hHeld := hNew
      clear hNew
      try simp only [Act.put, List.setIfInBounds_toArray, List.set_cons_zero, List.set_cons_succ]
      refine wpAnyH_ready (rs := [4]) (by kernel_rfl) (by simp) ?_
      refine AllReadyH.cons (o := ⟨_, _, _, _, _, _⟩) rfl (fun K hK => ?_) AllReadyH.nil
      go_simp
      refine hK.out _ _ ?kbz4 (fun hNew => ?_)
      case kbz4 => (try dsimp only); all_goals trivial
      clear hK K hHeld
      have hHeld := hNew
      clear hNew
      try simp only [Act.put, List.setIfInBounds_toArray, List.set_cons_zero, List.set_cons_succ]
      refine wpAnyH_ready (rs := [10]) (by kernel_rfl) (by simp) ?_
      refine AllReadyH.cons (o := ⟨_, _, _, _, _, _⟩) rfl (fun K hK => ?_) AllReadyH.nil
      refine step_append_ref rfl (.tmp 46) (.tmp 51) rfl (.slice A1 n1 cap1) D.wr i (pad l) rfl HSL.out v.heap.size rfl (by exact cell_new v #[.int .i64 (i : Int), strV (pad l)] 69 0) (by exact cell_new v #[.int .i64 (i : Int), strV (pad l)] 69 1) HLEN.out ?_
      intro v2 w5 h5 hg5 hob5
      obtain ⟨A2, nn2, cap2, rfl⟩ := row_shape' h5
      have hp := HPUSH.out v _ w5 HOV.out h5 hg5 hob5
      have z0 := frozen_blk hp.1 1
      have e0 := cell_blk hp.1 1
      have HP := Lib.hid hp
      clear hp h5 hg5 hob5
      refine hK.out _ _ ?kbz10 (fun hNew => ?_)
      case kbz10 => (try dsimp only); all_goals trivial
      clear hK K hHeld
      have hHeld := hNew
      clear hNew
      try simp only [Act.put, List.setIfInBounds_toArray, List.set_cons_zero, List.set_cons_succ]
      refine wpAnyH_take (i := 11) (oi := ⟨_, _, _, _, _, _⟩) (v := ?vbz11) rfl (by kernel_rfl) (by kernel_rfl) (by kernel_rfl) (fun _ _ _ h => h) (Or.inl ⟨by rfl, ?hybz11⟩) hHeld ?_
      case hybz11 => (intro wS hSw; (try dsimp only at hSw); go_simp; (first | done | with_reducible rfl))
      try simp only [Act.put, List.setIfInBounds_toArray, List.set_cons_zero, List.set_cons_succ]
      refine wpAnyH_take (i := 12) (oi := ⟨_, _, _, _, _, _⟩) (v := ?vbz12) rfl (by kernel_rfl) (by kernel_rfl) (by kernel_rfl) (fun _ _ _ h => h) (Or.inl ⟨by rfl, ?hybz12⟩) hHeld ?_
      case hybz12 => (intro wS hSw; (try dsimp only at hSw); go_simp; (first | done | with_reducible rfl))
      try simp only [Act.put, List.setIfInBounds_toArray, List.set_cons_zero, List.set_cons_succ]
      refine wpAnyH_ready (rs := [13]) (by kernel_rfl) (by simp) ?_
      refine AllReadyH.cons (o := ⟨_, _, _, _, _, _⟩) rfl (fun K hK => ?_) AllReadyH.nil
      go_simp
      refine hK.out _ _ ?kbz13 (fun hNew => ?_)
      case kbz13 => (try dsimp only); all_goals trivial
      clear hK K hHeld
      have hHeld := hNew
      clear hNew
      try simp only [Act.put, List.setIfInBounds_toArray, List.set_cons_zero, List.set_cons_succ]
      refine wpAnyH_done (by kernel_rfl) ?_ _
      refine NoPanic.normal ?_
      have hp := HP.out
      clear hHeld HP z0 e0
      go_wp2_with fail
      go_ret
      exact ⟨rfl, hp.2.1, HW0.out.trans hp.2.2⟩

set_option maxRecDepth 100000 in
set_option maxHeartbeats 4000000 in
theorem rwrite_armed (S : Nat → Prop) (m i : Nat) (D : Dsk) (l : List UInt8) (w : World) (h : RefAt w S m D) (hS : ∀ b, w.heap.size ≤ b → S b) (hi : i < D.n) (ho : D.off = false) (hl : l.length ≤ 128) (k : Nat) (harm : D.armed = some (k + 1)) (hn : D.wr.length + 1 < 1000000) :
    Calls Try.prog 36 #[.pointer (some ⟨m, 0, none⟩), .int .i64 (i : Int), strV l] w fun e w' => e = .returned (.int .i64 0) ∧ RefAt w' S m (({ D with armed := some k } : Dsk).push i (pad l)) ∧ Off S w w' := by
  have hask := rasked_at S m D (i : Int) w h
  rw [show askedN D (i : Int) = 0 by unfold askedN; rw [if_neg (by simp [ho]), if_neg (by omega)]] at hask
  have HA := Lib.hid hask
  obtain ⟨h1, h2, sb, sl, inn, hm, hSm, hb, hbS, hrl, hlS, hinn⟩ := h
  obtain ⟨hin, hk63⟩ := hinn (k + 1) harm
  rw [harm, hin] at hm
  have c2 : w.cell? ⟨m, 2, none⟩ = some (.bool true) := cell_blk hm 2
  have c3 : w.cell? ⟨m, 3, none⟩ = some (.int .i64 ((k + 1 : Nat) : Int)) := cell_blk hm 3
  have z3 := frozen_blk hm 3
  have dk0 : decide (((k + 1 : Nat) : Int) = 0) = false := by simp; omega
  have hsub : wrap64 (((k + 1 : Nat) : Int) - 1) = (k : Int) := by unfold wrap64; omega
  have hbs := bs_size l
  have d128 : decide ((128 : Int) < (l.length : Int)) = false := by simp; omega
  obtain ⟨hm1, hg1⟩ := ref_set (j := 3) (v := .int .i64 (k : Int)) hm rfl
  have hr1 : RefAt (w.setCell ⟨m, 3, none⟩ (.int .i64 (k : Int))) S m { D with armed := some k } :=
    ⟨h1, h2, sb, sl, (k : Int), hm1, hSm, ref_kept hb hm (by decide) hg1, hbS, ref_kept hrl hm (by decide) hg1, hlS, fun j hj => by injection hj with hj; omega⟩
  have ho1 := grown_off hg1 hSm
  obtain ⟨A1, n1, cap1, hsl⟩ := row_shape' hrl
  have HALL := Lib.hid (And.intro hm1 (And.intro hr1 ho1))
  have HLEN : Hid (D.wr.length < 1000000) := by show _ < _; omega
  have HL := Lib.hid hl
  have HSS := Lib.hid hS
  have hk2 : k ≤ 9223372036854775806 := by omega
  clear hask hm hrl hl hb hm1 hg1 hr1 ho1 hinn hin hS hk63
  clear h1 h2 hbS hlS
  subst hsl
  go_enter Try.func36, Try.ntmps36
  go_wp2_with fail
  refine HA.out.mono ?_
  rintro e w' ⟨rfl, rfl⟩
  go_wp2_with fail
  have hall := HALL.out
  have hsz : (w.setCell ⟨m, 3, none⟩ (.int .i64 (k : Int))).heap.size = w.heap.size := by simp
  generalize w.setCell ⟨m, 3, none⟩ (.int .i64 (k : Int)) = W0 at hall hsz ⊢
  obtain ⟨hm, hr, hw⟩ := hall
  have c1 : W0.drew.cell? ⟨m, 1, none⟩ = some (.slice A1 n1 cap1) := cell_blk (w := W0.drew) hm 1
  have HSEC := Lib.hid (rsector_at l HL.out W0.drew)
  have HROWS : Hid (∀ v, W0.grownBy v none → _) := fun v hg => ref_rows hr hm v hg (.cells #[.int .i64 (i : Int), strV (pad l)] 69)
  have HPUSH : Hid (∀ v v2 w5, W0.grownBy v none → _ → _ → _ → _) := fun v v2 w5 hg h5 hg5 hob => ref_pushed (v := v) (v2 := v2) (w5 := w5) (x := pad l) (i := i) hr hm (fun b hb => HSS.out b (by omega)) hn hg h5 hg5 hob
  have HW0 := Lib.hid hw
  clear hm hr hw HALL c2 c3 z3 hsz
  refine wp_region_noPanic ?_
  refine wp_region_held_drew (S := fun _ => True) (by kernel_rfl) ?hSd (fun hHeld => ?_)
  case hSd => trivial
  refine wpAnyH_take (i := 0) (oi := ⟨_, _, _, _, _, _⟩) (v := ?vd0) rfl (by kernel_rfl) (by kernel_rfl) (by kernel_rfl) (fun _ _ _ h => h) (Or.inl ⟨by rfl, ?hyd0⟩) hHeld ?_
  case hyd0 => (intro wS hSw; (try dsimp only at hSw); go_simp; (first | done | with_reducible rfl))
  try simp only [Act.put, List.setIfInBounds_toArray, List.set_cons_zero, List.set_cons_succ]
  refine wpAnyH_take (i := 1) (oi := ⟨_, _, _, _, _, _⟩) (v := ?vd1) rfl (by kernel_rfl) (by kernel_rfl) (by kernel_rfl) (fun _ _ _ h => h) (Or.inl ⟨by rfl, ?hyd1⟩) hHeld ?_
  case hyd1 => (intro wS hSw; (try dsimp only at hSw); go_simp; (first | done | with_reducible rfl))
  try simp only [Act.put, List.setIfInBounds_toArray, List.set_cons_zero, List.set_cons_succ]
  refine wpAnyH_take (i := 2) (oi := ⟨_, _, _, _, _, _⟩) (v := ?vd2) rfl (by kernel_rfl) (by kernel_rfl) (by kernel_rfl) (fun _ _ _ h => h) (Or.inl ⟨by rfl, ?hyd2⟩) hHeld ?_
  case hyd2 => (intro wS hSw; (try dsimp only at hSw); go_simp; (first | done | with_reducible rfl))
  try simp only [Act.put, List.setIfInBounds_toArray, List.set_cons_zero, List.set_cons_succ]
  refine wpAnyH_take (i := 3) (oi := ⟨_, _, _, _, _, _⟩) (v := ?vd3) rfl (by kernel_rfl) (by kernel_rfl) (by kernel_rfl) (fun _ _ _ h => h) (Or.inl ⟨by rfl, ?hyd3⟩) hHeld ?_
  case hyd3 => (intro wS hSw; (try dsimp only at hSw); go_simp; (first | done | with_reducible rfl))
  try simp only [Act.put, List.setIfInBounds_toArray, List.set_cons_zero, List.set_cons_succ]
  refine wpAnyH_take (i := 5) (oi := ⟨_, _, _, _, _, _⟩) (v := ?vd5) rfl (by kernel_rfl) (by kernel_rfl) (by kernel_rfl) (fun _ _ _ h => h) (Or.inl ⟨by rfl, ?hyd5⟩) hHeld ?_
  case hyd5 => (intro wS hSw; (try dsimp only at hSw); go_simp; (first | done | with_reducible rfl))
  try simp only [Act.put, List.setIfInBounds_toArray, List.set_cons_zero, List.set_cons_succ]
  refine wpAnyH_take (i := 6) (oi := ⟨_, _, _, _, _, _⟩) (v := ?vd6) rfl (by kernel_rfl) (by kernel_rfl) (by kernel_rfl) (fun _ _ _ h => h) (Or.inl ⟨by rfl, ?hyd6⟩) hHeld ?_
  case hyd6 => (intro wS hSw; (try dsimp only at hSw); go_simp; (first | done | with_reducible rfl))
  try simp only [Act.put, List.setIfInBounds_toArray, List.set_cons_zero, List.set_cons_succ]
  refine wpAnyH_ready (rs := [4, 7]) (by kernel_rfl) (by simp) ?_
  refine AllReadyH.cons (o := ⟨_, _, _, _, _, _⟩) rfl (fun K hK => ?_) (AllReadyH.cons (o := ⟨_, _, _, _, _, _⟩) rfl (fun K hK => ?_) AllReadyH.nil)
  · go_simp
    refine hK.out _ _ ?kdx4 (fun hNew => ?_)
    case kdx4 => (try dsimp only); all_goals trivial
    clear hK K hHeld
    have hHeld := hNew
    clear hNew
    try simp only [Act.put, List.setIfInBounds_toArray, List.set_cons_zero, List.set_cons_succ]
    refine wpAnyH_ready (rs := [7]) (by kernel_rfl) (by simp) ?_
    refine AllReadyH.cons (o := ⟨_, _, _, _, _, _⟩) rfl (fun K hK => ?_) AllReadyH.nil
    go_simp
    refine HSEC.out.mono ?_
    rintro e v ⟨rfl, hov⟩
    have HOV : Hid (W0.grownBy v none) := (drew_grown W0 none).andThen hov.none (fun _ hj => .inr hj)
    have hsl : (v.alloc (.cells #[.int .i64 (i : Int), strV (pad l)] 69)).ownsRow 0 69 2 (.slice A1 n1 cap1) D.wr.length (refRows D.wr) := (HROWS.out v HOV.out).1
    have c1v : v.cell? ⟨m, 1, none⟩ = some (.slice A1 n1 cap1) := (HROWS.out v HOV.out).2.1
    have c1z : (v.alloc (.cells #[.int .i64 (i : Int), strV (pad l)] 69)).cell? ⟨m, 1, none⟩ = some (.slice A1 n1 cap1) := (HROWS.out v HOV.out).2.2
    have HSL := Lib.hid hsl
    clear hov hsl
    go_wp2_with fail
    refine hK.out _ _ ?kdx7 (fun hNew => ?_)
    case kdx7 => (try dsimp only); all_goals trivial
    clear hK K hHeld
    have hHeld := hNew
    clear hNew
    try simp only [Act.put, List.setIfInBounds_toArray, List.set_cons_zero, List.set_cons_succ]
    refine wpAnyH_take (i := 8) (oi := ⟨_, _, _, _, _, _⟩) (v := ?vdx8) rfl (by kernel_rfl) (by kernel_rfl) (by kernel_rfl) (fun _ _ _ h => h) (Or.inl ⟨by rfl, ?hydx8⟩) hHeld ?_
    case hydx8 => (intro wS hSw; (try dsimp only at hSw); go_simp; (first | done | with_reducible rfl))
    try simp only [Act.put, List.setIfInBounds_toArray, List.set_cons_zero, List.set_cons_succ]
    refine wpAnyH_ready (rs := [9]) (by kernel_rfl) (by simp) ?_
    refine AllReadyH.cons (o := ⟨_, _, _, _, _, _⟩) rfl (fun K hK => ?_) AllReadyH.nil
    go_simp
    refine hK.out _ _ ?kdx9 (fun hNew => ?_)
    case kdx9 => (try dsimp only); all_goals trivial
    clear hK K hHeld
    have hHeld := hNew
    clear hNew
    try simp only [Act.put, List.setIfInBounds_toArray, List.set_cons_zero, List.set_cons_succ]
    refine wpAnyH_ready (rs := [10]) (by kernel_rfl) (by simp) ?_
    refine AllReadyH.cons (o := ⟨_, _, _, _, _, _⟩) rfl (fun K hK => ?_) AllReadyH.nil
    refine step_append_ref rfl (.tmp 46) (.tmp 51) rfl (.slice A1 n1 cap1) D.wr i (pad l) rfl HSL.out v.heap.size rfl (by exact cell_new v #[.int .i64 (i : Int), strV (pad l)] 69 0) (by exact cell_new v #[.int .i64 (i : Int), strV (pad l)] 69 1) HLEN.out ?_
    intro v2 w5 h5 hg5 hob5
    obtain ⟨A2, nn2, cap2, rfl⟩ := row_shape' h5
    have hp := HPUSH.out v _ w5 HOV.out h5 hg5 hob5
    have z0 := frozen_blk hp.1 1
    have e0 := cell_blk hp.1 1
    have HP := Lib.hid hp
    clear hp h5 hg5 hob5
    refine hK.out _ _ ?kdx10 (fun hNew => ?_)
    case kdx10 => (try dsimp only); all_goals trivial
    clear hK K hHeld
    have hHeld := hNew
    clear hNew
    try simp only [Act.put, List.setIfInBounds_toArray, List.set_cons_zero, List.set_cons_succ]
    refine wpAnyH_take (i := 11) (oi := ⟨_, _, _, _, _, _⟩) (v := ?vdx11) rfl (by kernel_rfl) (by kernel_rfl) (by kernel_rfl) (fun _ _ _ h => h) (Or.inl ⟨by rfl, ?hydx11⟩) hHeld ?_
    case hydx11 => (intro wS hSw; (try dsimp only at hSw); go_simp; (first | done | with_reducible rfl))
    try simp only [Act.put, List.setIfInBounds_toArray, List.set_cons_zero, List.set_cons_succ]
    refine wpAnyH_take (i := 12) (oi := ⟨_, _, _, _, _, _⟩) (v := ?vdx12) rfl (by kernel_rfl) (by kernel_rfl) (by kernel_rfl) (fun _ _ _ h => h) (Or.inl ⟨by rfl, ?hydx12⟩) hHeld ?_
    case hydx12 => (intro wS hSw; (try dsimp only at hSw); go_simp; (first | done | with_reducible rfl))
    try simp only [Act.put, List.setIfInBounds_toArray, List.set_cons_zero, List.set_cons_succ]
    refine wpAnyH_ready (rs := [13]) (by kernel_rfl) (by simp) ?_
    refine AllReadyH.cons (o := ⟨_, _, _, _, _, _⟩) rfl (fun K hK => ?_) AllReadyH.nil
    go_simp
    refine hK.out _ _ ?kdx13 (fun hNew => ?_)
    case kdx13 => (try dsimp only); all_goals trivial
    clear hK K hHeld
    have hHeld := hNew
    clear hNew
    try simp only [Act.put, List.setIfInBounds_toArray, List.set_cons_zero, List.set_cons_succ]
    refine wpAnyH_done (by kernel_rfl) ?_ _
    refine NoPanic.normal ?_
    have hp := HP.out
    clear hHeld HP z0 e0
    go_wp2_with fail
    go_ret
    exact ⟨rfl, hp.2.1, HW0.out.trans hp.2.2⟩
  · go_simp
    refine HSEC.out.mono ?_
    rintro e v ⟨rfl, hov⟩
    have HOV : Hid (W0.grownBy v none) := (drew_grown W0 none).andThen hov.none (fun _ hj => .inr hj)
    have hsl : (v.alloc (.cells #[.int .i64 (i : Int), strV (pad l)] 69)).ownsRow 0 69 2 (.slice A1 n1 cap1) D.wr.length (refRows D.wr) := (HROWS.out v HOV.out).1
    have c1v : v.cell? ⟨m, 1, none⟩ = some (.slice A1 n1 cap1) := (HROWS.out v HOV.out).2.1
    have c1z : (v.alloc (.cells #[.int .i64 (i : Int), strV (pad l)] 69)).cell? ⟨m, 1, none⟩ = some (.slice A1 n1 cap1) := (HROWS.out v HOV.out).2.2
    have HSL := Lib.hid hsl
    clear hov hsl
    go_wp2_with fail
    refine hK.out _ _ ?kdw7 (fun hNew => ?_)
    case kdw7 => (try dsimp only); all_goals trivial
    clear hK K hHeld
    have hHeld := hNew
    clear hNew
    try simp only [Act.put, List.setIfInBounds_toArray, List.set_cons_zero, List.set_cons_succ]
    refine wpAnyH_take (i := 8) (oi := ⟨_, _, _, _, _, _⟩) (v := ?vdw8) rfl (by kernel_rfl) (by kernel_rfl) (by kernel_rfl) (fun _ _ _ h => h) (Or.inl ⟨by rfl, ?hydw8⟩) hHeld ?_
    case hydw8 => (intro wS hSw; (try dsimp only at hSw); go_simp; (first | done | with_reducible rfl))
    try simp only [Act.put, List.setIfInBounds_toArray, List.set_cons_zero, List.set_cons_succ]
    refine wpAnyH_ready (rs := [4, 9]) (by kernel_rfl) (by simp) ?_
    refine AllReadyH.cons (o := ⟨_, _, _, _, _, _⟩) rfl (fun K hK => ?_) (AllReadyH.cons (o := ⟨_, _, _, _, _, _⟩) rfl (fun K hK => ?_) AllReadyH.nil)
    · go_simp
      refine hK.out _ _ ?kdy4 (fun hNew => ?_)
      case kdy4 => (try dsimp only); all_goals trivial
      clear hK K hHeld
      have hHeld := hNew
      clear hNew
      try simp only [Act.put, List.setIfInBounds_toArray, List.set_cons_zero, List.set_cons_succ]
      refine wpAnyH_ready (rs := [9]) (by kernel_rfl) (by simp) ?_
      refine AllReadyH.cons (o := ⟨_, _, _, _, _, _⟩) rfl (fun K hK => ?_) AllReadyH.nil
      go_simp
      refine hK.out _ _ ?kdy9 (fun hNew => ?_)
      case kdy9 => (try dsimp only); all_goals trivial
      clear hK K hHeld
      have hHeld := hNew
      clear hNew
      try simp only [Act.put, List.setIfInBounds_toArray, List.set_cons_zero, List.set_cons_succ]
      refine wpAnyH_ready (rs := [10]) (by kernel_rfl) (by simp) ?_
      refine AllReadyH.cons (o := ⟨_, _, _, _, _, _⟩) rfl (fun K hK => ?_) AllReadyH.nil
      refine step_append_ref rfl (.tmp 46) (.tmp 51) rfl (.slice A1 n1 cap1) D.wr i (pad l) rfl HSL.out v.heap.size rfl (by exact cell_new v #[.int .i64 (i : Int), strV (pad l)] 69 0) (by exact cell_new v #[.int .i64 (i : Int), strV (pad l)] 69 1) HLEN.out ?_
      intro v2 w5 h5 hg5 hob5
      obtain ⟨A2, nn2, cap2, rfl⟩ := row_shape' h5
      have hp := HPUSH.out v _ w5 HOV.out h5 hg5 hob5
      have z0 := frozen_blk hp.1 1
      have e0 := cell_blk hp.1 1
      have HP := Lib.hid hp
      clear hp h5 hg5 hob5
      refine hK.out _ _ ?kdy10 (fun hNew => ?_)
      case kdy10 => (try dsimp only); all_goals trivial
      clear hK K hHeld
      have hHeld := hNew
      clear hNew
      try simp only [Act.put, List.setIfInBounds_toArray, List.set_cons_zero, List.set_cons_succ]
      refine wpAnyH_take (i := 11) (oi := ⟨_, _, _, _, _, _⟩) (v := ?vdy11) rfl (by kernel_rfl) (by kernel_rfl) (by kernel_rfl) (fun _ _ _ h => h) (Or.inl ⟨by rfl, ?hydy11⟩) hHeld ?_
      case hydy11 => (intro wS hSw; (try dsimp only at hSw); go_simp; (first | done | with_reducible rfl))
      try simp only [Act.put, List.setIfInBounds_toArray, List.set_cons_zero, List.set_cons_succ]
      refine wpAnyH_take (i := 12) (oi := ⟨_, _, _, _, _, _⟩) (v := ?vdy12) rfl (by kernel_rfl) (by kernel_rfl) (by kernel_rfl) (fun _ _ _ h => h) (Or.inl ⟨by rfl, ?hydy12⟩) hHeld ?_
      case hydy12 => (intro wS hSw; (try dsimp only at hSw); go_simp; (first | done | with_reducible rfl))
      try simp only [Act.put, List.setIfInBounds_toArray, List.set_cons_zero, List.set_cons_succ]
      refine wpAnyH_ready (rs := [13]) (by kernel_rfl) (by simp) ?_
      refine AllReadyH.cons (o := ⟨_, _, _, _, _, _⟩) rfl (fun K hK => ?_) AllReadyH.nil
      go_simp
      refine hK.out _ _ ?kdy13 (fun hNew => ?_)
      case kdy13 => (try dsimp only); all_goals trivial
      clear hK K hHeld
      have hHeld := hNew
      clear hNew
      try simp only [Act.put, List.setIfInBounds_toArray, List.set_cons_zero, List.set_cons_succ]
      refine wpAnyH_done (by kernel_rfl) ?_ _
      refine NoPanic.normal ?_
      have hp := HP.out
      clear hHeld HP z0 e0
      go_wp2_with fail
      go_ret
      exact ⟨rfl, hp.2.1, HW0.out.trans hp.2.2⟩
    · go_simp
      refine hK.out _ _ ?kdz9 (fun hNew => ?_)
      case kdz9 => (try dsimp only); all_goals trivial
      clear hK K hHeld
      have hHeld := hNew
      clear hNew
      try simp only [Act.put, List.setIfInBounds_toArray, List.set_cons_zero, List.set_cons_succ]
      refine wpAnyH_ready (rs := [4]) (by kernel_rfl) (by simp) ?_
      refine AllReadyH.cons (o := ⟨_, _, _, _, _, _⟩) rfl (fun K hK => ?_) AllReadyH.nil
      go_simp
      refine hK.out _ _ ?kdz4 (fun hNew => ?_)
      case kdz4 => (try dsimp only); all_goals trivial
      clear hK K hHeld
      have hHeld := hNew
      clear hNew
      try simp only [Act.put, List.setIfInBounds_toArray, List.set_cons_zero, List.set_cons_succ]
      refine wpAnyH_ready (rs := [10]) (by kernel_rfl) (by simp) ?_
      refine AllReadyH.cons (o := ⟨_, _, _, _, _, _⟩) rfl (fun K hK => ?_) AllReadyH.nil
      refine step_append_ref rfl (.tmp 46) (.tmp 51) rfl (.slice A1 n1 cap1) D.wr i (pad l) rfl HSL.out v.heap.size rfl (by exact cell_new v #[.int .i64 (i : Int), strV (pad l)] 69 0) (by exact cell_new v #[.int .i64 (i : Int), strV (pad l)] 69 1) HLEN.out ?_
      intro v2 w5 h5 hg5 hob5
      obtain ⟨A2, nn2, cap2, rfl⟩ := row_shape' h5
      have hp := HPUSH.out v _ w5 HOV.out h5 hg5 hob5
      have z0 := frozen_blk hp.1 1
      have e0 := cell_blk hp.1 1
      have HP := Lib.hid hp
      clear hp h5 hg5 hob5
      refine hK.out _ _ ?kdz10 (fun hNew => ?_)
      case kdz10 => (try dsimp only); all_goals trivial
      clear hK K hHeld
      have hHeld := hNew
      clear hNew
      try simp only [Act.put, List.setIfInBounds_toArray, List.set_cons_zero, List.set_cons_succ]
      refine wpAnyH_take (i := 11) (oi := ⟨_, _, _, _, _, _⟩) (v := ?vdz11) rfl (by kernel_rfl) (by kernel_rfl) (by kernel_rfl) (fun _ _ _ h => h) (Or.inl ⟨by rfl, ?hydz11⟩) hHeld ?_
      case hydz11 => (intro wS hSw; (try dsimp only at hSw); go_simp; (first | done | with_reducible rfl))
      try simp only [Act.put, List.setIfInBounds_toArray, List.set_cons_zero, List.set_cons_succ]
      refine wpAnyH_take (i := 12) (oi := ⟨_, _, _, _, _, _⟩) (v := ?vdz12) rfl (by kernel_rfl) (by kernel_rfl) (by kernel_rfl) (fun _ _ _ h => h) (Or.inl ⟨by rfl, ?hydz12⟩) hHeld ?_
      case hydz12 => (intro wS hSw; (try dsimp only at hSw); go_simp; (first | done | with_reducible rfl))
      try simp only [Act.put, List.setIfInBounds_toArray, List.set_cons_zero, List.set_cons_succ]
      refine wpAnyH_ready (rs := [13]) (by kernel_rfl) (by simp) ?_
      refine AllReadyH.cons (o := ⟨_, _, _, _, _, _⟩) rfl (fun K hK => ?_) AllReadyH.nil
      go_simp
      refine hK.out _ _ ?kdz13 (fun hNew => ?_)
      case kdz13 => (try dsimp only); all_goals trivial
      clear hK K hHeld
      have hHeld := hNew
      clear hNew
      try simp only [Act.put, List.setIfInBounds_toArray, List.set_cons_zero, List.set_cons_succ]
      refine wpAnyH_done (by kernel_rfl) ?_ _
      refine NoPanic.normal ?_
      have hp := HP.out
      clear hHeld HP z0 e0
      go_wp2_with fail
      go_ret
      exact ⟨rfl, hp.2.1, HW0.out.trans hp.2.2⟩

/-- A WRITE of the document's. -/
theorem rwrite_at (S : Nat → Prop) (m : Nat) (i : Int) (D : Dsk) (l : List UInt8) (w : World) (h : RefAt w S m D) (hS : ∀ b, w.heap.size ≤ b → S b) (hl63 : l.length ≤ maxLen) (hn : D.wr.length + 1 < 1000000) :
    Calls Try.prog 36 #[.pointer (some ⟨m, 0, none⟩), .int .i64 i, strV l] w fun e w' => e = .returned (.int .i64 (wrote D i l).1) ∧ RefAt w' S m (wrote D i l).2 ∧ Off S w w' := by
  unfold maxLen at hl63
  have refused : ∀ x : Int, askedN D i = x → (x = 20 ∨ x = 2) → Calls Try.prog 36 #[.pointer (some ⟨m, 0, none⟩), .int .i64 i, strV l] w fun e w' => e = .returned (.int .i64 x) ∧ w = w' := by
    intro x hx hx0
    have hask := rasked_at S m D i w h
    rw [hx] at hask
    have HA := Lib.hid hask
    clear hask h hx
    rcases hx0 with rfl | rfl <;>
    · go_enter Try.func36, Try.ntmps36
      go_wp2_with fail
      refine HA.out.mono ?_
      rintro e w' ⟨rfl, rfl⟩
      go_wp2_with fail
      go_ret
      exact ⟨rfl, rfl⟩
  rcases askedN_cases D i with hx | hx | ⟨hx, ho, hi0, hi⟩
  · refine (refused 20 hx (.inl rfl)).mono ?_
    rintro e w' ⟨rfl, rfl⟩
    unfold wrote
    rw [if_pos (by rw [hx]; decide), hx]
    exact ⟨rfl, h, Off.refl _ _⟩
  · refine (refused 2 hx (.inr rfl)).mono ?_
    rintro e w' ⟨rfl, rfl⟩
    unfold wrote
    rw [if_pos (by rw [hx]; decide), hx]
    exact ⟨rfl, h, Off.refl _ _⟩
  · unfold wrote
    rw [if_neg (by simpa using hx)]
    clear refused
    have hbs := bs_size l
    by_cases hl : 128 < l.length
    · rw [if_pos hl]
      have hask := rasked_at S m D i w h
      rw [hx] at hask
      have HA := Lib.hid hask
      have HR := Lib.hid h
      have d128 : decide ((128 : Int) < (l.length : Int)) = true := by simp; omega
      clear hask h hx hl
      go_enter Try.func36, Try.ntmps36
      go_wp2_with fail
      refine HA.out.mono ?_
      rintro e w' ⟨rfl, rfl⟩
      go_wp2_with fail
      go_ret
      exact ⟨rfl, HR.out, Off.refl _ _⟩
    · rw [if_neg hl]
      obtain ⟨j, rfl⟩ : ∃ j : Nat, i = j := ⟨i.toNat, by omega⟩
      rw [Int.toNat_natCast] at hi ⊢
      cases harm : D.armed with
      | none => exact rwrite_plain S m j D l w h hS hi ho (by omega) harm hn
      | some k =>
        cases k with
        | zero =>
          have hask := rasked_at S m D j w h
          rw [hx] at hask
          have HA := Lib.hid hask
          have HC := Lib.hid (rcrash_at S m D w h)
          obtain ⟨_, _, sb, sl, inn, hm, _, _, _, _, _, hinn⟩ := h
          obtain ⟨hin, _⟩ := hinn 0 harm
          rw [harm, hin] at hm
          have c2 : w.cell? ⟨m, 2, none⟩ = some (.bool true) := cell_blk hm 2
          have c3 : w.cell? ⟨m, 3, none⟩ = some (.int .i64 ((0 : Nat) : Int)) := cell_blk hm 3
          have d128 : decide ((128 : Int) < (l.length : Int)) = false := by simp; omega
          clear hask hx hl hm hinn hin
          go_enter Try.func36, Try.ntmps36
          go_wp2_with fail
          refine HA.out.mono ?_
          rintro e w' ⟨rfl, rfl⟩
          go_wp2_with fail
          refine HC.out.mono ?_
          rintro e w' ⟨rfl, hr, hb⟩
          have HR := Lib.hid (And.intro hr hb)
          clear hr hb
          go_wp2_with fail
          go_ret
          exact ⟨rfl, HR.out⟩
        | succ k => exact rwrite_armed S m j D l w h hS hi ho (by omega) k harm hn
end Go.Proofs.Ytplnkpbfnpajjaa.Sec
