/- The journal: Open. -/
import Derived.Test.YtgdedgfohjplmaaJH
namespace Go.Proofs.Ytgdedgfohjplmaa.Jnl
open Go.RowKit Go.Maps Sec

theorem sec_lt {k n : Nat} (hk : k < 2) (hn : 4 ≤ n) : k * (n / 2) + 0 < n := by
  obtain h1 | h1 : k = 0 ∨ k = 1 := by omega
  · rw [h1]; omega
  · rw [h1]; omega
theorem area_len {D : Dsk} {P0 P1 : Option Jn → Prop} {k : Nat} (hk : k < 2) (h0 : AreaOk D 0 P0) (h1 : AreaOk D 1 P1) : (D.now (k * (D.n / 2))).length = 128 := by
  obtain rfl | rfl : k = 0 ∨ k = 1 := by omega
  · exact h0.length
  · exact h1.length
theorem area_ok {D : Dsk} {P0 P1 : Option Jn → Prop} {k : Nat} (hk : k < 2) (h0 : AreaOk D 0 P0) (h1 : AreaOk D 1 P1) : AreaOk D k (if k = 0 then P0 else P1) := by
  obtain rfl | rfl : k = 0 ∨ k = 1 := by omega
  · exact h0
  · exact h1
theorem rangeAt_grown {w w' : World} {g o : Nat} {xs : List Value} (h : w.rangeAt g o xs) (hg : w.grownBy w' none) : w'.rangeAt g o xs := fun j v hv => hg.cell (h j v hv) (by simp)
theorem _root_.Go.Proofs.Ytgdedgfohjplmaa.Sec.Off.trans_new {w a b : World} {T : Nat → Prop} (h : Off (fun _ => False) w a) (k : Off T a b) (hT : ∀ x, T x → w.heap.size ≤ x) : Off (fun _ => False) w b :=
  ⟨k.os.trans h.os, k.tape.trans h.tape, k.output.trans h.output, Nat.le_trans h.size k.size, fun j hj hs => (k.block j (Nat.lt_of_lt_of_le hj h.size) (fun ht => by have := hT j ht; omega)).trans (h.block j hj hs)⟩
theorem count_full2 (l : List UInt8) (h : l.length = 128) : (((l.count 0 : Nat) : Int) == 128) = decide (l = noughts) := by
  rw [← count_full l h]
  by_cases e : ((l.count 0 : Nat) : Int) = 128 <;> simp [e]
theorem choose_none (r : Option Jn) : choose r none = r := by cases r <;> rfl
theorem new_ptr {w wa wb : World} {xb d k : Nat} {r : Option Jn} {J : Jn} (h : ∀ J', r = some J' → J'.area = k ∧ JAt wb (fun b => b = xb ∨ (wa.heap.size ≤ b ∧ b < wb.heap.size)) xb d J') (hk : k < 2) (hx : w.heap.size ≤ xb) (_ : w.heap.size ≤ wa.heap.size) (hxa : xb < wa.heap.size) (hs : wa.heap.size ≤ wb.heap.size) (hr : r = some J) : JPtr w wb d (.pointer (some ⟨xb, 0, none⟩)) (some J) := by
  obtain ⟨h1, h2⟩ := h J hr
  refine ⟨xb, rfl, hx, by omega, h2.wide (fun b hb => ?_) (fun b hb => hb.2)⟩
  rcases hb with rfl | hb
  · exact ⟨hx, by omega⟩
  · exact ⟨by omega, hb.2⟩
theorem area_lt {a n : Nat} (ha : a ≤ 1) (hn : 4 ≤ n) : a * (n / 2) < n := by
  obtain h1 | h1 : a = 0 ∨ a = 1 := by omega
  · rw [h1]; omega
  · rw [h1]; omega
/-- The journal is found again behind the writing of its head. -/
theorem op_set {w wr w5 w6 : World} {Sd : Nat → Prop} {jb d : Nat} {J J' : Jn} {sv rv : Value} {vs : List Value} (h : JIn wr (fun b => w.heap.size ≤ b ∧ b < wr.heap.size) jb d J sv rv vs) (hg : wr.grownBy w5 (some jb)) (hb : JBlk w6 jb d J' sv rv) (h1 : J'.st = J.st) (h2 : J'.recs = J.recs) (ho : Off Sd w5 w6) (hS : ∀ b, w.heap.size ≤ b ∧ b < wr.heap.size → ¬ Sd b) :
    JAt w6 (fun b => w.heap.size ≤ b ∧ b < wr.heap.size) jb d J' := by
  have row : ∀ {e : TypeId} {sz n : Nat} {v : Value} {xs : List Value}, wr.ownsRow 0 e sz v n xs → (∀ g, v.ownBlock = some g → w.heap.size ≤ g ∧ g < wr.heap.size) → (∀ g, v.ownBlock = some g → g ≠ jb) → w6.ownsRow 0 e sz v n xs := fun hr hv hj =>
    Sec.row_off (Sec.row_off hr (Off.of_grown hg (S := fun b => b = jb) (fun k e => by cases e; rfl)) (fun g hg => hj g hg)) ho (fun g hg => hS g (hv g hg))
  have hne : ∀ {e : TypeId} {sz n : Nat} {v : Value} {xs : List Value}, e ≠ 57 → wr.ownsRow 0 e sz v n xs → ∀ g, v.ownBlock = some g → g ≠ jb := by
    intro e sz n v xs he hr g hg e2
    obtain ⟨_, ⟨rfl, _⟩ | ⟨g1, cap, cur, rfl, _, hbb, _⟩⟩ := hr
    · simp [Value.ownBlock] at hg
    · simp [Value.ownBlock] at hg
      have hq := h.blk
      unfold JBlk at hq
      rw [hg, e2, hq] at hbb
      injection hbb with hbb
      injection hbb with _ hbb
      exact he hbb.symm
  refine ⟨sv, rv, vs, ⟨hb, ?_, ?_, ?_, h.own, fun b hb => ?_⟩⟩
  · rw [h1]
    exact row h.st h.own.2.1 (hne (by decide) h.st)
  · rw [h2]
    exact row h.rows h.own.2.2.1 (hne (by decide) h.rows)
  · intro i l hi
    rw [h2] at hi
    obtain ⟨v, hv, hr⟩ := h.recs i l hi
    exact ⟨v, hv, row hr (h.own.2.2.2 v (List.mem_of_getElem? hv)) (hne (by decide) hr)⟩
  · exact Nat.lt_of_lt_of_le hb.2 (Nat.le_trans hg.size ho.size)
theorem op_apart {w wr w5 w6 : World} {Sd Sd' : Nat → Prop} (hlt : ∀ b, Sd b → b < w.heap.size) (hs : wr.heap.size ≤ w5.heap.size) (h : ∀ b, Sd' b → (Sd b ∨ w5.heap.size ≤ b) ∧ b < w6.heap.size) : ∀ b, w.heap.size ≤ b ∧ b < wr.heap.size → w.heap.size ≤ b ∧ ¬ Sd' b := fun b hb => ⟨hb.1, fun hd => by
  rcases (h b hd).1 with h1 | h1
  · have := hlt b h1
    omega
  · omega⟩
theorem op_disk {w wr w5 w6 : World} {Sd Sd' : Nat → Prop} (ho : w.heap.size ≤ wr.heap.size) (hs : wr.heap.size ≤ w5.heap.size) (h : ∀ b, Sd' b → (Sd b ∨ w5.heap.size ≤ b) ∧ b < w6.heap.size) : ∀ b, Sd' b → (Sd b ∨ w.heap.size ≤ b) ∧ b < w6.heap.size := fun b hb => ⟨(h b hb).1.elim .inl (fun h1 => .inr (by omega)), (h b hb).2⟩
/-- A new journal. -/
def newJ : Jn := ⟨0, 1, 1, 1, 0, [], [], 1⟩
/-- What Open answers and writes, with what it has found. -/
def opened (D : Dsk) : Option Jn → Jn × Dsk
  | some J => ({ J with op := J.op + 1 }, D.push (J.area * (D.n / 2)) (headB J.gen (J.op + 1) J.first J.size))
  | none => (newJ, (pushes D (0 * (D.n / 2) + 1) (fun i => partB 67 1 0 i (parts ([] : List UInt8).length) (chunk [] i)) (upto (parts ([] : List UInt8).length))).push (0 * (D.n / 2)) (headB 1 1 1 0))
theorem some_blk {w : World} {S : Nat → Prop} {jb d : Nat} {J : Jn} (h : JAt w S jb d J) : ∃ sv rv vs, JIn w S jb d J sv rv vs := h

theorem new_at_all {w : World} {jb d : Nat} (h : JBlk w jb d newJ (.slice none 0 0) (.slice none 0 0)) : JAt w (fun b => b = jb) jb d newJ :=
  ⟨_, _, [], ⟨h, ⟨rfl, .inl ⟨rfl, rfl⟩⟩, ⟨rfl, .inl ⟨rfl, rfl⟩⟩, fun i l hi => by simp [newJ] at hi, ⟨rfl, fun g hg => by simp [Value.ownBlock] at hg, fun g hg => by simp [Value.ownBlock] at hg, fun v hv => by simp at hv⟩, fun b e => e ▸ h.lt⟩⟩
set_option maxRecDepth 100000 in
set_option maxHeartbeats 16000000 in
theorem open_at {P0 P1 : Option Jn → Prop} (R : Option Jn) (Sd : Nat → Prop) (d : Nat) (D : Dsk) (w : World) (h : DiskAt w Sd d D) (hlt : ∀ b, Sd b → b < w.heap.size) (ho : D.off = false) (harm : D.armed = none) (hwr : D.wr.length + 70000 < 1000000) (h4 : 4 ≤ D.n) (k0 : AreaOk D 0 P0) (k1 : AreaOk D 1 P1)
    (hR : ∀ r, Pre P0 P1 2 r → r = R) (hfr : R = none → ∀ b, b < 2 → D.now (b * (D.n / 2)) = noughts) (hop : ∀ J, R = some J → J.op + 1 ≤ 4611686018427387904 ∧ J.gen ≤ 4611686018427387904 ∧ J.first ≤ 4611686018427387904 ∧ J.size ≤ 1048576) :
    Calls Try.prog 9 #[.pointer (some ⟨d, 0, none⟩)] w fun e w' => ∃ jb Sj Sd', e = .returned (.tuple #[.pointer (some ⟨jb, 0, none⟩), .int .i64 0]) ∧ JAt w' Sj jb d (opened D R).1 ∧ DiskAt w' Sd' d (opened D R).2 ∧ (∀ b, Sj b → w.heap.size ≤ b ∧ ¬ Sd' b) ∧ (∀ b, Sd' b → (Sd b ∨ w.heap.size ≤ b) ∧ b < w'.heap.size) ∧ Off Sd w w' := by
  have HD := Lib.hid h
  have HLT := Lib.hid hlt
  have HO := Lib.hid ho
  have HARM := Lib.hid harm
  have HWR := Lib.hid hwr
  have HK0 := Lib.hid k0
  have HK1 := Lib.hid k1
  have HR := Lib.hid hR
  have HFR := Lib.hid hfr
  have HOP := Lib.hid hop
  have HN := Lib.hid h4
  have d4 : decide ((D.n : Int) < 4) = false := by simp; omega
  have doff := ho
  clear h hlt ho harm hwr k0 k1 hR hfr hop h4
  go_enter Try.func9, Try.ntmps9
  go_wp2_with fail
  refine (sectors_at Sd d D w HD.out).mono ?_
  rintro e wq ⟨rfl, hwq⟩
  subst hwq
  go_wp2_with fail
  refine (off_at Sd d D w HD.out).mono ?_
  rintro e wq ⟨rfl, hwq⟩
  subst hwq
  rw [doff]
  clear doff d4
  go_wp2_with fail
  go_loopw [4, 5, 18] (fun jv fv kv wr => ∃ (k : Nat) (r : Option Jn) (fr : Bool), kv = .int .i64 (k : Int) ∧ k ≤ 2 ∧ fv = .bool fr ∧ Pre P0 P1 k r ∧ ((∀ b, b < k → D.now (b * (D.n / 2)) = noughts) → fr = true) ∧ JPtr w wr d jv r ∧ Off (fun _ => False) w wr) (fun _ _ kv _ => 2 - (intOf kv).toNat)
  case atStart => exact ⟨0, none, true, rfl, by decide, rfl, rfl, fun _ => rfl, rfl, Off.refl _ _⟩
  case round =>
    obtain ⟨k, r, fr, rfl, hk2, rfl, hpre, hfr, hptr, hoff⟩ := hrel
    by_cases hk : k < 2
    · have d1 : decide ((k : Int) < 2) = true := by simp; omega
      have HK := Lib.hid hk
      have HPRE := Lib.hid hpre
      have HFRB := Lib.hid hfr
      have HPTR := Lib.hid hptr
      have HOFF := Lib.hid hoff
      clear hk2 hpre hfr hptr hoff hk
      go_upto_region 13 with fail
      have hb1 := (MapKept.heap_alloc wr (.cells (JC d ⟨k, 0, 0, 0, 0, [], [], 0⟩ (.slice none 0 0) (.slice none 0 0)) 57)).1
      have hg1 := World.grownBy_alloc wr (.cells (JC d ⟨k, 0, 0, 0, 0, [], [], 0⟩ (.slice none 0 0) (.slice none 0 0)) 57) none
      have hs1 : (wr.alloc (.cells (JC d ⟨k, 0, 0, 0, 0, [], [], 0⟩ (.slice none 0 0) (.slice none 0 0)) 57)).heap.size = wr.heap.size + 1 := World.size_alloc ..
      obtain ⟨w1, hw1⟩ : ∃ w1, w1 = wr.alloc (.cells (JC d ⟨k, 0, 0, 0, 0, [], [], 0⟩ (.slice none 0 0) (.slice none 0 0)) 57) := ⟨_, rfl⟩
      obtain ⟨xb, hxb⟩ : ∃ xb, xb = wr.heap.size := ⟨_, rfl⟩
      rw [← hw1, ← hxb] at hb1 hs1
      rw [← hw1] at hg1
      have e1 : (wr.alloc (Obj.cells #[Value.pointer (some ⟨d, 0, none⟩), .int .i64 (k : Int), .int .i64 0, .int .i64 0, .int .i64 0, .int .i64 0, .slice none 0 0, .slice none 0 0, .int .i64 0, .int .i64 0] 57)) = w1 := hw1.symm
      rw [e1, ← hxb]
      clear e1
      have HB1 : Hid (JBlk w1 xb d ⟨k, 0, 0, 0, 0, [], [], 0⟩ (.slice none 0 0) (.slice none 0 0)) := hb1
      have HG1 := Lib.hid hg1
      have HWK : Hid (wrap64 ((k : Int) + 1) = ((k + 1 : Nat) : Int)) := by show _ = _; have := HK.out; unfold wrap64; omega
      have HXB : Hid (w.heap.size ≤ xb ∧ wr.heap.size ≤ xb) := by
        have h1 := HOFF.out.size
        exact ⟨by omega, by omega⟩
      have HD1 : Hid (DiskAt w1 Sd d D) := (HD.out.off HOFF.out (fun _ _ _ h => h)).grown HG1.out
      clear hb1 hg1 hs1 hw1 hxb
      -- what is left of the round, behind the flag
      cases fr with
      | true =>
        go_wp2_with fail
        refine (sector_at Sd d D xb _ _ _ 0 w1 HD1.out HB1.out (sec_lt HK.out HN.out) HO.out).mono ?_
        rintro e w2 ⟨gb, rfl, hgb, hgb2, hrb, hg2⟩
        have hrb' : w2.rangeAt gb 0 (u8s (D.now (k * (D.n / 2)))) := hrb
        have HG2 := Lib.hid hg2
        have HGB := Lib.hid (And.intro hgb hgb2)
        clear hrb hg2 hgb hgb2
        go_wp2_with fail
        have hz : (w2.alloc (.cells #[.int .u8 0] 5)).cell? ⟨w2.heap.size, 0, none⟩ = some (.int .u8 0) := cell_blk (MapKept.heap_alloc w2 _).1 0
        have hg2b := World.grownBy_alloc w2 (.cells #[.int .u8 0] 5) none
        obtain ⟨w2b, hw2b⟩ : ∃ w2b, w2b = w2.alloc (.cells #[.int .u8 0] 5) := ⟨_, rfl⟩
        obtain ⟨zb, hzb⟩ : ∃ zb, zb = w2.heap.size := ⟨_, rfl⟩
        rw [← hw2b, ← hzb] at hz
        rw [← hw2b] at hg2b ⊢
        rw [← hzb]
        have HG3 : Hid (w1.grownBy w2b none) := HG2.out.andThen hg2b (fun _ h => .inr h)
        have HLN : Hid ((D.now (k * (D.n / 2))).length = 128) := area_len HK.out HK0.out HK1.out
        refine (count_zeros gb zb 128 128 1 (D.now (k * (D.n / 2))) w2b HLN.out (rangeAt_grown hrb' hg2b) hz).mono ?_
        rintro e wq ⟨rfl, hwq⟩
        have hwq := hwq.symm
        subst hwq
        have hcf := count_full2 _ HLN.out
        obtain ⟨f2, hf2⟩ : ∃ f2, f2 = decide (D.now (k * (D.n / 2)) = noughts) := ⟨_, rfl⟩
        rw [← hf2] at hcf
        have HF2 := Lib.hid hf2
        obtain ⟨cn, hcn⟩ : ∃ cn, cn = (D.now (k * (D.n / 2))).count 0 := ⟨_, rfl⟩
        rw [← hcn] at hcf
        rw [← hcn]
        have HCF := Lib.hid hcf
        clear hcf hrb' hz hg2b hw2b hzb hf2 hcn
        have HF : Hid ((∀ b, b < k + 1 → D.now (b * (D.n / 2)) = noughts) → (((cn : Nat) : Int) == 128) = true) := fun h => by rw [HCF.out, HF2.out, h k (by omega)]; simp
        have HD3 : Hid (DiskAt w2b Sd d D) := HD1.out.grown HG3.out
        have HB3 : Hid (JBlk w2b xb d ⟨k, 0, 0, 0, 0, [], [], 0⟩ (.slice none 0 0) (.slice none 0 0)) := HB1.out.grown HG3.out
        have HP3 : Hid (JPtr w w2b d u4 r) := (HPTR.out.off (Off.of_grown HG1.out (S := fun _ => False) (by simp)) (fun _ _ h => h)).off (Off.of_grown HG3.out (S := fun _ => False) (by simp)) (fun _ _ h => h)
        have HO3 : Hid (Off (fun _ => False) w w2b) := (HOFF.out.trans (Off.of_grown HG1.out (by simp))).trans (Off.of_grown HG3.out (by simp))
        have HX3 : Hid (xb < w2b.heap.size) := HB3.out.lt
        have HPX : Hid (∀ w4, Off (fun b => b = xb) w2b w4 → JPtr w w4 d u4 r) := fun w4 ho => HPTR.out.off (((Off.of_grown HG1.out (by simp) : Off (fun b => b = xb) wr w1).trans (Off.of_grown HG3.out (by simp))).trans ho) (fun b hb e => by have := HXB.out.2; omega)
        clear HPTR
        go_upto_region 14 with fail
        refine wp_region_noPanic ?_
        refine wp_region_held_drew (S := fun _ => True) (by kernel_rfl) ?hSw2ba (fun hHeld => ?_)
        case hSw2ba => trivial
        refine wpAnyH_take (i := 0) (oi := ⟨_, _, _, _, _, _⟩) (v := ?vw2ba0) rfl (by kernel_rfl) (by kernel_rfl) (by kernel_rfl) (fun _ _ _ h => h) (Or.inl ⟨by rfl, ?hyw2ba0⟩) hHeld ?_
        case hyw2ba0 => (intro wS hSw; (try dsimp only at hSw); go_simp; (first | done | with_reducible rfl))
        try simp only [Act.put, List.setIfInBounds_toArray, List.set_cons_zero, List.set_cons_succ]
        refine wpAnyH_ready (rs := [1]) (by kernel_rfl) (by simp) ?_
        refine AllReadyH.cons (o := ⟨_, _, _, _, _, _⟩) rfl (fun K hK => ?_) AllReadyH.nil
        go_simp
        refine (load_area (P := if k = 0 then P0 else P1) Sd d D xb k w2b.drew (HD3.out.grown ⟨rfl, rfl, rfl, Nat.le_refl _, fun _ _ _ => rfl⟩) (fun b hb => Nat.lt_of_lt_of_le (HLT.out b hb) HO3.out.size) (fun hb => by have h1 := HLT.out _ hb; have h2 := HXB.out.1; omega) HB3.out HO.out (by have := HK.out; omega) (by have := HN.out; omega) (area_ok HK.out HK0.out HK1.out)).mono ?_
        rintro e w4 ⟨r', hP, rfl, hJ, ho4⟩
        have HPP := Lib.hid hP
        have HJ := Lib.hid hJ
        have HO4 : Hid (Off (fun b => b = xb) w2b w4) := (Off.of_grown (row := none) ⟨rfl, rfl, rfl, Nat.le_refl _, fun _ _ _ => rfl⟩ (by simp) : Off (fun b => b = xb) w2b w2b.drew).trans ho4
        clear hP hJ ho4
        go_wp2_with fail
        refine hK.out _ _ ?kw2ba1 (fun hNew => ?_)
        case kw2ba1 => (try dsimp only); (try trivial)
        clear hK K hHeld
        have hHeld := hNew
        clear hNew
        try simp only [Act.put, List.setIfInBounds_toArray, List.set_cons_zero, List.set_cons_succ]
        have HP4 : Hid (JPtr w w4 d u4 r) := HPX.out w4 HO4.out
        have HOW : Hid (Off (fun _ => False) w w4) := (HO3.out.trans_new HO4.out (fun b hb => hb ▸ HXB.out.1))
        clear HP3
        rcases r' with _ | J'
        · refine wpAnyH_take (i := 2) (oi := ⟨_, _, _, _, _, _⟩) (v := ?vw2bb2) rfl (by kernel_rfl) (by kernel_rfl) (by kernel_rfl) (fun _ _ _ h => h) (Or.inl ⟨by rfl, ?hyw2bb2⟩) hHeld ?_
          case hyw2bb2 => (intro wS hSw; (try dsimp only at hSw); go_simp; (first | done | with_reducible rfl))
          try simp only [Act.put, List.setIfInBounds_toArray, List.set_cons_zero, List.set_cons_succ]
          refine wpAnyH_take (i := 3) (oi := ⟨_, _, _, _, _, _⟩) (v := undef) rfl (by kernel_rfl) (by kernel_rfl) (by kernel_rfl) (fun _ _ _ h => h) (Or.inr ⟨by rfl, rfl⟩) hHeld ?_
          try simp only [Act.put, List.setIfInBounds_toArray, List.set_cons_zero, List.set_cons_succ]
          refine wpAnyH_take (i := 4) (oi := ⟨_, _, _, _, _, _⟩) (v := undef) rfl (by kernel_rfl) (by kernel_rfl) (by kernel_rfl) (fun _ _ _ h => h) (Or.inr ⟨by rfl, rfl⟩) hHeld ?_
          try simp only [Act.put, List.setIfInBounds_toArray, List.set_cons_zero, List.set_cons_succ]
          refine wpAnyH_take (i := 5) (oi := ⟨_, _, _, _, _, _⟩) (v := undef) rfl (by kernel_rfl) (by kernel_rfl) (by kernel_rfl) (fun _ _ _ h => h) (Or.inr ⟨by rfl, rfl⟩) hHeld ?_
          try simp only [Act.put, List.setIfInBounds_toArray, List.set_cons_zero, List.set_cons_succ]
          refine wpAnyH_take (i := 6) (oi := ⟨_, _, _, _, _, _⟩) (v := undef) rfl (by kernel_rfl) (by kernel_rfl) (by kernel_rfl) (fun _ _ _ h => h) (Or.inr ⟨by rfl, rfl⟩) hHeld ?_
          try simp only [Act.put, List.setIfInBounds_toArray, List.set_cons_zero, List.set_cons_succ]
          refine wpAnyH_take (i := 7) (oi := ⟨_, _, _, _, _, _⟩) (v := undef) rfl (by kernel_rfl) (by kernel_rfl) (by kernel_rfl) (fun _ _ _ h => h) (Or.inr ⟨by rfl, rfl⟩) hHeld ?_
          try simp only [Act.put, List.setIfInBounds_toArray, List.set_cons_zero, List.set_cons_succ]
          refine wpAnyH_take (i := 8) (oi := ⟨_, _, _, _, _, _⟩) (v := undef) rfl (by kernel_rfl) (by kernel_rfl) (by kernel_rfl) (fun _ _ _ h => h) (Or.inr ⟨by rfl, rfl⟩) hHeld ?_
          try simp only [Act.put, List.setIfInBounds_toArray, List.set_cons_zero, List.set_cons_succ]
          refine wpAnyH_take (i := 9) (oi := ⟨_, _, _, _, _, _⟩) (v := undef) rfl (by kernel_rfl) (by kernel_rfl) (by kernel_rfl) (fun _ _ _ h => h) (Or.inr ⟨by rfl, rfl⟩) hHeld ?_
          try simp only [Act.put, List.setIfInBounds_toArray, List.set_cons_zero, List.set_cons_succ]
          refine wpAnyH_take (i := 10) (oi := ⟨_, _, _, _, _, _⟩) (v := undef) rfl (by kernel_rfl) (by kernel_rfl) (by kernel_rfl) (fun _ _ _ h => h) (Or.inr ⟨by rfl, rfl⟩) hHeld ?_
          try simp only [Act.put, List.setIfInBounds_toArray, List.set_cons_zero, List.set_cons_succ]
          refine wpAnyH_take (i := 11) (oi := ⟨_, _, _, _, _, _⟩) (v := undef) rfl (by kernel_rfl) (by kernel_rfl) (by kernel_rfl) (fun _ _ _ h => h) (Or.inr ⟨by rfl, rfl⟩) hHeld ?_
          try simp only [Act.put, List.setIfInBounds_toArray, List.set_cons_zero, List.set_cons_succ]
          refine wpAnyH_take (i := 12) (oi := ⟨_, _, _, _, _, _⟩) (v := undef) rfl (by kernel_rfl) (by kernel_rfl) (by kernel_rfl) (fun _ _ _ h => h) (Or.inr ⟨by rfl, rfl⟩) hHeld ?_
          try simp only [Act.put, List.setIfInBounds_toArray, List.set_cons_zero, List.set_cons_succ]
          refine wpAnyH_take (i := 13) (oi := ⟨_, _, _, _, _, _⟩) (v := undef) rfl (by kernel_rfl) (by kernel_rfl) (by kernel_rfl) (fun _ _ _ h => h) (Or.inr ⟨by rfl, rfl⟩) hHeld ?_
          try simp only [Act.put, List.setIfInBounds_toArray, List.set_cons_zero, List.set_cons_succ]
          refine wpAnyH_take (i := 14) (oi := ⟨_, _, _, _, _, _⟩) (v := undef) rfl (by kernel_rfl) (by kernel_rfl) (by kernel_rfl) (fun _ _ _ h => h) (Or.inr ⟨by rfl, rfl⟩) hHeld ?_
          try simp only [Act.put, List.setIfInBounds_toArray, List.set_cons_zero, List.set_cons_succ]
          refine wpAnyH_take (i := 15) (oi := ⟨_, _, _, _, _, _⟩) (v := undef) rfl (by kernel_rfl) (by kernel_rfl) (by kernel_rfl) (fun _ _ _ h => h) (Or.inr ⟨by rfl, rfl⟩) hHeld ?_
          try simp only [Act.put, List.setIfInBounds_toArray, List.set_cons_zero, List.set_cons_succ]
          refine wpAnyH_take (i := 16) (oi := ⟨_, _, _, _, _, _⟩) (v := undef) rfl (by kernel_rfl) (by kernel_rfl) (by kernel_rfl) (fun _ _ _ h => h) (Or.inr ⟨by rfl, rfl⟩) hHeld ?_
          try simp only [Act.put, List.setIfInBounds_toArray, List.set_cons_zero, List.set_cons_succ]
          refine wpAnyH_take (i := 17) (oi := ⟨_, _, _, _, _, _⟩) (v := undef) rfl (by kernel_rfl) (by kernel_rfl) (by kernel_rfl) (fun _ _ _ h => h) (Or.inr ⟨by rfl, rfl⟩) hHeld ?_
          try simp only [Act.put, List.setIfInBounds_toArray, List.set_cons_zero, List.set_cons_succ]
          refine wpAnyH_take (i := 18) (oi := ⟨_, _, _, _, _, _⟩) (v := ?vw2bb18) rfl (by kernel_rfl) (by kernel_rfl) (by kernel_rfl) (fun _ _ _ h => h) (Or.inl ⟨by rfl, ?hyw2bb18⟩) hHeld ?_
          case hyw2bb18 => (intro wS hSw; (try dsimp only at hSw); go_simp; (first | done | with_reducible rfl))
          try simp only [Act.put, List.setIfInBounds_toArray, List.set_cons_zero, List.set_cons_succ]
          refine wpAnyH_done (by kernel_rfl) ?_ _
          refine NoPanic.normal ?_
          clear hHeld
          go_wp2_with fail
          go_roundw
          case rel => exact ⟨k + 1, choose r none, _, (by rw [HWK.out]), by have := HK.out; omega, rfl, Pre.next HK.out HPRE.out HPP.out, HF.out, by rw [choose_none]; exact HP4.out, HOW.out⟩
          case measure => rw [HWK.out]; have := HK.out; simp only [intOf]; omega
        · rcases r with _ | J
          · have hn := HP4.out
            subst hn
            refine wpAnyH_take (i := 2) (oi := ⟨_, _, _, _, _, _⟩) (v := ?vw2bc2) rfl (by kernel_rfl) (by kernel_rfl) (by kernel_rfl) (fun _ _ _ h => h) (Or.inl ⟨by rfl, ?hyw2bc2⟩) hHeld ?_
            case hyw2bc2 => (intro wS hSw; (try dsimp only at hSw); go_simp; (first | done | with_reducible rfl))
            try simp only [Act.put, List.setIfInBounds_toArray, List.set_cons_zero, List.set_cons_succ]
            refine wpAnyH_take (i := 3) (oi := ⟨_, _, _, _, _, _⟩) (v := ?vw2bc3) rfl (by kernel_rfl) (by kernel_rfl) (by kernel_rfl) (fun _ _ _ h => h) (Or.inl ⟨by rfl, ?hyw2bc3⟩) hHeld ?_
            case hyw2bc3 => (intro wS hSw; (try dsimp only at hSw); go_simp; (first | done | with_reducible rfl))
            try simp only [Act.put, List.setIfInBounds_toArray, List.set_cons_zero, List.set_cons_succ]
            refine wpAnyH_take (i := 4) (oi := ⟨_, _, _, _, _, _⟩) (v := ?vw2bc4) rfl (by kernel_rfl) (by kernel_rfl) (by kernel_rfl) (fun _ _ _ h => h) (Or.inl ⟨by rfl, ?hyw2bc4⟩) hHeld ?_
            case hyw2bc4 => (intro wS hSw; (try dsimp only at hSw); go_simp; (first | done | with_reducible rfl))
            try simp only [Act.put, List.setIfInBounds_toArray, List.set_cons_zero, List.set_cons_succ]
            refine wpAnyH_take (i := 5) (oi := ⟨_, _, _, _, _, _⟩) (v := ?vw2bc5) rfl (by kernel_rfl) (by kernel_rfl) (by kernel_rfl) (fun _ _ _ h => h) (Or.inl ⟨by rfl, ?hyw2bc5⟩) hHeld ?_
            case hyw2bc5 => (intro wS hSw; (try dsimp only at hSw); go_simp; (first | done | with_reducible rfl))
            try simp only [Act.put, List.setIfInBounds_toArray, List.set_cons_zero, List.set_cons_succ]
            refine wpAnyH_take (i := 6) (oi := ⟨_, _, _, _, _, _⟩) (v := undef) rfl (by kernel_rfl) (by kernel_rfl) (by kernel_rfl) (fun _ _ _ h => h) (Or.inr ⟨by rfl, rfl⟩) hHeld ?_
            try simp only [Act.put, List.setIfInBounds_toArray, List.set_cons_zero, List.set_cons_succ]
            refine wpAnyH_take (i := 7) (oi := ⟨_, _, _, _, _, _⟩) (v := undef) rfl (by kernel_rfl) (by kernel_rfl) (by kernel_rfl) (fun _ _ _ h => h) (Or.inr ⟨by rfl, rfl⟩) hHeld ?_
            try simp only [Act.put, List.setIfInBounds_toArray, List.set_cons_zero, List.set_cons_succ]
            refine wpAnyH_take (i := 8) (oi := ⟨_, _, _, _, _, _⟩) (v := undef) rfl (by kernel_rfl) (by kernel_rfl) (by kernel_rfl) (fun _ _ _ h => h) (Or.inr ⟨by rfl, rfl⟩) hHeld ?_
            try simp only [Act.put, List.setIfInBounds_toArray, List.set_cons_zero, List.set_cons_succ]
            refine wpAnyH_take (i := 9) (oi := ⟨_, _, _, _, _, _⟩) (v := undef) rfl (by kernel_rfl) (by kernel_rfl) (by kernel_rfl) (fun _ _ _ h => h) (Or.inr ⟨by rfl, rfl⟩) hHeld ?_
            try simp only [Act.put, List.setIfInBounds_toArray, List.set_cons_zero, List.set_cons_succ]
            refine wpAnyH_take (i := 10) (oi := ⟨_, _, _, _, _, _⟩) (v := undef) rfl (by kernel_rfl) (by kernel_rfl) (by kernel_rfl) (fun _ _ _ h => h) (Or.inr ⟨by rfl, rfl⟩) hHeld ?_
            try simp only [Act.put, List.setIfInBounds_toArray, List.set_cons_zero, List.set_cons_succ]
            refine wpAnyH_take (i := 11) (oi := ⟨_, _, _, _, _, _⟩) (v := undef) rfl (by kernel_rfl) (by kernel_rfl) (by kernel_rfl) (fun _ _ _ h => h) (Or.inr ⟨by rfl, rfl⟩) hHeld ?_
            try simp only [Act.put, List.setIfInBounds_toArray, List.set_cons_zero, List.set_cons_succ]
            refine wpAnyH_take (i := 12) (oi := ⟨_, _, _, _, _, _⟩) (v := undef) rfl (by kernel_rfl) (by kernel_rfl) (by kernel_rfl) (fun _ _ _ h => h) (Or.inr ⟨by rfl, rfl⟩) hHeld ?_
            try simp only [Act.put, List.setIfInBounds_toArray, List.set_cons_zero, List.set_cons_succ]
            refine wpAnyH_take (i := 13) (oi := ⟨_, _, _, _, _, _⟩) (v := undef) rfl (by kernel_rfl) (by kernel_rfl) (by kernel_rfl) (fun _ _ _ h => h) (Or.inr ⟨by rfl, rfl⟩) hHeld ?_
            try simp only [Act.put, List.setIfInBounds_toArray, List.set_cons_zero, List.set_cons_succ]
            refine wpAnyH_take (i := 14) (oi := ⟨_, _, _, _, _, _⟩) (v := undef) rfl (by kernel_rfl) (by kernel_rfl) (by kernel_rfl) (fun _ _ _ h => h) (Or.inr ⟨by rfl, rfl⟩) hHeld ?_
            try simp only [Act.put, List.setIfInBounds_toArray, List.set_cons_zero, List.set_cons_succ]
            refine wpAnyH_take (i := 15) (oi := ⟨_, _, _, _, _, _⟩) (v := undef) rfl (by kernel_rfl) (by kernel_rfl) (by kernel_rfl) (fun _ _ _ h => h) (Or.inr ⟨by rfl, rfl⟩) hHeld ?_
            try simp only [Act.put, List.setIfInBounds_toArray, List.set_cons_zero, List.set_cons_succ]
            refine wpAnyH_take (i := 16) (oi := ⟨_, _, _, _, _, _⟩) (v := undef) rfl (by kernel_rfl) (by kernel_rfl) (by kernel_rfl) (fun _ _ _ h => h) (Or.inr ⟨by rfl, rfl⟩) hHeld ?_
            try simp only [Act.put, List.setIfInBounds_toArray, List.set_cons_zero, List.set_cons_succ]
            refine wpAnyH_take (i := 17) (oi := ⟨_, _, _, _, _, _⟩) (v := ?vw2bc17) rfl (by kernel_rfl) (by kernel_rfl) (by kernel_rfl) (fun _ _ _ h => h) (Or.inl ⟨by rfl, ?hyw2bc17⟩) hHeld ?_
            case hyw2bc17 => (intro wS hSw; (try dsimp only at hSw); go_simp; (first | done | with_reducible rfl))
            try simp only [Act.put, List.setIfInBounds_toArray, List.set_cons_zero, List.set_cons_succ]
            refine wpAnyH_take (i := 18) (oi := ⟨_, _, _, _, _, _⟩) (v := ?vw2bc18) rfl (by kernel_rfl) (by kernel_rfl) (by kernel_rfl) (fun _ _ _ h => h) (Or.inl ⟨by rfl, ?hyw2bc18⟩) hHeld ?_
            case hyw2bc18 => (intro wS hSw; (try dsimp only at hSw); go_simp; (first | done | with_reducible rfl))
            try simp only [Act.put, List.setIfInBounds_toArray, List.set_cons_zero, List.set_cons_succ]
            refine wpAnyH_done (by kernel_rfl) ?_ _
            refine NoPanic.normal ?_
            clear hHeld
            go_wp2_with fail
            go_roundw
            case rel => exact ⟨k + 1, choose none (some J'), _, (by rw [HWK.out]), by have := HK.out; omega, rfl, Pre.next HK.out HPRE.out HPP.out, HF.out, new_ptr HJ.out HK.out HXB.out.1 HO3.out.size HX3.out HO4.out.size rfl, HOW.out⟩
            case measure => rw [HWK.out]; have := HK.out; simp only [intOf]; omega
          · obtain ⟨jb, hjb, hjw, hja, svj, rvj, vsj, hjj⟩ := HP4.out
            subst hjb
            obtain ⟨svx, rvx, vsx, hxx⟩ := (HJ.out J' rfl).2
            have cx : w4.cell? ⟨xb, 2, none⟩ = some (.int .i64 (J'.gen : Int)) := hxx.blk.cell 2
            have cj : w4.cell? ⟨jb, 2, none⟩ = some (.int .i64 (J.gen : Int)) := hjj.blk.cell 2
            clear hxx hjj
            refine wpAnyH_take (i := 2) (oi := ⟨_, _, _, _, _, _⟩) (v := ?vw2bd2) rfl (by kernel_rfl) (by kernel_rfl) (by kernel_rfl) (fun _ _ _ h => h) (Or.inl ⟨by rfl, ?hyw2bd2⟩) hHeld ?_
            case hyw2bd2 => (intro wS hSw; (try dsimp only at hSw); go_simp; (first | done | with_reducible rfl))
            try simp only [Act.put, List.setIfInBounds_toArray, List.set_cons_zero, List.set_cons_succ]
            refine wpAnyH_take (i := 3) (oi := ⟨_, _, _, _, _, _⟩) (v := ?vw2bd3) rfl (by kernel_rfl) (by kernel_rfl) (by kernel_rfl) (fun _ _ _ h => h) (Or.inl ⟨by rfl, ?hyw2bd3⟩) hHeld ?_
            case hyw2bd3 => (intro wS hSw; (try dsimp only at hSw); go_simp; (first | done | with_reducible rfl))
            try simp only [Act.put, List.setIfInBounds_toArray, List.set_cons_zero, List.set_cons_succ]
            refine wpAnyH_take (i := 4) (oi := ⟨_, _, _, _, _, _⟩) (v := ?vw2bd4) rfl (by kernel_rfl) (by kernel_rfl) (by kernel_rfl) (fun _ _ _ h => h) (Or.inl ⟨by rfl, ?hyw2bd4⟩) hHeld ?_
            case hyw2bd4 => (intro wS hSw; (try dsimp only at hSw); go_simp; (first | done | with_reducible rfl))
            try simp only [Act.put, List.setIfInBounds_toArray, List.set_cons_zero, List.set_cons_succ]
            refine wpAnyH_take (i := 5) (oi := ⟨_, _, _, _, _, _⟩) (v := ?vw2bd5) rfl (by kernel_rfl) (by kernel_rfl) (by kernel_rfl) (fun _ _ _ h => h) (Or.inl ⟨by rfl, ?hyw2bd5⟩) hHeld ?_
            case hyw2bd5 => (intro wS hSw; (try dsimp only at hSw); go_simp; (first | done | with_reducible rfl))
            try simp only [Act.put, List.setIfInBounds_toArray, List.set_cons_zero, List.set_cons_succ]
            refine wpAnyH_take (i := 6) (oi := ⟨_, _, _, _, _, _⟩) (v := ?vw2bd6) rfl (by kernel_rfl) (by kernel_rfl) (by kernel_rfl) (fun _ _ _ h => h) (Or.inl ⟨by rfl, ?hyw2bd6⟩) hHeld ?_
            case hyw2bd6 => (intro wS hSw; (try dsimp only at hSw); go_simp; (first | done | with_reducible rfl))
            try simp only [Act.put, List.setIfInBounds_toArray, List.set_cons_zero, List.set_cons_succ]
            refine wpAnyH_take (i := 7) (oi := ⟨_, _, _, _, _, _⟩) (v := ?vw2bd7) rfl (by kernel_rfl) (by kernel_rfl) (by kernel_rfl) (fun _ _ _ h => h) (Or.inl ⟨by rfl, ?hyw2bd7⟩) hHeld ?_
            case hyw2bd7 => (intro wS hSw; (try dsimp only at hSw); go_simp; (first | done | with_reducible rfl))
            try simp only [Act.put, List.setIfInBounds_toArray, List.set_cons_zero, List.set_cons_succ]
            refine wpAnyH_take (i := 8) (oi := ⟨_, _, _, _, _, _⟩) (v := ?vw2bd8) rfl (by kernel_rfl) (by kernel_rfl) (by kernel_rfl) (fun _ _ _ h => h) (Or.inl ⟨by rfl, ?hyw2bd8⟩) hHeld ?_
            case hyw2bd8 => (intro wS hSw; (try dsimp only at hSw); go_simp; (first | done | with_reducible rfl))
            try simp only [Act.put, List.setIfInBounds_toArray, List.set_cons_zero, List.set_cons_succ]
            refine wpAnyH_take (i := 9) (oi := ⟨_, _, _, _, _, _⟩) (v := ?vw2bd9) rfl (by kernel_rfl) (by kernel_rfl) (by kernel_rfl) (fun _ _ _ h => h) (Or.inl ⟨by rfl, ?hyw2bd9⟩) hHeld ?_
            case hyw2bd9 => (intro wS hSw; (try dsimp only at hSw); go_simp; (first | done | with_reducible rfl))
            try simp only [Act.put, List.setIfInBounds_toArray, List.set_cons_zero, List.set_cons_succ]
            refine wpAnyH_take (i := 11) (oi := ⟨_, _, _, _, _, _⟩) (v := ?vw2bd11) rfl (by kernel_rfl) (by kernel_rfl) (by kernel_rfl) (fun _ _ _ h => h) (Or.inl ⟨by rfl, ?hyw2bd11⟩) hHeld ?_
            case hyw2bd11 => (intro wS hSw; (try dsimp only at hSw); go_simp; (first | done | with_reducible rfl))
            try simp only [Act.put, List.setIfInBounds_toArray, List.set_cons_zero, List.set_cons_succ]
            refine wpAnyH_take (i := 12) (oi := ⟨_, _, _, _, _, _⟩) (v := ?vw2bd12) rfl (by kernel_rfl) (by kernel_rfl) (by kernel_rfl) (fun _ _ _ h => h) (Or.inl ⟨by rfl, ?hyw2bd12⟩) hHeld ?_
            case hyw2bd12 => (intro wS hSw; (try dsimp only at hSw); go_simp; (first | done | with_reducible rfl))
            try simp only [Act.put, List.setIfInBounds_toArray, List.set_cons_zero, List.set_cons_succ]
            refine wpAnyH_take (i := 13) (oi := ⟨_, _, _, _, _, _⟩) (v := ?vw2bd13) rfl (by kernel_rfl) (by kernel_rfl) (by kernel_rfl) (fun _ _ _ h => h) (Or.inl ⟨by rfl, ?hyw2bd13⟩) hHeld ?_
            case hyw2bd13 => (intro wS hSw; (try dsimp only at hSw); go_simp; (first | done | with_reducible rfl))
            try simp only [Act.put, List.setIfInBounds_toArray, List.set_cons_zero, List.set_cons_succ]
            refine wpAnyH_take (i := 14) (oi := ⟨_, _, _, _, _, _⟩) (v := ?vw2bd14) rfl (by kernel_rfl) (by kernel_rfl) (by kernel_rfl) (fun _ _ _ h => h) (Or.inl ⟨by rfl, ?hyw2bd14⟩) hHeld ?_
            case hyw2bd14 => (intro wS hSw; (try dsimp only at hSw); go_simp; (first | done | with_reducible rfl))
            try simp only [Act.put, List.setIfInBounds_toArray, List.set_cons_zero, List.set_cons_succ]
            refine wpAnyH_ready (rs := [10, 15]) (by kernel_rfl) (by simp) ?_
            refine AllReadyH.cons (o := ⟨_, _, _, _, _, _⟩) rfl (fun K hK => ?_) (AllReadyH.cons (o := ⟨_, _, _, _, _, _⟩) rfl (fun K hK => ?_) AllReadyH.nil)
            · go_simp
              refine hK.out _ _ ?kw2bdx10 (fun hNew => ?_)
              case kw2bdx10 => (try dsimp only); (try trivial)
              clear hK K hHeld
              have hHeld := hNew
              clear hNew
              try simp only [Act.put, List.setIfInBounds_toArray, List.set_cons_zero, List.set_cons_succ]
              refine wpAnyH_ready (rs := [15]) (by kernel_rfl) (by simp) ?_
              refine AllReadyH.cons (o := ⟨_, _, _, _, _, _⟩) rfl (fun K hK => ?_) AllReadyH.nil
              go_simp
              refine hK.out _ _ ?kw2bdx15 (fun hNew => ?_)
              case kw2bdx15 => (try dsimp only); (try trivial)
              clear hK K hHeld
              have hHeld := hNew
              clear hNew
              try simp only [Act.put, List.setIfInBounds_toArray, List.set_cons_zero, List.set_cons_succ]
              refine wpAnyH_take (i := 16) (oi := ⟨_, _, _, _, _, _⟩) (v := ?vw2bdx16) rfl (by kernel_rfl) (by kernel_rfl) (by kernel_rfl) (fun _ _ _ h => h) (Or.inl ⟨by rfl, ?hyw2bdx16⟩) hHeld ?_
              case hyw2bdx16 => (intro wS hSw; (try dsimp only at hSw); go_simp; (first | done | with_reducible rfl))
              try simp only [Act.put, List.setIfInBounds_toArray, List.set_cons_zero, List.set_cons_succ]
              refine wpAnyH_take (i := 17) (oi := ⟨_, _, _, _, _, _⟩) (v := ?vw2bdx17) rfl (by kernel_rfl) (by kernel_rfl) (by kernel_rfl) (fun _ _ _ h => h) (Or.inl ⟨by rfl, ?hyw2bdx17⟩) hHeld ?_
              case hyw2bdx17 => (intro wS hSw; (try dsimp only at hSw); go_simp; (first | done | with_reducible rfl))
              try simp only [Act.put, List.setIfInBounds_toArray, List.set_cons_zero, List.set_cons_succ]
              refine wpAnyH_take (i := 18) (oi := ⟨_, _, _, _, _, _⟩) (v := ?vw2bdx18) rfl (by kernel_rfl) (by kernel_rfl) (by kernel_rfl) (fun _ _ _ h => h) (Or.inl ⟨by rfl, ?hyw2bdx18⟩) hHeld ?_
              case hyw2bdx18 => (intro wS hSw; (try dsimp only at hSw); go_simp; (first | done | with_reducible rfl))
              try simp only [Act.put, List.setIfInBounds_toArray, List.set_cons_zero, List.set_cons_succ]
              refine wpAnyH_done (by kernel_rfl) ?_ _
              refine NoPanic.normal ?_
              clear hHeld
              by_cases hgt : J.gen < J'.gen
              · have dg : decide ((J.gen : Int) < (J'.gen : Int)) = true := by simp; omega
                go_wp2_with fail
                go_roundw
                case rel => exact ⟨k + 1, choose (some J) (some J'), _, (by rw [HWK.out]), by have := HK.out; omega, rfl, Pre.next HK.out HPRE.out HPP.out, HF.out, by rw [show choose (some J) (some J') = some J' from if_pos hgt]; exact new_ptr HJ.out HK.out HXB.out.1 HO3.out.size HX3.out HO4.out.size rfl, HOW.out⟩
                case measure => rw [HWK.out]; have := HK.out; simp only [intOf]; omega
              · have dg : decide ((J.gen : Int) < (J'.gen : Int)) = false := by simp; omega
                go_wp2_with fail
                go_roundw
                case rel => exact ⟨k + 1, choose (some J) (some J'), _, (by rw [HWK.out]), by have := HK.out; omega, rfl, Pre.next HK.out HPRE.out HPP.out, HF.out, by rw [show choose (some J) (some J') = some J from if_neg hgt]; exact HP4.out, HOW.out⟩
                case measure => rw [HWK.out]; have := HK.out; simp only [intOf]; omega
            · go_simp
              refine hK.out _ _ ?kw2bdy15 (fun hNew => ?_)
              case kw2bdy15 => (try dsimp only); (try trivial)
              clear hK K hHeld
              have hHeld := hNew
              clear hNew
              try simp only [Act.put, List.setIfInBounds_toArray, List.set_cons_zero, List.set_cons_succ]
              refine wpAnyH_ready (rs := [10]) (by kernel_rfl) (by simp) ?_
              refine AllReadyH.cons (o := ⟨_, _, _, _, _, _⟩) rfl (fun K hK => ?_) AllReadyH.nil
              go_simp
              refine hK.out _ _ ?kw2bdy10 (fun hNew => ?_)
              case kw2bdy10 => (try dsimp only); (try trivial)
              clear hK K hHeld
              have hHeld := hNew
              clear hNew
              try simp only [Act.put, List.setIfInBounds_toArray, List.set_cons_zero, List.set_cons_succ]
              refine wpAnyH_take (i := 16) (oi := ⟨_, _, _, _, _, _⟩) (v := ?vw2bdy16) rfl (by kernel_rfl) (by kernel_rfl) (by kernel_rfl) (fun _ _ _ h => h) (Or.inl ⟨by rfl, ?hyw2bdy16⟩) hHeld ?_
              case hyw2bdy16 => (intro wS hSw; (try dsimp only at hSw); go_simp; (first | done | with_reducible rfl))
              try simp only [Act.put, List.setIfInBounds_toArray, List.set_cons_zero, List.set_cons_succ]
              refine wpAnyH_take (i := 17) (oi := ⟨_, _, _, _, _, _⟩) (v := ?vw2bdy17) rfl (by kernel_rfl) (by kernel_rfl) (by kernel_rfl) (fun _ _ _ h => h) (Or.inl ⟨by rfl, ?hyw2bdy17⟩) hHeld ?_
              case hyw2bdy17 => (intro wS hSw; (try dsimp only at hSw); go_simp; (first | done | with_reducible rfl))
              try simp only [Act.put, List.setIfInBounds_toArray, List.set_cons_zero, List.set_cons_succ]
              refine wpAnyH_take (i := 18) (oi := ⟨_, _, _, _, _, _⟩) (v := ?vw2bdy18) rfl (by kernel_rfl) (by kernel_rfl) (by kernel_rfl) (fun _ _ _ h => h) (Or.inl ⟨by rfl, ?hyw2bdy18⟩) hHeld ?_
              case hyw2bdy18 => (intro wS hSw; (try dsimp only at hSw); go_simp; (first | done | with_reducible rfl))
              try simp only [Act.put, List.setIfInBounds_toArray, List.set_cons_zero, List.set_cons_succ]
              refine wpAnyH_done (by kernel_rfl) ?_ _
              refine NoPanic.normal ?_
              clear hHeld
              by_cases hgt : J.gen < J'.gen
              · have dg : decide ((J.gen : Int) < (J'.gen : Int)) = true := by simp; omega
                go_wp2_with fail
                go_roundw
                case rel => exact ⟨k + 1, choose (some J) (some J'), _, (by rw [HWK.out]), by have := HK.out; omega, rfl, Pre.next HK.out HPRE.out HPP.out, HF.out, by rw [show choose (some J) (some J') = some J' from if_pos hgt]; exact new_ptr HJ.out HK.out HXB.out.1 HO3.out.size HX3.out HO4.out.size rfl, HOW.out⟩
                case measure => rw [HWK.out]; have := HK.out; simp only [intOf]; omega
              · have dg : decide ((J.gen : Int) < (J'.gen : Int)) = false := by simp; omega
                go_wp2_with fail
                go_roundw
                case rel => exact ⟨k + 1, choose (some J) (some J'), _, (by rw [HWK.out]), by have := HK.out; omega, rfl, Pre.next HK.out HPRE.out HPP.out, HF.out, by rw [show choose (some J) (some J') = some J from if_neg hgt]; exact HP4.out, HOW.out⟩
                case measure => rw [HWK.out]; have := HK.out; simp only [intOf]; omega
      | false =>
        have HF : Hid ((∀ b, b < k + 1 → D.now (b * (D.n / 2)) = noughts) → false = true) := fun h => HFRB.out (fun b hb => h b (by omega))
        have HP3 : Hid (JPtr w w1 d u4 r) := HPTR.out.off (Off.of_grown HG1.out (S := fun _ => False) (by simp)) (fun _ _ h => h)
        have HO3 : Hid (Off (fun _ => False) w w1) := HOFF.out.trans (Off.of_grown HG1.out (by simp))
        have HX3 : Hid (xb < w1.heap.size) := HB1.out.lt
        have HD3 := HD1
        have HB3 := HB1
        have HPX : Hid (∀ w4, Off (fun b => b = xb) w1 w4 → JPtr w w4 d u4 r) := fun w4 ho => HPTR.out.off (((Off.of_grown HG1.out (by simp) : Off (fun b => b = xb) wr w1)).trans ho) (fun b hb e => by have := HXB.out.2; omega)
        clear HPTR
        go_upto_region 14 with fail
        refine wp_region_noPanic ?_
        refine wp_region_held_drew (S := fun _ => True) (by kernel_rfl) ?hSw1a (fun hHeld => ?_)
        case hSw1a => trivial
        refine wpAnyH_take (i := 0) (oi := ⟨_, _, _, _, _, _⟩) (v := ?vw1a0) rfl (by kernel_rfl) (by kernel_rfl) (by kernel_rfl) (fun _ _ _ h => h) (Or.inl ⟨by rfl, ?hyw1a0⟩) hHeld ?_
        case hyw1a0 => (intro wS hSw; (try dsimp only at hSw); go_simp; (first | done | with_reducible rfl))
        try simp only [Act.put, List.setIfInBounds_toArray, List.set_cons_zero, List.set_cons_succ]
        refine wpAnyH_ready (rs := [1]) (by kernel_rfl) (by simp) ?_
        refine AllReadyH.cons (o := ⟨_, _, _, _, _, _⟩) rfl (fun K hK => ?_) AllReadyH.nil
        go_simp
        refine (load_area (P := if k = 0 then P0 else P1) Sd d D xb k w1.drew (HD3.out.grown ⟨rfl, rfl, rfl, Nat.le_refl _, fun _ _ _ => rfl⟩) (fun b hb => Nat.lt_of_lt_of_le (HLT.out b hb) HO3.out.size) (fun hb => by have h1 := HLT.out _ hb; have h2 := HXB.out.1; omega) HB3.out HO.out (by have := HK.out; omega) (by have := HN.out; omega) (area_ok HK.out HK0.out HK1.out)).mono ?_
        rintro e w4 ⟨r', hP, rfl, hJ, ho4⟩
        have HPP := Lib.hid hP
        have HJ := Lib.hid hJ
        have HO4 : Hid (Off (fun b => b = xb) w1 w4) := (Off.of_grown (row := none) ⟨rfl, rfl, rfl, Nat.le_refl _, fun _ _ _ => rfl⟩ (by simp) : Off (fun b => b = xb) w1 w1.drew).trans ho4
        clear hP hJ ho4
        go_wp2_with fail
        refine hK.out _ _ ?kw1a1 (fun hNew => ?_)
        case kw1a1 => (try dsimp only); (try trivial)
        clear hK K hHeld
        have hHeld := hNew
        clear hNew
        try simp only [Act.put, List.setIfInBounds_toArray, List.set_cons_zero, List.set_cons_succ]
        have HP4 : Hid (JPtr w w4 d u4 r) := HPX.out w4 HO4.out
        have HOW : Hid (Off (fun _ => False) w w4) := (HO3.out.trans_new HO4.out (fun b hb => hb ▸ HXB.out.1))
        clear HP3
        rcases r' with _ | J'
        · refine wpAnyH_take (i := 2) (oi := ⟨_, _, _, _, _, _⟩) (v := ?vw1b2) rfl (by kernel_rfl) (by kernel_rfl) (by kernel_rfl) (fun _ _ _ h => h) (Or.inl ⟨by rfl, ?hyw1b2⟩) hHeld ?_
          case hyw1b2 => (intro wS hSw; (try dsimp only at hSw); go_simp; (first | done | with_reducible rfl))
          try simp only [Act.put, List.setIfInBounds_toArray, List.set_cons_zero, List.set_cons_succ]
          refine wpAnyH_take (i := 3) (oi := ⟨_, _, _, _, _, _⟩) (v := undef) rfl (by kernel_rfl) (by kernel_rfl) (by kernel_rfl) (fun _ _ _ h => h) (Or.inr ⟨by rfl, rfl⟩) hHeld ?_
          try simp only [Act.put, List.setIfInBounds_toArray, List.set_cons_zero, List.set_cons_succ]
          refine wpAnyH_take (i := 4) (oi := ⟨_, _, _, _, _, _⟩) (v := undef) rfl (by kernel_rfl) (by kernel_rfl) (by kernel_rfl) (fun _ _ _ h => h) (Or.inr ⟨by rfl, rfl⟩) hHeld ?_
          try simp only [Act.put, List.setIfInBounds_toArray, List.set_cons_zero, List.set_cons_succ]
          refine wpAnyH_take (i := 5) (oi := ⟨_, _, _, _, _, _⟩) (v := undef) rfl (by kernel_rfl) (by kernel_rfl) (by kernel_rfl) (fun _ _ _ h => h) (Or.inr ⟨by rfl, rfl⟩) hHeld ?_
          try simp only [Act.put, List.setIfInBounds_toArray, List.set_cons_zero, List.set_cons_succ]
          refine wpAnyH_take (i := 6) (oi := ⟨_, _, _, _, _, _⟩) (v := undef) rfl (by kernel_rfl) (by kernel_rfl) (by kernel_rfl) (fun _ _ _ h => h) (Or.inr ⟨by rfl, rfl⟩) hHeld ?_
          try simp only [Act.put, List.setIfInBounds_toArray, List.set_cons_zero, List.set_cons_succ]
          refine wpAnyH_take (i := 7) (oi := ⟨_, _, _, _, _, _⟩) (v := undef) rfl (by kernel_rfl) (by kernel_rfl) (by kernel_rfl) (fun _ _ _ h => h) (Or.inr ⟨by rfl, rfl⟩) hHeld ?_
          try simp only [Act.put, List.setIfInBounds_toArray, List.set_cons_zero, List.set_cons_succ]
          refine wpAnyH_take (i := 8) (oi := ⟨_, _, _, _, _, _⟩) (v := undef) rfl (by kernel_rfl) (by kernel_rfl) (by kernel_rfl) (fun _ _ _ h => h) (Or.inr ⟨by rfl, rfl⟩) hHeld ?_
          try simp only [Act.put, List.setIfInBounds_toArray, List.set_cons_zero, List.set_cons_succ]
          refine wpAnyH_take (i := 9) (oi := ⟨_, _, _, _, _, _⟩) (v := undef) rfl (by kernel_rfl) (by kernel_rfl) (by kernel_rfl) (fun _ _ _ h => h) (Or.inr ⟨by rfl, rfl⟩) hHeld ?_
          try simp only [Act.put, List.setIfInBounds_toArray, List.set_cons_zero, List.set_cons_succ]
          refine wpAnyH_take (i := 10) (oi := ⟨_, _, _, _, _, _⟩) (v := undef) rfl (by kernel_rfl) (by kernel_rfl) (by kernel_rfl) (fun _ _ _ h => h) (Or.inr ⟨by rfl, rfl⟩) hHeld ?_
          try simp only [Act.put, List.setIfInBounds_toArray, List.set_cons_zero, List.set_cons_succ]
          refine wpAnyH_take (i := 11) (oi := ⟨_, _, _, _, _, _⟩) (v := undef) rfl (by kernel_rfl) (by kernel_rfl) (by kernel_rfl) (fun _ _ _ h => h) (Or.inr ⟨by rfl, rfl⟩) hHeld ?_
          try simp only [Act.put, List.setIfInBounds_toArray, List.set_cons_zero, List.set_cons_succ]
          refine wpAnyH_take (i := 12) (oi := ⟨_, _, _, _, _, _⟩) (v := undef) rfl (by kernel_rfl) (by kernel_rfl) (by kernel_rfl) (fun _ _ _ h => h) (Or.inr ⟨by rfl, rfl⟩) hHeld ?_
          try simp only [Act.put, List.setIfInBounds_toArray, List.set_cons_zero, List.set_cons_succ]
          refine wpAnyH_take (i := 13) (oi := ⟨_, _, _, _, _, _⟩) (v := undef) rfl (by kernel_rfl) (by kernel_rfl) (by kernel_rfl) (fun _ _ _ h => h) (Or.inr ⟨by rfl, rfl⟩) hHeld ?_
          try simp only [Act.put, List.setIfInBounds_toArray, List.set_cons_zero, List.set_cons_succ]
          refine wpAnyH_take (i := 14) (oi := ⟨_, _, _, _, _, _⟩) (v := undef) rfl (by kernel_rfl) (by kernel_rfl) (by kernel_rfl) (fun _ _ _ h => h) (Or.inr ⟨by rfl, rfl⟩) hHeld ?_
          try simp only [Act.put, List.setIfInBounds_toArray, List.set_cons_zero, List.set_cons_succ]
          refine wpAnyH_take (i := 15) (oi := ⟨_, _, _, _, _, _⟩) (v := undef) rfl (by kernel_rfl) (by kernel_rfl) (by kernel_rfl) (fun _ _ _ h => h) (Or.inr ⟨by rfl, rfl⟩) hHeld ?_
          try simp only [Act.put, List.setIfInBounds_toArray, List.set_cons_zero, List.set_cons_succ]
          refine wpAnyH_take (i := 16) (oi := ⟨_, _, _, _, _, _⟩) (v := undef) rfl (by kernel_rfl) (by kernel_rfl) (by kernel_rfl) (fun _ _ _ h => h) (Or.inr ⟨by rfl, rfl⟩) hHeld ?_
          try simp only [Act.put, List.setIfInBounds_toArray, List.set_cons_zero, List.set_cons_succ]
          refine wpAnyH_take (i := 17) (oi := ⟨_, _, _, _, _, _⟩) (v := undef) rfl (by kernel_rfl) (by kernel_rfl) (by kernel_rfl) (fun _ _ _ h => h) (Or.inr ⟨by rfl, rfl⟩) hHeld ?_
          try simp only [Act.put, List.setIfInBounds_toArray, List.set_cons_zero, List.set_cons_succ]
          refine wpAnyH_take (i := 18) (oi := ⟨_, _, _, _, _, _⟩) (v := ?vw1b18) rfl (by kernel_rfl) (by kernel_rfl) (by kernel_rfl) (fun _ _ _ h => h) (Or.inl ⟨by rfl, ?hyw1b18⟩) hHeld ?_
          case hyw1b18 => (intro wS hSw; (try dsimp only at hSw); go_simp; (first | done | with_reducible rfl))
          try simp only [Act.put, List.setIfInBounds_toArray, List.set_cons_zero, List.set_cons_succ]
          refine wpAnyH_done (by kernel_rfl) ?_ _
          refine NoPanic.normal ?_
          clear hHeld
          go_wp2_with fail
          go_roundw
          case rel => exact ⟨k + 1, choose r none, _, (by rw [HWK.out]), by have := HK.out; omega, rfl, Pre.next HK.out HPRE.out HPP.out, HF.out, by rw [choose_none]; exact HP4.out, HOW.out⟩
          case measure => rw [HWK.out]; have := HK.out; simp only [intOf]; omega
        · rcases r with _ | J
          · have hn := HP4.out
            subst hn
            refine wpAnyH_take (i := 2) (oi := ⟨_, _, _, _, _, _⟩) (v := ?vw1c2) rfl (by kernel_rfl) (by kernel_rfl) (by kernel_rfl) (fun _ _ _ h => h) (Or.inl ⟨by rfl, ?hyw1c2⟩) hHeld ?_
            case hyw1c2 => (intro wS hSw; (try dsimp only at hSw); go_simp; (first | done | with_reducible rfl))
            try simp only [Act.put, List.setIfInBounds_toArray, List.set_cons_zero, List.set_cons_succ]
            refine wpAnyH_take (i := 3) (oi := ⟨_, _, _, _, _, _⟩) (v := ?vw1c3) rfl (by kernel_rfl) (by kernel_rfl) (by kernel_rfl) (fun _ _ _ h => h) (Or.inl ⟨by rfl, ?hyw1c3⟩) hHeld ?_
            case hyw1c3 => (intro wS hSw; (try dsimp only at hSw); go_simp; (first | done | with_reducible rfl))
            try simp only [Act.put, List.setIfInBounds_toArray, List.set_cons_zero, List.set_cons_succ]
            refine wpAnyH_take (i := 4) (oi := ⟨_, _, _, _, _, _⟩) (v := ?vw1c4) rfl (by kernel_rfl) (by kernel_rfl) (by kernel_rfl) (fun _ _ _ h => h) (Or.inl ⟨by rfl, ?hyw1c4⟩) hHeld ?_
            case hyw1c4 => (intro wS hSw; (try dsimp only at hSw); go_simp; (first | done | with_reducible rfl))
            try simp only [Act.put, List.setIfInBounds_toArray, List.set_cons_zero, List.set_cons_succ]
            refine wpAnyH_take (i := 5) (oi := ⟨_, _, _, _, _, _⟩) (v := ?vw1c5) rfl (by kernel_rfl) (by kernel_rfl) (by kernel_rfl) (fun _ _ _ h => h) (Or.inl ⟨by rfl, ?hyw1c5⟩) hHeld ?_
            case hyw1c5 => (intro wS hSw; (try dsimp only at hSw); go_simp; (first | done | with_reducible rfl))
            try simp only [Act.put, List.setIfInBounds_toArray, List.set_cons_zero, List.set_cons_succ]
            refine wpAnyH_take (i := 6) (oi := ⟨_, _, _, _, _, _⟩) (v := undef) rfl (by kernel_rfl) (by kernel_rfl) (by kernel_rfl) (fun _ _ _ h => h) (Or.inr ⟨by rfl, rfl⟩) hHeld ?_
            try simp only [Act.put, List.setIfInBounds_toArray, List.set_cons_zero, List.set_cons_succ]
            refine wpAnyH_take (i := 7) (oi := ⟨_, _, _, _, _, _⟩) (v := undef) rfl (by kernel_rfl) (by kernel_rfl) (by kernel_rfl) (fun _ _ _ h => h) (Or.inr ⟨by rfl, rfl⟩) hHeld ?_
            try simp only [Act.put, List.setIfInBounds_toArray, List.set_cons_zero, List.set_cons_succ]
            refine wpAnyH_take (i := 8) (oi := ⟨_, _, _, _, _, _⟩) (v := undef) rfl (by kernel_rfl) (by kernel_rfl) (by kernel_rfl) (fun _ _ _ h => h) (Or.inr ⟨by rfl, rfl⟩) hHeld ?_
            try simp only [Act.put, List.setIfInBounds_toArray, List.set_cons_zero, List.set_cons_succ]
            refine wpAnyH_take (i := 9) (oi := ⟨_, _, _, _, _, _⟩) (v := undef) rfl (by kernel_rfl) (by kernel_rfl) (by kernel_rfl) (fun _ _ _ h => h) (Or.inr ⟨by rfl, rfl⟩) hHeld ?_
            try simp only [Act.put, List.setIfInBounds_toArray, List.set_cons_zero, List.set_cons_succ]
            refine wpAnyH_take (i := 10) (oi := ⟨_, _, _, _, _, _⟩) (v := undef) rfl (by kernel_rfl) (by kernel_rfl) (by kernel_rfl) (fun _ _ _ h => h) (Or.inr ⟨by rfl, rfl⟩) hHeld ?_
            try simp only [Act.put, List.setIfInBounds_toArray, List.set_cons_zero, List.set_cons_succ]
            refine wpAnyH_take (i := 11) (oi := ⟨_, _, _, _, _, _⟩) (v := undef) rfl (by kernel_rfl) (by kernel_rfl) (by kernel_rfl) (fun _ _ _ h => h) (Or.inr ⟨by rfl, rfl⟩) hHeld ?_
            try simp only [Act.put, List.setIfInBounds_toArray, List.set_cons_zero, List.set_cons_succ]
            refine wpAnyH_take (i := 12) (oi := ⟨_, _, _, _, _, _⟩) (v := undef) rfl (by kernel_rfl) (by kernel_rfl) (by kernel_rfl) (fun _ _ _ h => h) (Or.inr ⟨by rfl, rfl⟩) hHeld ?_
            try simp only [Act.put, List.setIfInBounds_toArray, List.set_cons_zero, List.set_cons_succ]
            refine wpAnyH_take (i := 13) (oi := ⟨_, _, _, _, _, _⟩) (v := undef) rfl (by kernel_rfl) (by kernel_rfl) (by kernel_rfl) (fun _ _ _ h => h) (Or.inr ⟨by rfl, rfl⟩) hHeld ?_
            try simp only [Act.put, List.setIfInBounds_toArray, List.set_cons_zero, List.set_cons_succ]
            refine wpAnyH_take (i := 14) (oi := ⟨_, _, _, _, _, _⟩) (v := undef) rfl (by kernel_rfl) (by kernel_rfl) (by kernel_rfl) (fun _ _ _ h => h) (Or.inr ⟨by rfl, rfl⟩) hHeld ?_
            try simp only [Act.put, List.setIfInBounds_toArray, List.set_cons_zero, List.set_cons_succ]
            refine wpAnyH_take (i := 15) (oi := ⟨_, _, _, _, _, _⟩) (v := undef) rfl (by kernel_rfl) (by kernel_rfl) (by kernel_rfl) (fun _ _ _ h => h) (Or.inr ⟨by rfl, rfl⟩) hHeld ?_
            try simp only [Act.put, List.setIfInBounds_toArray, List.set_cons_zero, List.set_cons_succ]
            refine wpAnyH_take (i := 16) (oi := ⟨_, _, _, _, _, _⟩) (v := undef) rfl (by kernel_rfl) (by kernel_rfl) (by kernel_rfl) (fun _ _ _ h => h) (Or.inr ⟨by rfl, rfl⟩) hHeld ?_
            try simp only [Act.put, List.setIfInBounds_toArray, List.set_cons_zero, List.set_cons_succ]
            refine wpAnyH_take (i := 17) (oi := ⟨_, _, _, _, _, _⟩) (v := ?vw1c17) rfl (by kernel_rfl) (by kernel_rfl) (by kernel_rfl) (fun _ _ _ h => h) (Or.inl ⟨by rfl, ?hyw1c17⟩) hHeld ?_
            case hyw1c17 => (intro wS hSw; (try dsimp only at hSw); go_simp; (first | done | with_reducible rfl))
            try simp only [Act.put, List.setIfInBounds_toArray, List.set_cons_zero, List.set_cons_succ]
            refine wpAnyH_take (i := 18) (oi := ⟨_, _, _, _, _, _⟩) (v := ?vw1c18) rfl (by kernel_rfl) (by kernel_rfl) (by kernel_rfl) (fun _ _ _ h => h) (Or.inl ⟨by rfl, ?hyw1c18⟩) hHeld ?_
            case hyw1c18 => (intro wS hSw; (try dsimp only at hSw); go_simp; (first | done | with_reducible rfl))
            try simp only [Act.put, List.setIfInBounds_toArray, List.set_cons_zero, List.set_cons_succ]
            refine wpAnyH_done (by kernel_rfl) ?_ _
            refine NoPanic.normal ?_
            clear hHeld
            go_wp2_with fail
            go_roundw
            case rel => exact ⟨k + 1, choose none (some J'), _, (by rw [HWK.out]), by have := HK.out; omega, rfl, Pre.next HK.out HPRE.out HPP.out, HF.out, new_ptr HJ.out HK.out HXB.out.1 HO3.out.size HX3.out HO4.out.size rfl, HOW.out⟩
            case measure => rw [HWK.out]; have := HK.out; simp only [intOf]; omega
          · obtain ⟨jb, hjb, hjw, hja, svj, rvj, vsj, hjj⟩ := HP4.out
            subst hjb
            obtain ⟨svx, rvx, vsx, hxx⟩ := (HJ.out J' rfl).2
            have cx : w4.cell? ⟨xb, 2, none⟩ = some (.int .i64 (J'.gen : Int)) := hxx.blk.cell 2
            have cj : w4.cell? ⟨jb, 2, none⟩ = some (.int .i64 (J.gen : Int)) := hjj.blk.cell 2
            clear hxx hjj
            refine wpAnyH_take (i := 2) (oi := ⟨_, _, _, _, _, _⟩) (v := ?vw1d2) rfl (by kernel_rfl) (by kernel_rfl) (by kernel_rfl) (fun _ _ _ h => h) (Or.inl ⟨by rfl, ?hyw1d2⟩) hHeld ?_
            case hyw1d2 => (intro wS hSw; (try dsimp only at hSw); go_simp; (first | done | with_reducible rfl))
            try simp only [Act.put, List.setIfInBounds_toArray, List.set_cons_zero, List.set_cons_succ]
            refine wpAnyH_take (i := 3) (oi := ⟨_, _, _, _, _, _⟩) (v := ?vw1d3) rfl (by kernel_rfl) (by kernel_rfl) (by kernel_rfl) (fun _ _ _ h => h) (Or.inl ⟨by rfl, ?hyw1d3⟩) hHeld ?_
            case hyw1d3 => (intro wS hSw; (try dsimp only at hSw); go_simp; (first | done | with_reducible rfl))
            try simp only [Act.put, List.setIfInBounds_toArray, List.set_cons_zero, List.set_cons_succ]
            refine wpAnyH_take (i := 4) (oi := ⟨_, _, _, _, _, _⟩) (v := ?vw1d4) rfl (by kernel_rfl) (by kernel_rfl) (by kernel_rfl) (fun _ _ _ h => h) (Or.inl ⟨by rfl, ?hyw1d4⟩) hHeld ?_
            case hyw1d4 => (intro wS hSw; (try dsimp only at hSw); go_simp; (first | done | with_reducible rfl))
            try simp only [Act.put, List.setIfInBounds_toArray, List.set_cons_zero, List.set_cons_succ]
            refine wpAnyH_take (i := 5) (oi := ⟨_, _, _, _, _, _⟩) (v := ?vw1d5) rfl (by kernel_rfl) (by kernel_rfl) (by kernel_rfl) (fun _ _ _ h => h) (Or.inl ⟨by rfl, ?hyw1d5⟩) hHeld ?_
            case hyw1d5 => (intro wS hSw; (try dsimp only at hSw); go_simp; (first | done | with_reducible rfl))
            try simp only [Act.put, List.setIfInBounds_toArray, List.set_cons_zero, List.set_cons_succ]
            refine wpAnyH_take (i := 6) (oi := ⟨_, _, _, _, _, _⟩) (v := ?vw1d6) rfl (by kernel_rfl) (by kernel_rfl) (by kernel_rfl) (fun _ _ _ h => h) (Or.inl ⟨by rfl, ?hyw1d6⟩) hHeld ?_
            case hyw1d6 => (intro wS hSw; (try dsimp only at hSw); go_simp; (first | done | with_reducible rfl))
            try simp only [Act.put, List.setIfInBounds_toArray, List.set_cons_zero, List.set_cons_succ]
            refine wpAnyH_take (i := 7) (oi := ⟨_, _, _, _, _, _⟩) (v := ?vw1d7) rfl (by kernel_rfl) (by kernel_rfl) (by kernel_rfl) (fun _ _ _ h => h) (Or.inl ⟨by rfl, ?hyw1d7⟩) hHeld ?_
            case hyw1d7 => (intro wS hSw; (try dsimp only at hSw); go_simp; (first | done | with_reducible rfl))
            try simp only [Act.put, List.setIfInBounds_toArray, List.set_cons_zero, List.set_cons_succ]
            refine wpAnyH_take (i := 8) (oi := ⟨_, _, _, _, _, _⟩) (v := ?vw1d8) rfl (by kernel_rfl) (by kernel_rfl) (by kernel_rfl) (fun _ _ _ h => h) (Or.inl ⟨by rfl, ?hyw1d8⟩) hHeld ?_
            case hyw1d8 => (intro wS hSw; (try dsimp only at hSw); go_simp; (first | done | with_reducible rfl))
            try simp only [Act.put, List.setIfInBounds_toArray, List.set_cons_zero, List.set_cons_succ]
            refine wpAnyH_take (i := 9) (oi := ⟨_, _, _, _, _, _⟩) (v := ?vw1d9) rfl (by kernel_rfl) (by kernel_rfl) (by kernel_rfl) (fun _ _ _ h => h) (Or.inl ⟨by rfl, ?hyw1d9⟩) hHeld ?_
            case hyw1d9 => (intro wS hSw; (try dsimp only at hSw); go_simp; (first | done | with_reducible rfl))
            try simp only [Act.put, List.setIfInBounds_toArray, List.set_cons_zero, List.set_cons_succ]
            refine wpAnyH_take (i := 11) (oi := ⟨_, _, _, _, _, _⟩) (v := ?vw1d11) rfl (by kernel_rfl) (by kernel_rfl) (by kernel_rfl) (fun _ _ _ h => h) (Or.inl ⟨by rfl, ?hyw1d11⟩) hHeld ?_
            case hyw1d11 => (intro wS hSw; (try dsimp only at hSw); go_simp; (first | done | with_reducible rfl))
            try simp only [Act.put, List.setIfInBounds_toArray, List.set_cons_zero, List.set_cons_succ]
            refine wpAnyH_take (i := 12) (oi := ⟨_, _, _, _, _, _⟩) (v := ?vw1d12) rfl (by kernel_rfl) (by kernel_rfl) (by kernel_rfl) (fun _ _ _ h => h) (Or.inl ⟨by rfl, ?hyw1d12⟩) hHeld ?_
            case hyw1d12 => (intro wS hSw; (try dsimp only at hSw); go_simp; (first | done | with_reducible rfl))
            try simp only [Act.put, List.setIfInBounds_toArray, List.set_cons_zero, List.set_cons_succ]
            refine wpAnyH_take (i := 13) (oi := ⟨_, _, _, _, _, _⟩) (v := ?vw1d13) rfl (by kernel_rfl) (by kernel_rfl) (by kernel_rfl) (fun _ _ _ h => h) (Or.inl ⟨by rfl, ?hyw1d13⟩) hHeld ?_
            case hyw1d13 => (intro wS hSw; (try dsimp only at hSw); go_simp; (first | done | with_reducible rfl))
            try simp only [Act.put, List.setIfInBounds_toArray, List.set_cons_zero, List.set_cons_succ]
            refine wpAnyH_take (i := 14) (oi := ⟨_, _, _, _, _, _⟩) (v := ?vw1d14) rfl (by kernel_rfl) (by kernel_rfl) (by kernel_rfl) (fun _ _ _ h => h) (Or.inl ⟨by rfl, ?hyw1d14⟩) hHeld ?_
            case hyw1d14 => (intro wS hSw; (try dsimp only at hSw); go_simp; (first | done | with_reducible rfl))
            try simp only [Act.put, List.setIfInBounds_toArray, List.set_cons_zero, List.set_cons_succ]
            refine wpAnyH_ready (rs := [10, 15]) (by kernel_rfl) (by simp) ?_
            refine AllReadyH.cons (o := ⟨_, _, _, _, _, _⟩) rfl (fun K hK => ?_) (AllReadyH.cons (o := ⟨_, _, _, _, _, _⟩) rfl (fun K hK => ?_) AllReadyH.nil)
            · go_simp
              refine hK.out _ _ ?kw1dx10 (fun hNew => ?_)
              case kw1dx10 => (try dsimp only); (try trivial)
              clear hK K hHeld
              have hHeld := hNew
              clear hNew
              try simp only [Act.put, List.setIfInBounds_toArray, List.set_cons_zero, List.set_cons_succ]
              refine wpAnyH_ready (rs := [15]) (by kernel_rfl) (by simp) ?_
              refine AllReadyH.cons (o := ⟨_, _, _, _, _, _⟩) rfl (fun K hK => ?_) AllReadyH.nil
              go_simp
              refine hK.out _ _ ?kw1dx15 (fun hNew => ?_)
              case kw1dx15 => (try dsimp only); (try trivial)
              clear hK K hHeld
              have hHeld := hNew
              clear hNew
              try simp only [Act.put, List.setIfInBounds_toArray, List.set_cons_zero, List.set_cons_succ]
              refine wpAnyH_take (i := 16) (oi := ⟨_, _, _, _, _, _⟩) (v := ?vw1dx16) rfl (by kernel_rfl) (by kernel_rfl) (by kernel_rfl) (fun _ _ _ h => h) (Or.inl ⟨by rfl, ?hyw1dx16⟩) hHeld ?_
              case hyw1dx16 => (intro wS hSw; (try dsimp only at hSw); go_simp; (first | done | with_reducible rfl))
              try simp only [Act.put, List.setIfInBounds_toArray, List.set_cons_zero, List.set_cons_succ]
              refine wpAnyH_take (i := 17) (oi := ⟨_, _, _, _, _, _⟩) (v := ?vw1dx17) rfl (by kernel_rfl) (by kernel_rfl) (by kernel_rfl) (fun _ _ _ h => h) (Or.inl ⟨by rfl, ?hyw1dx17⟩) hHeld ?_
              case hyw1dx17 => (intro wS hSw; (try dsimp only at hSw); go_simp; (first | done | with_reducible rfl))
              try simp only [Act.put, List.setIfInBounds_toArray, List.set_cons_zero, List.set_cons_succ]
              refine wpAnyH_take (i := 18) (oi := ⟨_, _, _, _, _, _⟩) (v := ?vw1dx18) rfl (by kernel_rfl) (by kernel_rfl) (by kernel_rfl) (fun _ _ _ h => h) (Or.inl ⟨by rfl, ?hyw1dx18⟩) hHeld ?_
              case hyw1dx18 => (intro wS hSw; (try dsimp only at hSw); go_simp; (first | done | with_reducible rfl))
              try simp only [Act.put, List.setIfInBounds_toArray, List.set_cons_zero, List.set_cons_succ]
              refine wpAnyH_done (by kernel_rfl) ?_ _
              refine NoPanic.normal ?_
              clear hHeld
              by_cases hgt : J.gen < J'.gen
              · have dg : decide ((J.gen : Int) < (J'.gen : Int)) = true := by simp; omega
                go_wp2_with fail
                go_roundw
                case rel => exact ⟨k + 1, choose (some J) (some J'), _, (by rw [HWK.out]), by have := HK.out; omega, rfl, Pre.next HK.out HPRE.out HPP.out, HF.out, by rw [show choose (some J) (some J') = some J' from if_pos hgt]; exact new_ptr HJ.out HK.out HXB.out.1 HO3.out.size HX3.out HO4.out.size rfl, HOW.out⟩
                case measure => rw [HWK.out]; have := HK.out; simp only [intOf]; omega
              · have dg : decide ((J.gen : Int) < (J'.gen : Int)) = false := by simp; omega
                go_wp2_with fail
                go_roundw
                case rel => exact ⟨k + 1, choose (some J) (some J'), _, (by rw [HWK.out]), by have := HK.out; omega, rfl, Pre.next HK.out HPRE.out HPP.out, HF.out, by rw [show choose (some J) (some J') = some J from if_neg hgt]; exact HP4.out, HOW.out⟩
                case measure => rw [HWK.out]; have := HK.out; simp only [intOf]; omega
            · go_simp
              refine hK.out _ _ ?kw1dy15 (fun hNew => ?_)
              case kw1dy15 => (try dsimp only); (try trivial)
              clear hK K hHeld
              have hHeld := hNew
              clear hNew
              try simp only [Act.put, List.setIfInBounds_toArray, List.set_cons_zero, List.set_cons_succ]
              refine wpAnyH_ready (rs := [10]) (by kernel_rfl) (by simp) ?_
              refine AllReadyH.cons (o := ⟨_, _, _, _, _, _⟩) rfl (fun K hK => ?_) AllReadyH.nil
              go_simp
              refine hK.out _ _ ?kw1dy10 (fun hNew => ?_)
              case kw1dy10 => (try dsimp only); (try trivial)
              clear hK K hHeld
              have hHeld := hNew
              clear hNew
              try simp only [Act.put, List.setIfInBounds_toArray, List.set_cons_zero, List.set_cons_succ]
              refine wpAnyH_take (i := 16) (oi := ⟨_, _, _, _, _, _⟩) (v := ?vw1dy16) rfl (by kernel_rfl) (by kernel_rfl) (by kernel_rfl) (fun _ _ _ h => h) (Or.inl ⟨by rfl, ?hyw1dy16⟩) hHeld ?_
              case hyw1dy16 => (intro wS hSw; (try dsimp only at hSw); go_simp; (first | done | with_reducible rfl))
              try simp only [Act.put, List.setIfInBounds_toArray, List.set_cons_zero, List.set_cons_succ]
              refine wpAnyH_take (i := 17) (oi := ⟨_, _, _, _, _, _⟩) (v := ?vw1dy17) rfl (by kernel_rfl) (by kernel_rfl) (by kernel_rfl) (fun _ _ _ h => h) (Or.inl ⟨by rfl, ?hyw1dy17⟩) hHeld ?_
              case hyw1dy17 => (intro wS hSw; (try dsimp only at hSw); go_simp; (first | done | with_reducible rfl))
              try simp only [Act.put, List.setIfInBounds_toArray, List.set_cons_zero, List.set_cons_succ]
              refine wpAnyH_take (i := 18) (oi := ⟨_, _, _, _, _, _⟩) (v := ?vw1dy18) rfl (by kernel_rfl) (by kernel_rfl) (by kernel_rfl) (fun _ _ _ h => h) (Or.inl ⟨by rfl, ?hyw1dy18⟩) hHeld ?_
              case hyw1dy18 => (intro wS hSw; (try dsimp only at hSw); go_simp; (first | done | with_reducible rfl))
              try simp only [Act.put, List.setIfInBounds_toArray, List.set_cons_zero, List.set_cons_succ]
              refine wpAnyH_done (by kernel_rfl) ?_ _
              refine NoPanic.normal ?_
              clear hHeld
              by_cases hgt : J.gen < J'.gen
              · have dg : decide ((J.gen : Int) < (J'.gen : Int)) = true := by simp; omega
                go_wp2_with fail
                go_roundw
                case rel => exact ⟨k + 1, choose (some J) (some J'), _, (by rw [HWK.out]), by have := HK.out; omega, rfl, Pre.next HK.out HPRE.out HPP.out, HF.out, by rw [show choose (some J) (some J') = some J' from if_pos hgt]; exact new_ptr HJ.out HK.out HXB.out.1 HO3.out.size HX3.out HO4.out.size rfl, HOW.out⟩
                case measure => rw [HWK.out]; have := HK.out; simp only [intOf]; omega
              · have dg : decide ((J.gen : Int) < (J'.gen : Int)) = false := by simp; omega
                go_wp2_with fail
                go_roundw
                case rel => exact ⟨k + 1, choose (some J) (some J'), _, (by rw [HWK.out]), by have := HK.out; omega, rfl, Pre.next HK.out HPRE.out HPP.out, HF.out, by rw [show choose (some J) (some J') = some J from if_neg hgt]; exact HP4.out, HOW.out⟩
                case measure => rw [HWK.out]; have := HK.out; simp only [intOf]; omega
    · have hk3 : k = 2 := by omega
      subst hk3
      have e0 := HR.out r hpre
      subst e0
      have HOFF := Lib.hid hoff
      have HW : Hid (∀ b, Sd b → b < wr.heap.size) := fun b hb => Nat.lt_of_lt_of_le (HLT.out b hb) HOFF.out.size
      have HDR : Hid (DiskAt wr Sd d D) := HD.out.off HOFF.out (fun _ _ _ h => h)
      clear hk2 hk hpre hoff
      cases r with
      | some J =>
        clear hfr
        obtain ⟨jb, hjv, hjw, hja, svj, rvj, vsj, hjj⟩ := hptr
        subst hjv
        have HJ := Lib.hid hjj
        have HJA := Lib.hid hja
        have HJW := Lib.hid hjw
        have c3 : wr.cell? ⟨jb, 3, none⟩ = some (.int .i64 (J.op : Int)) := hjj.blk.cell 3
        have f3 : wr.frozen? ⟨jb, 3, none⟩ = false := hjj.blk.free 3
        have n1 : IntKind.i64.wrap ((J.op : Int) + 1) = (J.op : Int) + 1 := by have := (HOP.out J rfl).1; rw [IntKind.wrap_i64]; omega
        have hmn : ∀ (w : World) (ts : Array TypeId) (t : TypeId), (Builtin.min_ ts t #[.int .i64 4611686018427387904, .int .i64 ((J.op : Int) + 1)]).run Try.prog w = .ok (.int .i64 ((J.op : Int) + 1)) w := fun w ts t => by
          have h1 := (HOP.out J rfl).1
          have h2 : (if ((J.op : Int) + 1) < 4611686018427387904 then ((J.op : Int) + 1) else 4611686018427387904) = (J.op : Int) + 1 := by split <;> omega
          rw [run_min_int2, h2]
        clear hjj hja hjw
        go_upto_region 23 with fail
        obtain ⟨w5, hw5⟩ : ∃ w5, w5 = wr.setCell ⟨jb, 3, none⟩ (.int .i64 ((J.op : Int) + 1)) := ⟨_, rfl⟩
        rw [← hw5]
        have HB5 : Hid (JBlk w5 jb d { J with op := J.op + 1 } svj rvj) := by
          rw [hw5]
          exact heap_setCell_same wr jb 3 _ _ (.int .i64 ((J.op + 1 : Nat) : Int)) HJ.out.blk
        have HG5 : Hid (wr.grownBy w5 (some jb)) := by rw [hw5]; exact grown_set _ _ _ _
        have HJS : Hid (¬ Sd jb) := fun hb => by have h1 := HLT.out _ hb; have h2 := HJW.out; omega
        have HD5 : Hid (DiskAt w5 Sd d D) := HDR.out.off (Off.of_grown HG5.out (S := fun b => b = jb) (fun k e => by cases e; rfl)) (fun b _ hs e => HJS.out (e ▸ hs))
        have HB5C : Hid (w5.cell? ⟨jb, 1, none⟩ = some (.int .i64 (J.area : Int)) ∧ w5.cell? ⟨jb, 2, none⟩ = some (.int .i64 (J.gen : Int)) ∧ w5.cell? ⟨jb, 3, none⟩ = some (.int .i64 ((J.op : Int) + 1)) ∧ w5.cell? ⟨jb, 4, none⟩ = some (.int .i64 (J.first : Int)) ∧ w5.cell? ⟨jb, 5, none⟩ = some (.int .i64 (J.size : Int))) := ⟨HB5.out.cell 1, HB5.out.cell 2, HB5.out.cell 3, HB5.out.cell 4, HB5.out.cell 5⟩
        clear c3 f3 n1 hmn hw5
        go_wp2_with fail
        refine wp_region_noPanic ?_
        refine wp_region_held_drew (S := fun w' => w'.cell? ⟨jb, 1, none⟩ = some (Value.int .i64 (J.area : Int)) ∧ w'.cell? ⟨jb, 2, none⟩ = some (Value.int .i64 (J.gen : Int)) ∧ w'.cell? ⟨jb, 3, none⟩ = some (Value.int .i64 ((J.op : Int) + 1)) ∧ w'.cell? ⟨jb, 4, none⟩ = some (Value.int .i64 (J.first : Int)) ∧ w'.cell? ⟨jb, 5, none⟩ = some (Value.int .i64 (J.size : Int))) (by kernel_rfl) ?hSsa (fun hHeld => ?_)
        case hSsa => exact HB5C.out
        refine wpAnyH_take (i := 0) (oi := ⟨_, _, _, _, _, _⟩) (v := ?vsa0) rfl (by kernel_rfl) (by kernel_rfl) (by kernel_rfl) (fun _ _ _ h => h) (Or.inl ⟨by rfl, ?hysa0⟩) hHeld ?_
        case hysa0 => (intro wS hSw; (try dsimp only at hSw); go_simp; (first | done | with_reducible rfl))
        try simp only [Act.put, List.setIfInBounds_toArray, List.set_cons_zero, List.set_cons_succ]
        refine wpAnyH_take (i := 1) (oi := ⟨_, _, _, _, _, _⟩) (v := ?vsa1) rfl (by kernel_rfl) (by kernel_rfl) (by kernel_rfl) (fun _ _ _ h => h) (Or.inl ⟨by rfl, ?hysa1⟩) hHeld ?_
        case hysa1 => (intro wS hSw; (try dsimp only at hSw); go_simp; (first | done | with_reducible rfl))
        try simp only [Act.put, List.setIfInBounds_toArray, List.set_cons_zero, List.set_cons_succ]
        refine wpAnyH_take (i := 2) (oi := ⟨_, _, _, _, _, _⟩) (v := ?vsa2) rfl (by kernel_rfl) (by kernel_rfl) (by kernel_rfl) (fun _ _ _ h => h) (Or.inl ⟨by rfl, ?hysa2⟩) hHeld ?_
        case hysa2 => (intro wS hSw; (try dsimp only at hSw); go_simp; (first | done | with_reducible rfl))
        try simp only [Act.put, List.setIfInBounds_toArray, List.set_cons_zero, List.set_cons_succ]
        refine wpAnyH_take (i := 3) (oi := ⟨_, _, _, _, _, _⟩) (v := ?vsa3) rfl (by kernel_rfl) (by kernel_rfl) (by kernel_rfl) (fun _ _ _ h => h) (Or.inl ⟨by rfl, ?hysa3⟩) hHeld ?_
        case hysa3 => (intro wS hSw; (try dsimp only at hSw); go_simp; (first | done | with_reducible rfl))
        try simp only [Act.put, List.setIfInBounds_toArray, List.set_cons_zero, List.set_cons_succ]
        refine wpAnyH_take (i := 4) (oi := ⟨_, _, _, _, _, _⟩) (v := ?vsa4) rfl (by kernel_rfl) (by kernel_rfl) (by kernel_rfl) (fun _ _ _ h => h) (Or.inl ⟨by rfl, ?hysa4⟩) hHeld ?_
        case hysa4 => (intro wS hSw; (try dsimp only at hSw); go_simp; (first | done | with_reducible rfl))
        try simp only [Act.put, List.setIfInBounds_toArray, List.set_cons_zero, List.set_cons_succ]
        refine wpAnyH_take (i := 5) (oi := ⟨_, _, _, _, _, _⟩) (v := ?vsa5) rfl (by kernel_rfl) (by kernel_rfl) (by kernel_rfl) (fun _ _ _ h => h) (Or.inl ⟨by rfl, ?hysa5⟩) hHeld ?_
        case hysa5 => (intro wS hSw; (try dsimp only at hSw); go_simp; (first | done | with_reducible rfl))
        try simp only [Act.put, List.setIfInBounds_toArray, List.set_cons_zero, List.set_cons_succ]
        refine wpAnyH_take (i := 6) (oi := ⟨_, _, _, _, _, _⟩) (v := ?vsa6) rfl (by kernel_rfl) (by kernel_rfl) (by kernel_rfl) (fun _ _ _ h => h) (Or.inl ⟨by rfl, ?hysa6⟩) hHeld ?_
        case hysa6 => (intro wS hSw; (try dsimp only at hSw); go_simp; (first | done | with_reducible rfl))
        try simp only [Act.put, List.setIfInBounds_toArray, List.set_cons_zero, List.set_cons_succ]
        refine wpAnyH_take (i := 7) (oi := ⟨_, _, _, _, _, _⟩) (v := ?vsa7) rfl (by kernel_rfl) (by kernel_rfl) (by kernel_rfl) (fun _ _ _ h => h) (Or.inl ⟨by rfl, ?hysa7⟩) hHeld ?_
        case hysa7 => (intro wS hSw; (try dsimp only at hSw); go_simp; (first | done | with_reducible rfl))
        try simp only [Act.put, List.setIfInBounds_toArray, List.set_cons_zero, List.set_cons_succ]
        refine wpAnyH_take (i := 8) (oi := ⟨_, _, _, _, _, _⟩) (v := ?vsa8) rfl (by kernel_rfl) (by kernel_rfl) (by kernel_rfl) (fun _ _ _ h => h) (Or.inl ⟨by rfl, ?hysa8⟩) hHeld ?_
        case hysa8 => (intro wS hSw; (try dsimp only at hSw); go_simp; (first | done | with_reducible rfl))
        try simp only [Act.put, List.setIfInBounds_toArray, List.set_cons_zero, List.set_cons_succ]
        refine wpAnyH_ready (rs := [9]) (by kernel_rfl) (by simp) ?_
        refine AllReadyH.cons (o := ⟨_, _, _, _, _, _⟩) rfl (fun K hK => ?_) AllReadyH.nil
        go_simp
        refine (seal_at Sd d D jb { J with op := J.op + 1 } svj rvj J.area J.gen (J.op + 1) J.first J.size (by have := HOP.out J rfl; omega) (by have := HOP.out J rfl; omega) (by have := HOP.out J rfl; omega) (by have := HOP.out J rfl; omega) w5.drew (HD5.out.grown ⟨rfl, rfl, rfl, Nat.le_refl _, fun _ _ _ => rfl⟩) (fun b hb => Nat.lt_of_lt_of_le (HW.out b hb) HG5.out.size) HB5.out HJS.out (area_lt HJA.out HN.out) HO.out HARM.out (by have := HWR.out; omega)).mono ?_
        rintro e w6 ⟨rfl, Sd', hd6, hs6, ho6⟩
        have HD6 := Lib.hid hd6
        have HS6 := Lib.hid hs6
        have HO6 : Hid (Off Sd w5 w6) := ⟨ho6.os, ho6.tape, ho6.output, ho6.size, ho6.block⟩
        have HB6 : Hid (JBlk w6 jb d { J with op := J.op + 1 } svj rvj) := HB5.out.off HO6.out HJS.out
        have HC6 : Hid (w6.cell? ⟨jb, 1, none⟩ = some (Value.int .i64 (J.area : Int)) ∧ w6.cell? ⟨jb, 2, none⟩ = some (Value.int .i64 (J.gen : Int)) ∧ w6.cell? ⟨jb, 3, none⟩ = some (Value.int .i64 ((J.op : Int) + 1)) ∧ w6.cell? ⟨jb, 4, none⟩ = some (Value.int .i64 (J.first : Int)) ∧ w6.cell? ⟨jb, 5, none⟩ = some (Value.int .i64 (J.size : Int))) := ⟨HB6.out.cell 1, HB6.out.cell 2, HB6.out.cell 3, HB6.out.cell 4, HB6.out.cell 5⟩
        clear hd6 hs6 ho6
        go_wp2_with fail
        refine hK.out _ _ ?ksa9 (fun hNew => ?_)
        case ksa9 => (try dsimp only); exact HC6.out
        clear hK K hHeld
        have hHeld := hNew
        clear hNew
        try simp only [Act.put, List.setIfInBounds_toArray, List.set_cons_zero, List.set_cons_succ]
        refine wpAnyH_done (by kernel_rfl) ?_ _
        refine NoPanic.normal ?_
        clear hHeld
        have c9 : w6.cell? ⟨jb, 9, none⟩ = some (.int .i64 0) := HB6.out.cell 9
        go_wp2_with fail
        go_ret2
        exact ⟨jb, _, Sd', rfl, op_set HJ.out HG5.out HB6.out rfl rfl HO6.out (fun b hb h => by have h1 := HLT.out b h; have := hb.1; omega), HD6.out, op_apart HLT.out HG5.out.size HS6.out, op_disk HOFF.out.size HG5.out.size HS6.out, ((HOFF.out.trans_new (Off.of_grown HG5.out (S := fun b => b = jb) (fun k e => by cases e; rfl)) (fun b e => e ▸ HJW.out)).mono (fun _ _ h => h.elim)).trans HO6.out⟩
      | none =>
        have ht : fr = true := hfr (HFR.out rfl)
        subst ht
        have hn := hptr
        subst hn
        clear hfr
        go_upto_region 18 with fail
        have hb1 := (MapKept.heap_alloc wr (.cells (JC d newJ (.slice none 0 0) (.slice none 0 0)) 57)).1
        have hg1 := World.grownBy_alloc wr (.cells (JC d newJ (.slice none 0 0) (.slice none 0 0)) 57) none
        obtain ⟨w1, hw1⟩ : ∃ w1, w1 = wr.alloc (.cells (JC d newJ (.slice none 0 0) (.slice none 0 0)) 57) := ⟨_, rfl⟩
        obtain ⟨jb, hxb⟩ : ∃ xb, xb = wr.heap.size := ⟨_, rfl⟩
        rw [← hw1, ← hxb] at hb1
        rw [← hw1] at hg1
        have e1 : (wr.alloc (Obj.cells #[Value.pointer (some ⟨d, 0, none⟩), .int .i64 0, .int .i64 1, .int .i64 1, .int .i64 1, .int .i64 0, .slice none 0 0, .slice none 0 0, .int .i64 1, .int .i64 0] 57)) = w1 := hw1.symm
        rw [e1, ← hxb]
        clear e1
        have HB1 : Hid (JBlk w1 jb d newJ (.slice none 0 0) (.slice none 0 0)) := hb1
        have HG1 := Lib.hid hg1
        have HJW : Hid (w.heap.size ≤ jb ∧ wr.heap.size ≤ jb) := by
          have h1 := HOFF.out.size
          exact ⟨by omega, by omega⟩
        have HD1 : Hid (DiskAt w1 Sd d D) := HDR.out.grown HG1.out
        have HJS1 : Hid (¬ Sd jb) := fun hb => by have h1 := HLT.out _ hb; have h2 := HJW.out.1; omega
        clear hb1 hg1 hw1 hxb
        go_wp2_with fail
        refine (put_at Sd d D jb newJ _ _ 0 1 67 1 0 [] none 0 (by decide) (by decide) (by decide) (by decide) (by decide) w1 HD1.out (fun b hb => Nat.lt_of_lt_of_le (HW.out b hb) HG1.out.size) HB1.out HJS1.out (by have h4 := HN.out; have : parts ([] : List UInt8).length = 1 := rfl; omega) HO.out HARM.out (by have := HWR.out; omega) (.inl ⟨rfl, rfl⟩)).mono ?_
        rintro e w5 ⟨rfl, Sd1, hd5, hs5, ho5⟩
        have HD5 := Lib.hid hd5
        have HS5 := Lib.hid hs5
        have HO5 := Lib.hid ho5
        have HB5 : Hid (JBlk w5 jb d newJ (.slice none 0 0) (.slice none 0 0)) := HB1.out.off HO5.out HJS1.out
        have HJS : Hid (¬ Sd1 jb) := fun hb => by
          rcases (HS5.out _ hb).1 with h | h
          · exact HJS1.out h
          · have := HB1.out.lt
            omega
        have HP5 : Hid (_ ∧ _ ∧ _ ∧ _) := pushes_n D (0 * (D.n / 2) + 1) (fun i => partB 67 1 0 i (parts ([] : List UInt8).length) (chunk [] i)) (upto (parts ([] : List UInt8).length))
        have HB5C : Hid (w5.cell? ⟨jb, 1, none⟩ = some (.int .i64 0) ∧ w5.cell? ⟨jb, 2, none⟩ = some (.int .i64 1) ∧ w5.cell? ⟨jb, 3, none⟩ = some (.int .i64 1) ∧ w5.cell? ⟨jb, 4, none⟩ = some (.int .i64 1) ∧ w5.cell? ⟨jb, 5, none⟩ = some (.int .i64 0)) := ⟨HB5.out.cell 1, HB5.out.cell 2, HB5.out.cell 3, HB5.out.cell 4, HB5.out.cell 5⟩
        clear hd5 hs5 ho5
        go_wp2_with fail
        refine wp_region_noPanic ?_
        refine wp_region_held_drew (S := fun w' => w'.cell? ⟨jb, 1, none⟩ = some (Value.int .i64 0) ∧ w'.cell? ⟨jb, 2, none⟩ = some (Value.int .i64 1) ∧ w'.cell? ⟨jb, 3, none⟩ = some (Value.int .i64 1) ∧ w'.cell? ⟨jb, 4, none⟩ = some (Value.int .i64 1) ∧ w'.cell? ⟨jb, 5, none⟩ = some (Value.int .i64 0)) (by kernel_rfl) ?hSsb (fun hHeld => ?_)
        case hSsb => exact HB5C.out
        refine wpAnyH_take (i := 0) (oi := ⟨_, _, _, _, _, _⟩) (v := ?vsb0) rfl (by kernel_rfl) (by kernel_rfl) (by kernel_rfl) (fun _ _ _ h => h) (Or.inl ⟨by rfl, ?hysb0⟩) hHeld ?_
        case hysb0 => (intro wS hSw; (try dsimp only at hSw); go_simp; (first | done | with_reducible rfl))
        try simp only [Act.put, List.setIfInBounds_toArray, List.set_cons_zero, List.set_cons_succ]
        refine wpAnyH_take (i := 1) (oi := ⟨_, _, _, _, _, _⟩) (v := ?vsb1) rfl (by kernel_rfl) (by kernel_rfl) (by kernel_rfl) (fun _ _ _ h => h) (Or.inl ⟨by rfl, ?hysb1⟩) hHeld ?_
        case hysb1 => (intro wS hSw; (try dsimp only at hSw); go_simp; (first | done | with_reducible rfl))
        try simp only [Act.put, List.setIfInBounds_toArray, List.set_cons_zero, List.set_cons_succ]
        refine wpAnyH_take (i := 2) (oi := ⟨_, _, _, _, _, _⟩) (v := ?vsb2) rfl (by kernel_rfl) (by kernel_rfl) (by kernel_rfl) (fun _ _ _ h => h) (Or.inl ⟨by rfl, ?hysb2⟩) hHeld ?_
        case hysb2 => (intro wS hSw; (try dsimp only at hSw); go_simp; (first | done | with_reducible rfl))
        try simp only [Act.put, List.setIfInBounds_toArray, List.set_cons_zero, List.set_cons_succ]
        refine wpAnyH_take (i := 3) (oi := ⟨_, _, _, _, _, _⟩) (v := ?vsb3) rfl (by kernel_rfl) (by kernel_rfl) (by kernel_rfl) (fun _ _ _ h => h) (Or.inl ⟨by rfl, ?hysb3⟩) hHeld ?_
        case hysb3 => (intro wS hSw; (try dsimp only at hSw); go_simp; (first | done | with_reducible rfl))
        try simp only [Act.put, List.setIfInBounds_toArray, List.set_cons_zero, List.set_cons_succ]
        refine wpAnyH_take (i := 4) (oi := ⟨_, _, _, _, _, _⟩) (v := ?vsb4) rfl (by kernel_rfl) (by kernel_rfl) (by kernel_rfl) (fun _ _ _ h => h) (Or.inl ⟨by rfl, ?hysb4⟩) hHeld ?_
        case hysb4 => (intro wS hSw; (try dsimp only at hSw); go_simp; (first | done | with_reducible rfl))
        try simp only [Act.put, List.setIfInBounds_toArray, List.set_cons_zero, List.set_cons_succ]
        refine wpAnyH_take (i := 5) (oi := ⟨_, _, _, _, _, _⟩) (v := ?vsb5) rfl (by kernel_rfl) (by kernel_rfl) (by kernel_rfl) (fun _ _ _ h => h) (Or.inl ⟨by rfl, ?hysb5⟩) hHeld ?_
        case hysb5 => (intro wS hSw; (try dsimp only at hSw); go_simp; (first | done | with_reducible rfl))
        try simp only [Act.put, List.setIfInBounds_toArray, List.set_cons_zero, List.set_cons_succ]
        refine wpAnyH_take (i := 6) (oi := ⟨_, _, _, _, _, _⟩) (v := ?vsb6) rfl (by kernel_rfl) (by kernel_rfl) (by kernel_rfl) (fun _ _ _ h => h) (Or.inl ⟨by rfl, ?hysb6⟩) hHeld ?_
        case hysb6 => (intro wS hSw; (try dsimp only at hSw); go_simp; (first | done | with_reducible rfl))
        try simp only [Act.put, List.setIfInBounds_toArray, List.set_cons_zero, List.set_cons_succ]
        refine wpAnyH_take (i := 7) (oi := ⟨_, _, _, _, _, _⟩) (v := ?vsb7) rfl (by kernel_rfl) (by kernel_rfl) (by kernel_rfl) (fun _ _ _ h => h) (Or.inl ⟨by rfl, ?hysb7⟩) hHeld ?_
        case hysb7 => (intro wS hSw; (try dsimp only at hSw); go_simp; (first | done | with_reducible rfl))
        try simp only [Act.put, List.setIfInBounds_toArray, List.set_cons_zero, List.set_cons_succ]
        refine wpAnyH_take (i := 8) (oi := ⟨_, _, _, _, _, _⟩) (v := ?vsb8) rfl (by kernel_rfl) (by kernel_rfl) (by kernel_rfl) (fun _ _ _ h => h) (Or.inl ⟨by rfl, ?hysb8⟩) hHeld ?_
        case hysb8 => (intro wS hSw; (try dsimp only at hSw); go_simp; (first | done | with_reducible rfl))
        try simp only [Act.put, List.setIfInBounds_toArray, List.set_cons_zero, List.set_cons_succ]
        refine wpAnyH_ready (rs := [9]) (by kernel_rfl) (by simp) ?_
        refine AllReadyH.cons (o := ⟨_, _, _, _, _, _⟩) rfl (fun K hK => ?_) AllReadyH.nil
        go_simp
        refine (seal_at Sd1 d _ jb newJ (.slice none 0 0) (.slice none 0 0) 0 1 1 1 0 (by decide) (by decide) (by decide) (by decide) w5.drew (HD5.out.grown ⟨rfl, rfl, rfl, Nat.le_refl _, fun _ _ _ => rfl⟩) (fun b hb => (HS5.out b hb).2) HB5.out HJS.out (by rw [HP5.out.1]; have := HN.out; omega) (by rw [HP5.out.2.1]; exact HO.out) (by rw [HP5.out.2.2.1]; exact HARM.out) (by rw [HP5.out.2.2.2]; have := HWR.out; have : (upto (parts ([] : List UInt8).length)).length = 1 := rfl; omega)).mono ?_
        rintro e w6 ⟨rfl, Sd', hd6, hs6, ho6⟩
        have HD6 := Lib.hid hd6
        have HS6 := Lib.hid hs6
        have HO6 : Hid (Off Sd1 w5 w6) := ⟨ho6.os, ho6.tape, ho6.output, ho6.size, ho6.block⟩
        have HB6 : Hid (JBlk w6 jb d newJ (.slice none 0 0) (.slice none 0 0)) := HB5.out.off HO6.out HJS.out
        have HC6 : Hid (w6.cell? ⟨jb, 1, none⟩ = some (Value.int .i64 0) ∧ w6.cell? ⟨jb, 2, none⟩ = some (Value.int .i64 1) ∧ w6.cell? ⟨jb, 3, none⟩ = some (Value.int .i64 1) ∧ w6.cell? ⟨jb, 4, none⟩ = some (Value.int .i64 1) ∧ w6.cell? ⟨jb, 5, none⟩ = some (Value.int .i64 0)) := ⟨HB6.out.cell 1, HB6.out.cell 2, HB6.out.cell 3, HB6.out.cell 4, HB6.out.cell 5⟩
        clear hd6 hs6 ho6
        go_wp2_with fail
        refine hK.out _ _ ?ksb9 (fun hNew => ?_)
        case ksb9 => (try dsimp only); exact HC6.out
        clear hK K hHeld
        have hHeld := hNew
        clear hNew
        try simp only [Act.put, List.setIfInBounds_toArray, List.set_cons_zero, List.set_cons_succ]
        refine wpAnyH_done (by kernel_rfl) ?_ _
        refine NoPanic.normal ?_
        clear hHeld
        have c9 : w6.cell? ⟨jb, 9, none⟩ = some (.int .i64 0) := HB6.out.cell 9
        go_wp2_with fail
        go_ret2
        refine ⟨jb, fun b => b = jb, Sd', rfl, new_at_all HB6.out, HD6.out, ?_, ?_, ?_⟩
        · rintro b rfl
          refine ⟨HJW.out.1, fun hd => ?_⟩
          rcases (HS6.out b hd).1 with h | h
          · exact HJS.out h
          · have h1 := HB5.out.lt
            have h2 : w5.heap.size ≤ b := h
            omega
        · intro b hd
          refine ⟨?_, (HS6.out b hd).2⟩
          rcases (HS6.out b hd).1 with h | h
          · rcases (HS5.out b h).1 with h | h
            · exact .inl h
            · exact .inr (Nat.le_trans (Nat.le_trans HOFF.out.size HG1.out.size) h)
          · exact .inr (Nat.le_trans (Nat.le_trans (Nat.le_trans HOFF.out.size HG1.out.size) HO5.out.size) h)
        · have h1 : Off Sd w w1 := (HOFF.out.mono (fun _ _ h => h.elim)).trans (Off.of_grown HG1.out (by simp))
          have h2 := h1.trans HO5.out
          refine ⟨HO6.out.os.trans h2.os, HO6.out.tape.trans h2.tape, HO6.out.output.trans h2.output, Nat.le_trans h2.size HO6.out.size, fun k hk hs => (HO6.out.block k (Nat.lt_of_lt_of_le hk h2.size) (fun hb => ?_)).trans (h2.block k hk hs)⟩
          rcases (HS5.out k hb).1 with h | h
          · exact hs h
          · have := h1.size
            omega
end Go.Proofs.Ytgdedgfohjplmaa.Jnl

/- The journal: Free, Record, asked. -/
namespace Go.Proofs.Ytgdedgfohjplmaa.Jnl
open Go.RowKit Go.Maps Sec

set_option maxRecDepth 100000 in
set_option maxHeartbeats 2000000 in
theorem free_at (Sd S : Nat → Prop) (d jb : Nat) (D : Dsk) (J : Jn) (w : World) (h : DiskAt w Sd d D) (hj : JAt w S jb d J) (hu : J.used ≤ D.n / 2 - 1) (h4 : 4 ≤ D.n) :
    Calls Try.prog 17 #[.pointer (some ⟨jb, 0, none⟩)] w fun e w' => e = .returned (.int .i64 ((D.n / 2 - 1 - J.used : Nat) : Int)) ∧ ∃ m, w' = w.drewN m := by
  obtain ⟨sv, rv, vs, hj⟩ := hj
  have hm := h.1
  have c5 : w.cell? ⟨jb, 8, none⟩ = some (.int .i64 (J.used : Int)) := hj.blk.cell 8
  have HH : Hid (∀ m, DiskAt (w.drewN m) Sd d D) := fun m => h.grown ⟨rfl, rfl, rfl, Nat.le_refl _, fun _ _ _ => rfl⟩
  have HB : Hid (∀ m, JBlk (w.drewN m) jb d J sv rv) := fun m => hj.blk
  have n1 : IntKind.i64.wrap ((D.n : Int) / 2 - 1) = (D.n : Int) / 2 - 1 := by rw [IntKind.wrap_i64]; omega
  have n2 : IntKind.i64.wrap ((D.n : Int) / 2 - 1 - (J.used : Int)) = (D.n : Int) / 2 - 1 - (J.used : Int) := by rw [IntKind.wrap_i64]; omega
  have HE : Hid ((D.n : Int) / 2 - 1 - (J.used : Int) = ((D.n / 2 - 1 - J.used : Nat) : Int)) := by show _ = _; omega
  clear h hj hm hu h4
  go_enter Try.func17, Try.ntmps17
  go_wp2_with fail
  go_quiet ((go_at_call 33; exact Calls.quiet_of_same (half_at Sd d D jb J sv rv _ (by exact HH.out _) (by exact HB.out _))))
  go_wp2_with fail
  go_ret
  exact ⟨by rw [← HE.out]; rfl, _, rfl⟩

/-- The error ahead of a write of n bytes. -/
def askedJ (n limit room : Nat) : Nat := if limit < n then 3 else if room < parts n then 31 else 0
set_option maxRecDepth 100000 in
set_option maxHeartbeats 2000000 in
theorem asked_at (jb d : Nat) (J : Jn) (sv rv : Value) (n limit room : Nat) (hn : n < 1000000000000) (w : World) (hj : JBlk w jb d J sv rv) :
    Calls Try.prog 34 #[.pointer (some ⟨jb, 0, none⟩), .int .i64 (n : Int), .int .i64 (limit : Int), .int .i64 (room : Int)] w fun e w' => e = .returned (.int .i64 (askedJ n limit room : Int)) ∧ w' = w := by
  have HB := Lib.hid hj
  have HN := Lib.hid hn
  clear hj hn
  unfold askedJ
  obtain ⟨pn, hpn⟩ : ∃ pn, pn = parts n := ⟨_, rfl⟩
  rw [← hpn]
  have HP := Lib.hid hpn
  by_cases h1 : limit < n
  · have d1 : decide (limit < n) = true := by simp [h1]
    rw [if_pos h1]
    clear h1 hpn
    go_enter Try.func34, Try.ntmps34
    go_wp2_with fail
    refine (broken_at jb d J sv rv w HB.out).mono ?_
    rintro e wq ⟨rfl, hwq⟩
    subst hwq
    go_wp2_with fail
    go_ret
    exact ⟨rfl, rfl⟩
  · have d1 : decide (limit < n) = false := by simp; omega
    rw [if_neg h1]
    clear h1
    by_cases h2 : room < pn
    · have d2 : decide (room < pn) = true := by simp [h2]
      rw [if_pos h2]
      clear h2 hpn
      go_enter Try.func34, Try.ntmps34
      go_wp2_with fail
      refine (broken_at jb d J sv rv w HB.out).mono ?_
      rintro e wq ⟨rfl, hwq⟩
      subst hwq
      go_wp2_with fail
      refine (count_at n HN.out wq).mono ?_
      rintro e w2 ⟨rfl, hwq⟩
      subst hwq
      rw [← HP.out]
      go_wp2_with fail
      go_ret
      exact ⟨rfl, rfl⟩
    · have d2 : decide (room < pn) = false := by simp; omega
      rw [if_neg h2]
      clear h2 hpn
      go_enter Try.func34, Try.ntmps34
      go_wp2_with fail
      refine (broken_at jb d J sv rv w HB.out).mono ?_
      rintro e wq ⟨rfl, hwq⟩
      subst hwq
      go_wp2_with fail
      refine (count_at n HN.out wq).mono ?_
      rintro e w2 ⟨rfl, hwq⟩
      subst hwq
      rw [← HP.out]
      go_wp2_with fail
      go_ret
      exact ⟨rfl, rfl⟩

theorem cell_lt {w : World} {g i : Nat} {v : Value} (h : w.cell? ⟨g, i, none⟩ = some v) : g < w.heap.size := by
  by_cases hg : g < w.heap.size
  · exact hg
  · simp only [World.cell?, Array.getElem?_eq_none (by omega : w.heap.size ≤ g)] at h
    cases h
theorem below_cell {w w' : World} {B g i : Nat} {v : Value} (hb : Below B w w') (hg : g < B) (h : w.cell? ⟨g, i, none⟩ = some v) : w'.cell? ⟨g, i, none⟩ = some v := by
  simp only [World.cell?, hb.block g hg] at h ⊢
  exact h
theorem brow_clone {w : World} {v : Value} {l : List UInt8} (h : BRow w 0 v l) : ∃ A cap, v = .slice A l.length cap ∧ l.length ≤ cap ∧ cap ≤ maxLen ∧ ((l = [] ∧ cap = 0) ∨ ∃ g off, A = some ⟨g, off, none⟩ ∧ w.rangeAt g off (u8s l)) := by
  obtain ⟨A, cap, rfl, h1, h2⟩ := row_len h
  refine ⟨A, cap, rfl, h1, h2, ?_⟩
  obtain ⟨_, ⟨e, e2⟩ | ⟨g, cap', cur, e, h3, hb, h4, h5, h6, h7⟩⟩ := id h
  · simp only [Value.slice.injEq] at e
    exact .inl ⟨List.eq_nil_of_length_eq_zero e2, e.2.2⟩
  · simp only [Value.slice.injEq, true_and] at e
    obtain ⟨rfl, rfl⟩ := e
    refine .inr ⟨g, 0, rfl, fun j u hj => ?_⟩
    have := World.ownsRow.cells h (g := g) rfl j u hj
    rw [Addr.add_lit] at this
    exact this
/-- The journal's row of records: where its i-th cell lies. -/
theorem JIn.rec_at {w : World} {S : Nat → Prop} {jb d : Nat} {J : Jn} {sv rv : Value} {vs : List Value} (h : JIn w S jb d J sv rv vs) (i : Nat) (l : List UInt8) (hi : J.recs[i]? = some l) : ∃ g cap v, rv = .slice (some ⟨g, 0, none⟩) J.recs.length cap ∧ w.cell? ⟨g, i, none⟩ = some v ∧ BRow w 0 v l := by
  obtain ⟨v, hv, hr⟩ := h.recs i l hi
  obtain ⟨_, ⟨e, e2⟩ | ⟨g, cap, cur, rfl, h3, hb, h4, h5, h6, h7⟩⟩ := id h.rows
  · have := (List.getElem?_eq_some_iff.1 hi).1
    omega
  · refine ⟨g, cap, v, rfl, ?_, hr⟩
    have := World.ownsRow.cells h.rows (g := g) rfl i v hv
    rw [Addr.add_lit, Nat.zero_add] at this
    exact this
set_option maxRecDepth 100000 in
set_option maxHeartbeats 4000000 in
theorem record_at (S : Nat → Prop) (jb d : Nat) (J : Jn) (i : Nat) (l : List UInt8) (w : World) (hj : JAt w S jb d J) (hi : J.recs[i]? = some l) (hl : l.length ≤ 100000000) (hf : J.first + J.recs.length < 9223372036854775808) :
    Calls Try.prog 22 #[.pointer (some ⟨jb, 0, none⟩), .int .i64 ((J.first + i : Nat) : Int)] w fun e w' => ∃ v, e = .returned (.tuple #[v, .bool true]) ∧ BRow w' w.heap.size v l ∧ Below w.heap.size w w' := by
  obtain ⟨sv, rv, vs, hj⟩ := hj
  have hlt : i < J.recs.length := (List.getElem?_eq_some_iff.1 hi).1
  obtain ⟨g, cap, v, rfl, hc, hr⟩ := hj.rec_at i l hi
  obtain ⟨A, cap2, rfl, hc1, hc2, hA⟩ := brow_clone hr
  obtain ⟨k, hk⟩ : ∃ k, k = J.first + i := ⟨_, rfl⟩
  obtain ⟨n, hn⟩ : ∃ n, n = J.recs.length := ⟨_, rfl⟩
  have c4 : w.cell? ⟨jb, 4, none⟩ = some (.int .i64 (J.first : Int)) := hj.blk.cell 4
  have c7 : w.cell? ⟨jb, 7, none⟩ = some (.slice (some ⟨g, 0, none⟩) n cap) := hn ▸ hj.blk.cell 7
  have HB := Lib.hid hj.blk
  have HA := Lib.hid hA
  have HL := Lib.hid hl
  have HF : Hid (J.first + J.recs.length < 9223372036854775808) := hf
  have HC0 : Hid (∀ m, (w.drewN m).drew.cell? ⟨jb, 7, none⟩ = some (.slice (some ⟨g, 0, none⟩) n cap) ∧ (w.drewN m).drew.cell? ⟨jb, 4, none⟩ = some (.int .i64 (J.first : Int)) ∧ (w.drewN m).drew.cell? ⟨g, i, none⟩ = some (.slice A l.length cap2)) := fun m => ⟨c7, c4, hc⟩
  have d1 : decide (k < J.first) = false := by simp; omega
  obtain ⟨nx, hnx⟩ : ∃ nx, nx = J.first + n := ⟨_, rfl⟩
  have d2 : decide (nx ≤ k) = false := by simp; omega
  have HNX := Lib.hid hnx
  have HS : Hid (IntKind.i64.wrap ((k : Int) - (J.first : Int)) = (i : Int)) := by show _ = _; rw [IntKind.wrap_i64]; omega
  have HA2 : Hid (((l = [] ∧ cap2 = 0) ∨ ∃ g off, A = some ⟨g, off, none⟩ ∧ w.rangeAt g off (u8s l))) := hA
  have HGL : Hid (g < w.heap.size ∧ jb < w.heap.size) := ⟨cell_lt hc, hj.blk.lt⟩
  have HCB : Hid (∀ w5, Below w.heap.size w w5 → w5.cell? ⟨jb, 7, none⟩ = some (.slice (some ⟨g, 0, none⟩) n cap) ∧ w5.cell? ⟨jb, 4, none⟩ = some (.int .i64 (J.first : Int)) ∧ w5.cell? ⟨g, i, none⟩ = some (.slice A l.length cap2)) := fun w5 hb => ⟨below_cell hb HGL.out.2 c7, below_cell hb HGL.out.2 c4, below_cell hb HGL.out.1 hc⟩
  have HI : Hid (i < n) := by show _ < _; omega
  have HNN := Lib.hid hn
  rw [← hk]
  clear hj hi hlt hr hc1 hc2 hA hl hf hc hk hn hnx c7
  go_enter Try.func22, Try.ntmps22
  go_wp2_with fail
  refine (next_blk jb d J sv _ (some ⟨g, 0, none⟩) n cap (by rw [HNN.out]) (by rw [HNN.out]; exact HF.out) w HB.out).mono ?_
  rintro e wq ⟨rfl, m, rfl⟩
  rw [← HNX.out]
  clear d1
  go_wp2_with fail
  refine wp_region_noPanic ?_
  refine wp_region_held_drew (S := fun w' => w'.cell? ⟨jb, 7, none⟩ = some (Value.slice (some ⟨g, 0, none⟩) n cap) ∧ w'.cell? ⟨jb, 4, none⟩ = some (Value.int .i64 (J.first : Int)) ∧ w'.cell? ⟨g, i, none⟩ = some (Value.slice A l.length cap2)) (by kernel_rfl) ?hSr (fun hHeld => ?_)
  case hSr => exact HC0.out m
  refine wpAnyH_take (i := 0) (oi := ⟨_, _, _, _, _, _⟩) (v := ?vr0) rfl (by kernel_rfl) (by kernel_rfl) (by kernel_rfl) (fun _ _ _ h => h) (Or.inl ⟨by rfl, ?hyr0⟩) hHeld ?_
  case hyr0 => (intro wS hSw; (try dsimp only at hSw); go_simp; (first | done | with_reducible rfl))
  try simp only [Act.put, List.setIfInBounds_toArray, List.set_cons_zero, List.set_cons_succ]
  refine wpAnyH_take (i := 1) (oi := ⟨_, _, _, _, _, _⟩) (v := ?vr1) rfl (by kernel_rfl) (by kernel_rfl) (by kernel_rfl) (fun _ _ _ h => h) (Or.inl ⟨by rfl, ?hyr1⟩) hHeld ?_
  case hyr1 => (intro wS hSw; (try dsimp only at hSw); go_simp; (first | done | with_reducible rfl))
  try simp only [Act.put, List.setIfInBounds_toArray, List.set_cons_zero, List.set_cons_succ]
  refine wpAnyH_take (i := 2) (oi := ⟨_, _, _, _, _, _⟩) (v := ?vr2) rfl (by kernel_rfl) (by kernel_rfl) (by kernel_rfl) (fun _ _ _ h => h) (Or.inl ⟨by rfl, ?hyr2⟩) hHeld ?_
  case hyr2 => (intro wS hSw; (try dsimp only at hSw); go_simp; (first | done | with_reducible rfl))
  try simp only [Act.put, List.setIfInBounds_toArray, List.set_cons_zero, List.set_cons_succ]
  refine wpAnyH_take (i := 3) (oi := ⟨_, _, _, _, _, _⟩) (v := ?vr3) rfl (by kernel_rfl) (by kernel_rfl) (by kernel_rfl) (fun _ _ _ h => h) (Or.inl ⟨by rfl, ?hyr3⟩) hHeld ?_
  case hyr3 => (intro wS hSw; (try dsimp only at hSw); go_simp; (first | done | with_reducible rfl))
  try simp only [Act.put, List.setIfInBounds_toArray, List.set_cons_zero, List.set_cons_succ]
  refine wpAnyH_take (i := 4) (oi := ⟨_, _, _, _, _, _⟩) (v := ?vr4) rfl (by kernel_rfl) (by kernel_rfl) (by kernel_rfl) (fun _ _ _ h => h) (Or.inl ⟨by rfl, ?hyr4⟩) hHeld ?_
  case hyr4 => (intro wS hSw; (try dsimp only at hSw); go_simp; (first | done | with_reducible rfl))
  try simp only [Act.put, List.setIfInBounds_toArray, List.set_cons_zero, List.set_cons_succ]
  refine wpAnyH_take (i := 5) (oi := ⟨_, _, _, _, _, _⟩) (v := ?vr5) rfl (by kernel_rfl) (by kernel_rfl) (by kernel_rfl) (fun _ _ _ h => h) (Or.inl ⟨by rfl, ?hyr5⟩) hHeld ?_
  case hyr5 => (intro wS hSw; (try dsimp only at hSw); go_simp; (first | done | with_reducible rfl))
  try simp only [Act.put, List.setIfInBounds_toArray, List.set_cons_zero, List.set_cons_succ]
  refine wpAnyH_take (i := 6) (oi := ⟨_, _, _, _, _, _⟩) (v := ?vr6) rfl (by kernel_rfl) (by kernel_rfl) (by kernel_rfl) (fun _ _ _ h => h) (Or.inl ⟨by rfl, ?hyr6⟩) hHeld ?_
  case hyr6 => (intro wS hSw; (try dsimp only at hSw); go_simp; (first | done | with_reducible rfl))
  try simp only [Act.put, List.setIfInBounds_toArray, List.set_cons_zero, List.set_cons_succ]
  refine wpAnyH_take (i := 7) (oi := ⟨_, _, _, _, _, _⟩) (v := ?vr7) rfl (by kernel_rfl) (by kernel_rfl) (by kernel_rfl) (fun _ _ _ h => h) (Or.inl ⟨by rfl, ?hyr7⟩) hHeld ?_
  case hyr7 => (intro wS hSw; (try dsimp only at hSw); go_simp; (first | done | with_reducible rfl))
  try simp only [Act.put, List.setIfInBounds_toArray, List.set_cons_zero, List.set_cons_succ]
  refine wpAnyH_take (i := 8) (oi := ⟨_, _, _, _, _, _⟩) (v := ?vr8) rfl (by kernel_rfl) (by kernel_rfl) (by kernel_rfl) (fun _ _ _ h => h) (Or.inl ⟨by rfl, ?hyr8⟩) hHeld ?_
  case hyr8 => (intro wS hSw; (try dsimp only at hSw); go_simp; (first | done | with_reducible rfl))
  try simp only [Act.put, List.setIfInBounds_toArray, List.set_cons_zero, List.set_cons_succ]
  refine wpAnyH_take (i := 9) (oi := ⟨_, _, _, _, _, _⟩) (v := ?vr9) rfl (by kernel_rfl) (by kernel_rfl) (by kernel_rfl) (fun _ _ _ h => h) (Or.inl ⟨by rfl, ?hyr9⟩) hHeld ?_
  case hyr9 => (intro wS hSw; (try dsimp only at hSw); go_simp; (first | done | with_reducible rfl))
  try simp only [Act.put, List.setIfInBounds_toArray, List.set_cons_zero, List.set_cons_succ]
  refine wpAnyH_take (i := 10) (oi := ⟨_, _, _, _, _, _⟩) (v := .int .i64 (i : Int)) rfl (by kernel_rfl) (by kernel_rfl) (by kernel_rfl) (fun _ _ _ h => h) (Or.inl ⟨by rfl, ?hr10⟩) hHeld ?_
  case hr10 => (intro wS hSw; (try dsimp only at hSw); go_simp; rw [HS.out])
  try simp only [Act.put, List.setIfInBounds_toArray, List.set_cons_zero, List.set_cons_succ]
  refine wpAnyH_take (i := 11) (oi := ⟨_, _, _, _, _, _⟩) (v := .pointer (some ⟨g, i, none⟩)) rfl (by kernel_rfl) (by kernel_rfl) (by kernel_rfl) (fun _ _ _ h => h) (Or.inl ⟨by rfl, ?hr11⟩) hHeld ?_
  case hr11 => (intro wS hSw; (try dsimp only at hSw); have hi := HI.out; go_simp)
  try simp only [Act.put, List.setIfInBounds_toArray, List.set_cons_zero, List.set_cons_succ]
  refine wpAnyH_take (i := 12) (oi := ⟨_, _, _, _, _, _⟩) (v := ?vr12) rfl (by kernel_rfl) (by kernel_rfl) (by kernel_rfl) (fun _ _ _ h => h) (Or.inl ⟨by rfl, ?hyr12⟩) hHeld ?_
  case hyr12 => (intro wS hSw; (try dsimp only at hSw); go_simp; (first | done | with_reducible rfl))
  try simp only [Act.put, List.setIfInBounds_toArray, List.set_cons_zero, List.set_cons_succ]
  refine wpAnyH_ready (rs := [13]) (by kernel_rfl) (by simp) ?_
  refine AllReadyH.cons (o := ⟨_, _, _, _, _, _⟩) rfl (fun K hK => ?_) AllReadyH.nil
  go_simp
  refine (clone_row A l l.length cap2 (w.drewN m).drew rfl HA2.out HL.out).mono ?_
  rintro e w5 ⟨v, rfl, hr5, hb5⟩
  have HR5 := Lib.hid hr5
  have HB5 := Lib.hid hb5
  clear hr5 hb5
  go_wp2_with fail
  refine hK.out _ _ ?kr13 (fun hNew => ?_)
  case kr13 => (try dsimp only); exact HCB.out w5 ⟨HB5.out.os, HB5.out.tape, HB5.out.output, HB5.out.size, HB5.out.block⟩
  clear hK K hHeld
  have hHeld := hNew
  clear hNew
  try simp only [Act.put, List.setIfInBounds_toArray, List.set_cons_zero, List.set_cons_succ]
  refine wpAnyH_take (i := 14) (oi := ⟨_, _, _, _, _, _⟩) (v := ?vr14) rfl (by kernel_rfl) (by kernel_rfl) (by kernel_rfl) (fun _ _ _ h => h) (Or.inl ⟨by rfl, ?hyr14⟩) hHeld ?_
  case hyr14 => (intro wS hSw; (try dsimp only at hSw); go_simp; (first | done | with_reducible rfl))
  try simp only [Act.put, List.setIfInBounds_toArray, List.set_cons_zero, List.set_cons_succ]
  refine wpAnyH_take (i := 15) (oi := ⟨_, _, _, _, _, _⟩) (v := ?vr15) rfl (by kernel_rfl) (by kernel_rfl) (by kernel_rfl) (fun _ _ _ h => h) (Or.inl ⟨by rfl, ?hyr15⟩) hHeld ?_
  case hyr15 => (intro wS hSw; (try dsimp only at hSw); go_simp; (first | done | with_reducible rfl))
  try simp only [Act.put, List.setIfInBounds_toArray, List.set_cons_zero, List.set_cons_succ]
  refine wpAnyH_done (by kernel_rfl) ?_ _
  refine NoPanic.normal ?_
  clear hHeld
  go_wp2_with fail
  go_ret2
  exact ⟨_, rfl, HR5.out, ⟨HB5.out.os, HB5.out.tape, HB5.out.output, HB5.out.size, HB5.out.block⟩⟩
set_option maxRecDepth 100000 in
set_option maxHeartbeats 4000000 in
theorem record_none (S : Nat → Prop) (jb d : Nat) (J : Jn) (k : Nat) (w : World) (hj : JAt w S jb d J) (hk : k < J.first ∨ J.first + J.recs.length ≤ k) (hf : J.first + J.recs.length < 9223372036854775808) :
    Calls Try.prog 22 #[.pointer (some ⟨jb, 0, none⟩), .int .i64 (k : Int)] w fun e w' => e = .returned (.tuple #[.slice none 0 0, .bool false]) ∧ ∃ m, w' = w.drewN m := by
  obtain ⟨sv, rv, vs, hj⟩ := hj
  obtain ⟨A, cap, rfl, _, _⟩ := row_len hj.rows
  have c4 : w.cell? ⟨jb, 4, none⟩ = some (.int .i64 (J.first : Int)) := hj.blk.cell 4
  have HB := Lib.hid hj.blk
  have HF := Lib.hid hf
  obtain ⟨nx, hnx⟩ : ∃ nx, nx = J.first + J.recs.length := ⟨_, rfl⟩
  have HNX := Lib.hid hnx
  by_cases h1 : k < J.first
  · have d1 : decide (k < J.first) = true := by simp [h1]
    clear hk h1 hj hf hnx
    go_enter Try.func22, Try.ntmps22
    go_wp2_with fail
    go_ret2
    exact ⟨rfl, 0, rfl⟩
  · have d1 : decide (k < J.first) = false := by simp; omega
    have d2 : decide (nx ≤ k) = true := by simp; omega
    clear hk h1 hj hf hnx
    go_enter Try.func22, Try.ntmps22
    go_wp2_with fail
    refine (next_blk jb d J sv _ A _ cap rfl HF.out w HB.out).mono ?_
    rintro e wq ⟨rfl, m, rfl⟩
    rw [← HNX.out]
    clear d1
    go_wp2_with fail
    go_ret2
    exact ⟨rfl, m, rfl⟩
end Go.Proofs.Ytgdedgfohjplmaa.Jnl
