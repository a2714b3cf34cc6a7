/- A part of the proof of JournalKnown: JnlFitOpen JnlFitCut JnlLawA JnlLawB JnlLawC JnlLawD JnlLawE JnlLawF JnlForgedW JnlArgs. -/
import Derived.Test.YtgdedgfohjplmaaGreatK07
import Derived.Test.YtgdedgfohjplmaaGreatK06
import Derived.Test.YtgdedgfohjplmaaGreatK01
import Derived.BigQuiet
import Derived.Lib.SlBytesConst
import Derived.Deep.OwnRows
set_option maxRecDepth 100000
set_option maxHeartbeats 40000000
namespace Go.Proofs.YtgdedgfohjplmaaGreat.Jnl
open Go.RowKit Go.Maps Sec
theorem Fit.fresh (n : Nat) (h8 : 8 ≤ n) (h16 : n ≤ 16384) : Fit (opened (freshDisk n) none).2 newJ 0 1 := by
 obtain ⟨p, hp⟩ : ∃ p, p = n / 2 := ⟨_, rfl⟩
 obtain ⟨E, hE⟩ : ∃ E, E = (opened (freshDisk n) none).2 := ⟨_, rfl⟩
 have hpn : parts ([] : List UInt8).length = 1 := by decide
 have e : E = (pushes (freshDisk n) (0 * p + (1 + 0)) (fun i => partB 67 1 0 i (parts ([] : List UInt8).length) (chunk [] i)) (upto (parts ([] : List UInt8).length))).push (0 * p) (headB 1 1 1 0) := by rw [hp]; exact hE
 have hn : E.n = n ∧ E.off = false ∧ E.armed = none := by
  rw [e]
  exact ⟨(pushes_n ..).1, (pushes_n ..).2.1, (pushes_n ..).2.2.1⟩
 have hnow : ∀ y, E.now y = if y = 0 then headB 1 1 1 0 else if y = 1 then partB 67 1 0 0 1 [] else noughts := fun y => by
  rw [e, push_now]
  by_cases h0 : y = 0
  ·rw [if_pos h0, if_pos (by omega)]
  ·rw [if_neg h0, if_neg (by omega), pushes_now, hpn]
   by_cases h1 : y = 1
   ·rw [if_pos h1, if_pos (by omega), h1]
    show partB 67 1 0 (1 - (0 * p + (1 + 0))) 1 (chunk [] (1 - (0 * p + (1 + 0)))) = _
    rw [show 1 - (0 * p + (1 + 0)) = 0 by omega]
    rfl
   ·rw [if_neg h1, if_neg (by omega)]
    rfl
 have part : IsPart (partB 67 1 0 0 1 []) 67 1 0 0 1 [] := ⟨rfl, .inl rfl, by decide, by decide, by decide, by decide, by decide, .inr rfl⟩
 rw [← hE]
 have sec : ∀ y N, Sec2 (E.now (1 + y)) N 0 := fun y N => by
  rw [hnow, if_neg (by omega)]
  by_cases h1 : 1 + y = 1
  ·rw [if_pos h1]
   exact .inr ⟨67, _, _, _, _, _, part, fun h => absurd h (by decide)⟩
  ·rw [if_neg h1]
   exact Sec2.noughts N 0
 refine ⟨hn.2.1, hn.2.2, by rw [hn.1]; exact h8, by rw [hn.1]; exact h16, by decide, ?_, by decide, by decide, by decide, by decide, ⟨1, fun _ => [], ?_, rfl, rfl, .nil⟩, ?_, ?_, ?_, ?_⟩ <;> (try rw [hn.1, ← hp]) <;> show _
 ·show E.now (0 * p) = _
  rw [hnow, if_pos (by omega)]
  rfl
 ·refine ⟨by decide, fun i hi => ?_, by omega⟩
  show IsPart (E.now (0 * p + 1 + 0 + i)) _ _ _ _ _ _
  rw [hnow, if_neg (by omega), if_pos (by omega), show i = 0 by omega]
  exact part
 ·refine ⟨0, 1, 0, fun _ => [], fun i hi => by omega, by decide, by show 1 + 0 ≤ p - 1; omega, .inr ?_⟩
  show Ends (E.now (0 * p + 1 + 1 + 0)) _ _ _ _ _
  rw [hnow, if_neg (by omega), if_neg (by omega)]
  exact (Sec2.noughts 0 0).ends (.inl (by decide))
 ·intro x hx
  show Sec2 (E.now (0 * p + 1 + x)) _ _
  rw [show 0 * p + 1 + x = 1 + x by omega]
  exact sec x _
 ·intro x hx
  show Sec2 (E.now ((1 - 0) * p + 1 + x)) _ _
  rw [show (1 - 0) * p + 1 + x = 1 + (p + x) by omega]
  exact sec _ _
 ·refine .inl ?_
  show E.now ((1 - 0) * p) = _
  rw [hnow, if_neg (by omega), if_neg (by omega)]
theorem Fit.other {D : Dsk} {J : Jn} {o K : Nat} (h : Fit D J o K) (hK : K ≤ 1000000) : ∃ P, AreaOk D (1 - J.area) P ∧ ∀ r, P r → r = none ∨ ∃ J', r = some J' ∧ J'.gen < J.gen := by
 rcases h.hd2 with h2 | ⟨g, o, f, n, h1, h2, h3, h4, h5⟩
 ·exact ⟨_, .zero h2, fun r hr => .inl hr⟩
 ·refine ⟨_, .any g o f n h1 ⟨h2.1, by have := h.gen.2; omega⟩ ⟨h3.1, by omega⟩ ⟨h4.1, by omega⟩ h5 (fun x hx => ?_), fun r hr => ?_⟩
  ·rcases h.oth x hx with h6 | ⟨c, s, k, i, n, l, h6, _⟩
   ·exact .inl h6
   ·exact .inr ⟨c, s, k, i, n, l, h6⟩
  ·cases r with
   | none => exact .inl rfl
   | some J' => exact .inr ⟨J', rfl, by have := hr J' rfl; omega⟩
theorem open_fit (Sd : Nat → Prop) (d : Nat) (D : Dsk) (J : Jn) (o K : Nat) (w : World) (h : DiskAt w Sd d D) (hlt : ∀ b, Sd b → b < w.heap.size) (hwr : D.wr.length + 70000 < 1000000) (hf : Fit D J o K) (hK : K ≤ 1000000) :
  Calls Tryz.prog 4 #[.pointer (some ⟨d, 0, none⟩)] w fun e w' => ∃ jb Sj Sd', e = .returned (.tuple #[.pointer (some ⟨jb, 0, none⟩), .int .i64 0]) ∧ JAt w' Sj jb d { J with op := J.op + 1 } ∧ DiskAt w' Sd' d (D.push (J.area * (D.n / 2)) (headB J.gen (J.op + 1) J.first J.size)) ∧ (∀ b, Sj b → w.heap.size ≤ b ∧ ¬ Sd' b) ∧ (∀ b, Sd' b → (Sd b ∨ w.heap.size ≤ b) ∧ b < w'.heap.size) ∧ Off Sd w w' := by
 obtain ⟨P, hP, hP2⟩ := hf.other hK
 have hb := AreaOk.bears J rfl (hf.bears hK)
 have ha := hf.area
 have hfr : ∀ (R : Option Jn), R = some J → R = none → ∀ b, b < 2 → D.now (b * (D.n / 2)) = noughts := fun R h1 h2 => by rw [h1] at h2; cases h2
 have hop : ∀ J', some J = some J' → J'.op + 1 ≤ 4611686018427387904 ∧ J'.gen ≤ 4611686018427387904 ∧ J'.first ≤ 4611686018427387904 ∧ J'.size ≤ 1048576 := fun J' e => by
  cases e
  have h1 := hf.op
  have h2 := hf.gen
  have h3 := hf.first
  exact ⟨by omega, by omega, by omega, hf.size⟩
 obtain h0 | h0 : J.area = 0 ∨ J.area = 1 := by omega
 ·rw [show 1 - J.area = 1 by omega] at hP
  rw [h0] at hb
  have hR : ∀ r, Pre (fun r => r = some J) P 2 r → r = some J := by
   rintro r ⟨r0, r1, e0, h1, e⟩
   subst e0
   rcases hP2 r1 h1 with rfl | ⟨J', rfl, h2⟩
   ·exact e
   ·rw [e]
    show (if J'.gen > J.gen then some J' else some J) = _
    rw [if_neg (by omega)]
  exact open_at (some J) Sd d D w h hlt hf.off hf.armed hwr (by have := hf.n8; omega) hb hP hR (hfr _ rfl) hop
 ·rw [show 1 - J.area = 0 by omega] at hP
  rw [h0] at hb
  have hR : ∀ r, Pre P (fun r => r = some J) 2 r → r = some J := by
   rintro r ⟨r0, r1, h1, e1, e⟩
   subst e1
   rcases hP2 r0 h1 with rfl | ⟨J', rfl, h2⟩
   ·exact e
   ·rw [e]
    show (if J.gen > J'.gen then some J else some J') = _
    rw [if_pos (by omega)]
  exact open_at (some J) Sd d D w h hlt hf.off hf.armed hwr (by have := hf.n8; omega) hP hb hR (hfr _ rfl) hop
theorem open_fresh (Sd : Nat → Prop) (d n : Nat) (w : World) (h : DiskAt w Sd d (freshDisk n)) (hlt : ∀ b, Sd b → b < w.heap.size) (h8 : 8 ≤ n) :
  Calls Tryz.prog 4 #[.pointer (some ⟨d, 0, none⟩)] w fun e w' => ∃ jb Sj Sd', e = .returned (.tuple #[.pointer (some ⟨jb, 0, none⟩), .int .i64 0]) ∧ JAt w' Sj jb d newJ ∧ DiskAt w' Sd' d (opened (freshDisk n) none).2 ∧ (∀ b, Sj b → w.heap.size ≤ b ∧ ¬ Sd' b) ∧ (∀ b, Sd' b → (Sd b ∨ w.heap.size ≤ b) ∧ b < w'.heap.size) ∧ Off Sd w w' :=
 open_at none Sd d (freshDisk n) w h hlt rfl rfl (by show 0 + 70000 < 1000000; omega) (by show 4 ≤ n; omega) (.zero rfl) (.zero rfl) (by
  rintro r ⟨r0, r1, h0, h1, e⟩
  rw [e, h0, h1]
  rfl) (fun _ _ _ => rfl) (fun J e => by cases e)
def Coh (D : Dsk) : Prop := D.now = behind D.base D.wr
theorem Coh.push {D : Dsk} (h : Coh D) (p : Nat) (l : List UInt8) : Coh (D.push p l) := by
 unfold Coh at *
 show upd D.now p l = behind D.base (D.wr ++ [(p, l)])
 unfold behind at *
 rw [List.foldl_append, ← h]
 rfl
theorem Coh.pushes {D : Dsk} (h : Coh D) (b : Nat) (f : Nat → List UInt8) (is : List Nat) : Coh (pushes D b f is) := by
 induction is generalizing D with
 | nil => exact h
 | cons i is ih => exact ih (h.push _ _)
theorem pushes_base (D : Dsk) (b : Nat) (f : Nat → List UInt8) (is : List Nat) : (pushes D b f is).base = D.base ∧ (pushes D b f is).wr = D.wr ++ is.map (fun i => (b + i, f i)) := by
 induction is generalizing D with
 | nil => exact ⟨rfl, (List.append_nil _).symm⟩
 | cons i is ih =>
  obtain ⟨h1, h2⟩ := ih (D := D.push (b + i) (f i))
  refine ⟨h1, ?_⟩
  show (Jnl.pushes (D.push (b + i) (f i)) b f is).wr = _
  rw [h2]
  show (D.wr ++ [(b + i, f i)]) ++ _ = _
  rw [List.append_assoc]
  rfl
theorem cut_now (D : Dsk) (q : Nat) (hq : q ≤ D.wr.length) : (D.cut (q : Int)).now = behind D.base (D.wr.take q) ∧ (D.cut (q : Int)).base = behind D.base (D.wr.take q) := by
 have e : (max 0 (min (D.wr.length : Int) (q : Int))).toNat = q := by omega
 unfold Dsk.cut
 rw [e]
 exact ⟨rfl, rfl⟩
theorem cut_all {D : Dsk} (h : Coh D) : (D.cut (D.wr.length : Int)).now = D.now := by
 rw [(cut_now D _ (Nat.le_refl _)).1, List.take_length]
 exact h.symm
theorem upto_take (M q : Nat) (h : q ≤ M) : (upto M).take q = upto q := by
 induction M with
 | zero =>
  have : q = 0 := by omega
  rw [this]; rfl
 | succ M ih =>
  by_cases h2 : q = M + 1
  ·rw [h2]
   exact List.take_of_length_le (by rw [upto_length]; exact Nat.le_refl _)
  ·rw [upto_succ, List.take_append_of_le_length (by rw [upto_length]; omega), ih (by omega)]
theorem cut_pushes {D : Dsk} (hb : D.base = D.now) (hw : D.wr = []) (b : Nat) (f : Nat → List UInt8) (M q : Nat) (hq : q ≤ M) : behind (pushes D b f (upto M)).base ((pushes D b f (upto M)).wr.take q) = (pushes D b f (upto q)).now := by
 have hc : Coh D := by unfold Coh; rw [hb, hw]; rfl
 have h1 := hc.pushes b f (upto q)
 unfold Coh at h1
 rw [h1, (pushes_base D b f (upto M)).1, (pushes_base D b f (upto M)).2, (pushes_base D b f (upto q)).1, (pushes_base D b f (upto q)).2, hw, List.nil_append, List.nil_append, ← List.map_take, upto_take M q hq]
theorem cut_app {D : Dsk} (hb : D.base = D.now) (hw : D.wr = []) {J : Jn} {l : List UInt8} (q : Nat) (hq : q ≤ (appD D J l).wr.length) : ((appD D J l).cut (q : Int)).now = (pushes D (J.area * (D.n / 2) + (1 + J.used)) (fun i => partB 82 J.op (J.first + J.recs.length) i (parts l.length) (chunk l i)) (upto q)).now := by
 rw [(cut_now _ q hq).1]
 refine cut_pushes hb hw _ _ _ q ?_
 have : (appD D J l).wr.length = parts l.length := by
  unfold appD
  rw [(pushes_n ..).2.2.2, hw, upto_length]
  exact Nat.zero_add _
 omega
theorem app_wr (D : Dsk) (J : Jn) (l : List UInt8) : (appD D J l).wr.length = D.wr.length + parts l.length := by
 unfold appD
 rw [(pushes_n ..).2.2.2, upto_length]
theorem ck_wr (D : Dsk) (J : Jn) (l : List UInt8) : (ckD D J l).wr.length = D.wr.length + parts l.length + 1 := by
 show ((ckP D J l).wr ++ [_]).length = _
 rw [List.length_append, (ckP_n D J l).2.2.2]
 rfl
theorem settled_coh {D : Dsk} (hb : D.base = D.now) (hw : D.wr = []) : Coh D := by unfold Coh; rw [hb, hw]; rfl
theorem Coh.app {D : Dsk} (h : Coh D) (J : Jn) (l : List UInt8) : Coh (appD D J l) := h.pushes _ _ _
theorem Coh.ck {D : Dsk} (h : Coh D) (J : Jn) (l : List UInt8) : Coh (ckD D J l) := (h.pushes _ _ _).push _ _
theorem found_app {D : Dsk} {J : Jn} {o K q : Nat} {l : List UInt8} (h : Fit D J o K) (hK : K ≤ 1000000) (ho : o ≤ J.op) (hl : l.length ≤ 1048576) (hr : parts l.length ≤ D.n / 2 - 1 - J.used) (hb : D.base = D.now) (hw : D.wr = []) (hq : q ≤ (appD D J l).wr.length) :
  (q < (appD D J l).wr.length → Fit ((appD D J l).cut (q : Int)) J (J.op + 1) K) ∧ (q = (appD D J l).wr.length → Fit ((appD D J l).cut (q : Int)) (J.app l) 0 (K + 1)) := by
 have hwr : (appD D J l).wr.length = parts l.length := by rw [app_wr, hw]; exact Nat.zero_add _
 have hn : ((appD D J l).cut (q : Int)).n = D.n := (pushes_n ..).1
 refine ⟨fun hq2 => h.app_cut hK ho hl hr (by omega) hn rfl rfl (cut_app hb hw q hq), fun hq2 => ?_⟩
 have hf := h.app hK hl hr
 refine hf.same rfl ?_ rfl rfl
 rw [hq2]
 exact cut_all ((settled_coh hb hw).app J l)
theorem found_ck {D : Dsk} {J : Jn} {K q : Nat} {l : List UInt8} (h : Fit D J 0 K) (hK : K ≤ 1000000) (hl : l.length ≤ 1048576) (hr : parts l.length ≤ D.n / 2 - 1) (hb : D.base = D.now) (hw : D.wr = []) (hq : q ≤ (ckD D J l).wr.length) :
  Fit ((ckD D J l).cut (q : Int)) J 0 K ∨ Fit ((ckD D J l).cut (q : Int)) (J.ck l) 0 (K + 1) := by
 have hwr : (ckD D J l).wr.length = parts l.length + 1 := by rw [ck_wr, hw]; show 0 + _ + 1 = _; omega
 have hwp : (ckP D J l).wr.length = parts l.length := by rw [(ckP_n D J l).2.2.2, hw]; exact Nat.zero_add _
 have hn : ((ckD D J l).cut (q : Int)).n = D.n := (ckP_n D J l).1
 by_cases hq2 : q = (ckD D J l).wr.length
 ·refine .inr ((h.ck hK hl hr).same rfl ?_ rfl rfl)
  rw [hq2]
  exact cut_all ((settled_coh hb hw).ck J l)
 ·refine .inl (h.ck_cut hK hl hr (q := q) (by omega) hn rfl rfl ?_)
  rw [(cut_now _ q hq).1, ← cut_pushes hb hw _ _ (parts l.length) q (by omega)]
  show behind (ckP D J l).base (((ckP D J l).wr ++ [_]).take q) = behind (ckP D J l).base ((ckP D J l).wr.take q)
  rw [List.take_append_of_le_length (by omega)]
theorem found_open {C : Dsk} {J : Jn} {o K r : Nat} (h : Fit C J o K) (hb : C.base = C.now) (hw : C.wr = []) (hr : r ≤ (C.push (J.area * (C.n / 2)) (headB J.gen (J.op + 1) J.first J.size)).wr.length) :
  ∃ op, op ≤ J.op + 1 ∧ Fit ((C.push (J.area * (C.n / 2)) (headB J.gen (J.op + 1) J.first J.size)).cut (r : Int)) { J with op := op } o (K + 1) := by
 have hl : (C.push (J.area * (C.n / 2)) (headB J.gen (J.op + 1) J.first J.size)).wr.length = 1 := by
  show (C.wr ++ [_]).length = 1
  rw [hw]
  rfl
 obtain rfl | rfl : r = 0 ∨ r = 1 := by omega
 ·refine ⟨J.op, by omega, (h.less (Nat.le_refl _) (Nat.le_succ _)).same rfl ?_ rfl rfl⟩
  rw [(cut_now _ 0 (by omega)).1]
  exact hb
 ·refine ⟨J.op + 1, Nat.le_refl _, h.reopen.same rfl ?_ rfl rfl⟩
  have := cut_all ((settled_coh hb hw).push (J.area * (C.n / 2)) (headB J.gen (J.op + 1) J.first J.size))
  rw [hl] at this
  exact this
def settled (D : Dsk) : Dsk := { D with base := D.now, wr := [] }
theorem Fit.settle {D : Dsk} {J : Jn} {o K : Nat} (h : Fit D J o K) : Fit (settled D) J o K := h.same rfl rfl h.off h.armed
theorem Fit.all {D : Dsk} {J : Jn} {o K : Nat} (h : Fit D J o K) (hc : Coh D) : Fit (D.cut (D.wr.length : Int)) J o K := h.same rfl (cut_all hc) rfl rfl
def putR (D : Dsk) (J : Jn) (ck : Bool) (l : List UInt8) : Dsk × Jn :=
 if ck = true then (if D.n / 2 - 1 < parts l.length then (D, J) else (ckD D J l, J.ck l)) else (if D.n / 2 - 1 - J.used < parts l.length then (D, J) else (appD D J l, J.app l))
theorem putR_fit {D : Dsk} {J : Jn} {K : Nat} {l : List UInt8} (ck : Bool) (h : Fit D J 0 K) (hK : K ≤ 1000000) (hl : l.length ≤ 1048576) : Fit (putR D J ck l).1 (putR D J ck l).2 0 (K + 1) ∧ (putR D J ck l).1.n = D.n ∧ (putR D J ck l).1.wr.length ≤ D.wr.length + parts l.length + 1 ∧ (Coh D → Coh (putR D J ck l).1) := by
 unfold putR
 cases ck with
 | true =>
  rw [if_pos rfl]
  by_cases h1 : D.n / 2 - 1 < parts l.length
  ·rw [if_pos h1]
   exact ⟨h.less (Nat.le_refl _) (Nat.le_succ _), rfl, by show D.wr.length ≤ _; omega, fun h => h⟩
  ·rw [if_neg h1]
   exact ⟨h.ck hK hl (by omega), (ckP_n D J l).1, by show (ckD D J l).wr.length ≤ _; rw [ck_wr]; exact Nat.le_refl _, fun h => h.ck J l⟩
 | false =>
  rw [if_neg (by decide)]
  by_cases h1 : D.n / 2 - 1 - J.used < parts l.length
  ·rw [if_pos h1]
   exact ⟨h.less (Nat.le_refl _) (Nat.le_succ _), rfl, by show D.wr.length ≤ _; omega, fun h => h⟩
  ·rw [if_neg h1]
   exact ⟨h.app hK hl (by omega), (pushes_n ..).1, by show (appD D J l).wr.length ≤ _; rw [app_wr]; omega, fun h => h.app J l⟩
theorem putR_cut {D : Dsk} {J : Jn} {K q : Nat} {l : List UInt8} (ck : Bool) (h : Fit D J 0 K) (hK : K ≤ 1000000) (hl : l.length ≤ 1048576) (hb : D.base = D.now) (hw : D.wr = []) (hq : q ≤ (putR D J ck l).1.wr.length) :
  ∃ Jc, (Jc = J ∨ Jc = (putR D J ck l).2) ∧ Fit ((putR D J ck l).1.cut (q : Int)) Jc (J.op + 1) (K + 1) := by
 have same : D.wr = [] → ∀ q : Nat, q ≤ D.wr.length → Fit (D.cut (q : Int)) J (J.op + 1) (K + 1) := fun hw q hq => by
  refine (h.less (Nat.zero_le _) (Nat.le_succ _)).same rfl ?_ rfl rfl
  rw [(cut_now D q hq).1, hw, hb, List.take_nil]
  rfl
 unfold putR at hq ⊢
 cases ck with
 | true =>
  rw [if_pos rfl] at hq ⊢
  by_cases h1 : D.n / 2 - 1 < parts l.length
  ·rw [if_pos h1] at hq ⊢
   exact ⟨J, .inl rfl, same hw q hq⟩
  ·rw [if_neg h1] at hq ⊢
   rcases found_ck h hK hl (by omega) hb hw hq with h2 | h2
   ·exact ⟨J, .inl rfl, h2.less (Nat.zero_le _) (Nat.le_succ _)⟩
   ·exact ⟨J.ck l, .inr rfl, h2.less (Nat.zero_le _) (Nat.le_refl _)⟩
 | false =>
  rw [if_neg (by decide)] at hq ⊢
  by_cases h1 : D.n / 2 - 1 - J.used < parts l.length
  ·rw [if_pos h1] at hq ⊢
   exact ⟨J, .inl rfl, same hw q hq⟩
  ·rw [if_neg h1] at hq ⊢
   have h2 := found_app (q := q) h hK (Nat.zero_le _) hl (by omega) hb hw hq
   by_cases hq2 : q = (appD D J l).wr.length
   ·exact ⟨J.app l, .inr rfl, (h2.2 hq2).less (Nat.zero_le _) (Nat.le_refl _)⟩
   ·exact ⟨J, .inl rfl, (h2.1 (by show q < (appD D J l).wr.length; have : q ≤ (appD D J l).wr.length := hq; omega)).less (Nat.le_refl _) (Nat.le_succ _)⟩
def rep (l : List UInt8) (n : Nat) : List UInt8 := (List.replicate n l).flatten
theorem rep_succ (l : List UInt8) (n : Nat) : rep l (n + 1) = rep l n ++ l := by
 unfold rep
 rw [List.replicate_succ', List.flatten_append]
 simp
theorem rep_length (l : List UInt8) (n : Nat) : (rep l n).length = n * l.length := by simp [rep]
def BArg (w : World) (A : Option Addr) (l : List UInt8) (cap : Nat) : Prop := (l = [] ∧ cap = 0) ∨ ∃ g off, A = some ⟨g, off, none⟩ ∧ w.rangeAt g off (u8s l)
theorem BArg.below {w w' : World} {A : Option Addr} {l : List UInt8} {cap : Nat} (h : BArg w A l cap) (hb : Below w.heap.size w w') : BArg w' A l cap := by
 rcases h with h | ⟨g, off, h1, h2⟩
 ·exact .inl h
 ·exact .inr ⟨g, off, h1, rangeAt_grown h2 (Below.to_grown hb)⟩
theorem bytes_at (k : UInt8) (z : Int) (l : List UInt8) (A : Option Addr) (cap : Nat) (hl : l.length ≤ 3000) (_ : l.length ≤ cap) (_ : cap ≤ maxLen) (w : World) (hA : BArg w A l cap) :
  Calls Tryz.prog 75 #[.agg #[.int .u8 (k.toNat : Int), .slice A l.length cap, .int .i64 z]] w fun e w' => ∃ v, e = .returned v ∧ BRow w' w.heap.size v (rep l (k.toNat / 9 + 1)) ∧ Below w.heap.size w w' := by
 obtain ⟨n, hn⟩ : ∃ n, n = l.length := ⟨_, rfl⟩
 obtain ⟨q, hq⟩ : ∃ q, q = k.toNat := ⟨_, rfl⟩
 rw [← hn, ← hq]
 have hq2 : q < 256 := by rw [hq]; exact k.toNat_lt
 have HNL := Lib.hid hn
 have HL := Lib.hid hl
 have HA := Lib.hid hA
 obtain ⟨y, hy⟩ : ∃ y, y = w.alloc (.cells #[.int .u8 (q : Int), .slice A n cap, .int .i64 z] 37) := ⟨_, rfl⟩
 have h1 := (MapKept.heap_alloc w (.cells #[.int .u8 (q : Int), .slice A n cap, .int .i64 z] 37)).1
 have h2 := World.grownBy_alloc w (.cells #[.int .u8 (q : Int), .slice A n cap, .int .i64 z] 37) none
 have h3 : (w.alloc (.cells #[.int .u8 (q : Int), .slice A n cap, .int .i64 z] 37)).heap.size = w.heap.size + 1 := World.size_alloc ..
 rw [← hy] at h1 h2 h3
 have HB := Lib.hid h1
 have HG := Lib.hid h2
 have HS := Lib.hid h3
 have HAY : Hid (BArg y A l cap) := hA.below (grown_below0 h2 (Nat.le_refl _))
 clear hn hq hl hA h1 h2 h3
 go_enter Tryz.func75, Tryz.ntmps75
 go_upto_region 2 with fail
 rw [← hy]
 clear hy
 go_wp2_with fail
 go_loopw [3, 4] (fun bv iv wr => ∃ j : Nat, j ≤ q / 9 + 1 ∧ iv = .int .u8 (j : Int) ∧ BRow wr (w.heap.size + 1) bv (rep l j) ∧ Below (w.heap.size + 1) y wr) (fun _ iv _ => q / 9 + 1 - (intOf iv).toNat)
 case atStart => exact ⟨0, Nat.zero_le _, rfl, ⟨rfl, .inl ⟨rfl, rfl⟩⟩, Below.refl _ _⟩
 case round =>
  obtain ⟨j, hj, rfl, hrow, hbel⟩ := hrel
  have HROW := Lib.hid hrow
  have HBEL := Lib.hid hbel
  have HBR : Hid (wr.heap[w.heap.size]? = _) := (hbel.block w.heap.size (by omega)).trans HB.out
  have c0 : wr.cell? ⟨w.heap.size, 0, none⟩ = some (.int .u8 (q : Int)) := cell_blk HBR.out 0
  have c1 : wr.cell? ⟨w.heap.size, 1, none⟩ = some (.slice A n cap) := cell_blk HBR.out 1
  clear hrow hbel
  by_cases hlt : j < q / 9 + 1
  ·have hd : decide ((j : Int) ≤ (q : Int) / 9) = true := by simp; omega
   have HLEN : Hid ((rep l j).length + n < 100000000000) := by show _ < _; rw [rep_length, HNL.out]; have := HL.out; have : j * l.length ≤ 30 * 3000 := Nat.mul_le_mul (by omega) (by omega); omega
   have HAR : Hid (BArg wr A l cap) := by
    rcases HAY.out with h | ⟨g, off, h1, h2⟩
    ·exact .inl h
    ·refine .inr ⟨g, off, h1, rangeAt_grown h2 (Below.to_grown ?_)⟩
     rw [HS.out]
     exact HBEL.out
   have HSZ : Hid (w.heap.size + 1 ≤ wr.heap.size) := by show _ ≤ _; rw [← HS.out]; exact HBEL.out.size
   have hj29 : j ≤ 28 := by omega
   go_wp2_with (first
    | (at_builtin; refine wpList_append_bytes rfl (.tmp 12) (.tmp 14) rfl (w.heap.size + 1) _ _ l A n cap HNL.out.symm rfl HROW.out rfl HAR.out HLEN.out HSZ.out ?_; intro v3 w3 hr3 hb3; go_frame)
    | fail)
   go_roundw
   case rel => exact ⟨j + 1, hlt, by go_num, by rw [rep_succ]; exact hr3, HBEL.out.trans hb3⟩
   case measure => simp [intOf]; omega
  ·have hd : decide ((j : Int) ≤ (q : Int) / 9) = false := by simp; omega
   obtain rfl : j = q / 9 + 1 := by omega
   go_wp2_with fail
   go_ret
   refine ⟨u3, rfl, brow_less HROW.out (Nat.le_succ _), ?_⟩
   have h1 := HG.out
   exact ⟨HBEL.out.os.trans h1.os, HBEL.out.tape.trans h1.tape, HBEL.out.output.trans h1.output, Nat.le_trans h1.size HBEL.out.size, fun i hi => (HBEL.out.block i (by omega)).trans (h1.block i hi (by simp))⟩
theorem brow_arg {w : World} {B : Nat} {v : Value} {l : List UInt8} (h : BRow w B v l) : ∃ A cap, v = .slice A l.length cap ∧ l.length ≤ cap ∧ cap ≤ maxLen ∧ ((A = none ∧ l = [] ∧ cap = 0) ∨ ∃ g off, A = some ⟨g, off, none⟩ ∧ g < w.heap.size ∧ w.rangeAt g off (u8s l)) ∧ ∀ g off, A = some ⟨g, off, none⟩ → B ≤ g := by
 obtain ⟨hlen, ⟨rfl, e⟩ | ⟨g, cap, cur, rfl, hB, hb, h1, h2, _, ht⟩⟩ := h
 ·have : l = [] := List.length_eq_zero_iff.1 e
  exact ⟨none, 0, by rw [e], by omega, by unfold maxLen; omega, .inl ⟨rfl, this, rfl⟩, fun g off e => by cases e⟩
 ·refine ⟨_, cap, rfl, h1, h2, .inr ⟨g, 0, rfl, (Array.getElem?_eq_some_iff.1 hb).1, fun i v hi => ?_⟩, fun g' off e => by cases e; exact hB⟩
  rw [← ht, List.getElem?_take] at hi
  rw [Nat.zero_add, cell_blk hb]
  split at hi
  ·simpa using hi
  ·cases hi
def PutTo (w w' : World) (S Sd : Nat → Prop) (d jb : Nat) (R : Dsk × Jn) : Prop := ∃ S' Sd', JAt w' S' jb d R.2 ∧ DiskAt w' Sd' d R.1 ∧ (∀ b, S' b → ¬ Sd' b) ∧ (∀ b, S' b → S b ∨ w.heap.size ≤ b) ∧ (∀ b, Sd' b → (Sd b ∨ w.heap.size ≤ b) ∧ b < w'.heap.size) ∧ Off (fun b => S b ∨ Sd b) w w'
theorem PutTo.start {w0 w w' : World} {S Sd : Nat → Prop} {d jb : Nat} {R : Dsk × Jn} (h : PutTo w w' S Sd d jb R) (hg : w0.grownBy w none) : PutTo w0 w' S Sd d jb R := by
 obtain ⟨S', Sd', h1, h2, h3, h4, h5, h6⟩ := h
 have := hg.size
 exact ⟨S', Sd', h1, h2, h3, fun b hb => (h4 b hb).elim .inl (fun h => .inr (by omega)), fun b hb => ⟨(h5 b hb).1.elim .inl (fun h => .inr (by omega)), (h5 b hb).2⟩, (Off.of_grown hg (by simp)).trans h6⟩
theorem PutTo.same {w : World} {S Sd : Nat → Prop} {d jb m : Nat} {D : Dsk} {J : Jn} (h : DiskAt w Sd d D) (hlt : ∀ b, Sd b → b < w.heap.size) (hj : JAt w S jb d J) (hSS : ∀ b, S b → ¬ Sd b) : PutTo w (w.drewN m) S Sd d jb (D, J) :=
 ⟨S, Sd, hj.off (T := fun _ => False) ⟨rfl, rfl, rfl, Nat.le_refl _, fun _ _ _ => rfl⟩ (fun _ _ h => h), h.grown ⟨rfl, rfl, rfl, Nat.le_refl _, fun _ _ _ => rfl⟩, hSS, fun _ hb => .inl hb, fun b hb => ⟨.inl hb, hlt b hb⟩, ⟨rfl, rfl, rfl, Nat.le_refl _, fun _ _ _ => rfl⟩⟩
theorem append_any (Sd S : Nat → Prop) (d jb : Nat) (D : Dsk) (J : Jn) (K : Nat) (l : List UInt8) (A : Option Addr) (cap : Nat) (w : World) (h : DiskAt w Sd d D) (hlt : ∀ b, Sd b → b < w.heap.size) (hj : JAt w S jb d J) (hSS : ∀ b, S b → ¬ Sd b) {o : Nat} (hf : Fit D J o K) (hK : K ≤ 1000000) (hwr : D.wr.length + 70000 < 1000000) (hl : l.length ≤ 1048576) (hcap : l.length ≤ cap) (hcm : cap ≤ maxLen)
  (hA : (l = [] ∧ cap = 0) ∨ ∃ g off, A = some ⟨g, off, none⟩ ∧ g < w.heap.size ∧ ¬ (Sd g ∨ g = jb) ∧ w.rangeAt g off (u8s l)) :
  Calls Tryz.prog 13 #[.pointer (some ⟨jb, 0, none⟩), .slice A l.length cap] w fun e w' => e = .returned (.int .i64 (if D.n / 2 - 1 - J.used < parts l.length then 31 else 0)) ∧ PutTo w w' S Sd d jb (putR D J false l) := by
 unfold putR
 rw [if_neg Bool.false_ne_true]
 have h1 := hf.first
 have h2 := hf.op
 by_cases hno : D.n / 2 - 1 - J.used < parts l.length
 ·rw [if_pos hno, if_pos hno]
  refine (append_no Sd S d jb D J l A cap w h hj hf.used (by have := hf.n8; omega) hl hcap hcm hno).mono ?_
  rintro e w' ⟨rfl, m, rfl⟩
  exact ⟨rfl, .same h hlt hj hSS⟩
 ·rw [if_neg hno, if_neg hno]
  refine (append_ok (appD D J l) Sd S d jb D J l A cap w h hlt hj hSS hwr (by have := hf.n8; omega) hf.area hf.used hl hcap hcm (by omega) (putsE_live D _ _ hf.off hf.armed _ (app_room hf.area (by have := hf.n8; omega) hf.used (by omega)) (fun i _ => partB_length _ _ _ _ _ _ (chunk_le l i))) ⟨by omega, by omega⟩ (by omega) hA).mono ?_
  rintro e w' ⟨rfl, h3⟩
  exact ⟨rfl, h3⟩
theorem ck_any (Sd S : Nat → Prop) (d jb : Nat) (D : Dsk) (J : Jn) (K : Nat) (l : List UInt8) (A : Option Addr) (cap : Nat) (w : World) (h : DiskAt w Sd d D) (hlt : ∀ b, Sd b → b < w.heap.size) (hj : JAt w S jb d J) (hSS : ∀ b, S b → ¬ Sd b) {o : Nat} (hf : Fit D J o K) (hK : K ≤ 1000000) (hwr : D.wr.length + 70000 < 1000000) (hl : l.length ≤ 1048576) (hcap : l.length ≤ cap) (hcm : cap ≤ maxLen)
  (hA : (A = none ∧ l = [] ∧ cap = 0) ∨ ∃ g off, A = some ⟨g, off, none⟩ ∧ g < w.heap.size ∧ w.rangeAt g off (u8s l)) (hAS : ∀ g off, A = some ⟨g, off, none⟩ → ¬ (Sd g ∨ g = jb)) :
  Calls Tryz.prog 14 #[.pointer (some ⟨jb, 0, none⟩), .slice A l.length cap] w fun e w' => e = .returned (.int .i64 (if D.n / 2 - 1 < parts l.length then 31 else 0)) ∧ PutTo w w' S Sd d jb (putR D J true l) := by
 unfold putR
 rw [if_pos rfl]
 have h1 := hf.first
 have h2 := hf.op
 have h3 := hf.gen
 by_cases hno : D.n / 2 - 1 < parts l.length
 ·rw [if_pos hno, if_pos hno]
  refine (ck_no Sd S d jb D J l A cap w h hj (by have := hf.n8; omega) hl hcap hcm hno).mono ?_
  rintro e w' ⟨rfl, m, rfl⟩
  exact ⟨rfl, .same h hlt hj hSS⟩
 ·rw [if_neg hno, if_neg hno]
  refine (ck_ok (ckP D J l) (ckD D J l) Sd S d jb D J l A cap w h hlt hj hSS hwr (by have := hf.n8; omega) hf.area hl hcap hcm (by omega) (putsE_live D _ _ hf.off hf.armed _ (ck_room hf.area (by have := hf.n8; omega) (by omega)) (fun i _ => partB_length _ _ _ _ _ _ (chunk_le l i))) (by rw [(ckP_n D J l).1]; exact wrote_live (ckP D J l) (by rw [(ckP_n D J l).2.1]; exact hf.off) (by rw [(ckP_n D J l).2.2.1]; exact hf.armed) (by rw [(ckP_n D J l).1]; have := hf.n8; have := hf.area; rcases (show J.area = 0 ∨ J.area = 1 by omega) with e | e <;> rw [e] <;> omega) (headB_length _ _ _ _)) ⟨by omega, by omega, by omega⟩ hA hAS).mono ?_
  rintro e w' ⟨rfl, h3⟩
  exact ⟨rfl, h3⟩
theorem put_law (Sd S : Nat → Prop) (d jb : Nat) (D : Dsk) (J : Jn) (K : Nat) (k : UInt8) (z : Int) (l : List UInt8) (A : Option Addr) (cap : Nat) (w : World) (h : DiskAt w Sd d D) (hlt : ∀ b, Sd b → b < w.heap.size) (hj : JAt w S jb d J) (hSS : ∀ b, S b → ¬ Sd b) {o : Nat} (hf : Fit D J o K) (hK : K ≤ 1000000) (hwr : D.wr.length + 70000 < 1000000) (hl : l.length ≤ 3000) (hcap : l.length ≤ cap) (hcm : cap ≤ maxLen) (hA : BArg w A l cap) :
  Calls Tryz.prog 49 #[.pointer (some ⟨jb, 0, none⟩), .agg #[.int .u8 (k.toNat : Int), .slice A l.length cap, .int .i64 z]] w fun e w' => e = .returned (.tuple #[]) ∧ PutTo w w' S Sd d jb (putR D J (decide (k.toNat % 9 = 4)) (rep l (k.toNat / 9 + 1))) := by
 have hltj : ∀ b, (Sd b ∨ b = jb) → b < w.heap.size := by
  obtain ⟨sv, rv, vs, h1⟩ := hj
  exact fun b hb => hb.elim (hlt b) (fun e => by rw [e]; exact h1.lt jb h1.own.1)
 have hrl : (rep l (k.toNat / 9 + 1)).length ≤ 1048576 := by
  rw [rep_length]
  have h1 : k.toNat < 256 := k.toNat_lt
  have : (k.toNat / 9 + 1) * l.length ≤ 30 * 3000 := Nat.mul_le_mul (by omega) (by omega)
  omega
 obtain ⟨m, hm⟩ : ∃ m, m = l.length := ⟨_, rfl⟩
 obtain ⟨y, hy⟩ : ∃ y, y = w.alloc (.cells #[.int .u8 (k.toNat : Int), .slice A l.length cap, .int .i64 z] 37) := ⟨_, rfl⟩
 have h1 := (MapKept.heap_alloc w (.cells #[.int .u8 (k.toNat : Int), .slice A l.length cap, .int .i64 z] 37)).1
 have h2 := World.grownBy_alloc w (.cells #[.int .u8 (k.toNat : Int), .slice A l.length cap, .int .i64 z] 37) none
 rw [← hy] at h1 h2
 have HAFT : Hid (∀ w2, Below y.heap.size y w2 → w.grownBy w2 none ∧ DiskAt w2 Sd d D ∧ (∀ b, Sd b → b < w2.heap.size) ∧ JAt w2 S jb d J) := fun w2 hb => by
  have hg : w.grownBy w2 none := ⟨hb.os.trans h2.os, hb.tape.trans h2.tape, hb.output.trans h2.output, Nat.le_trans h2.size hb.size, fun i hi _ => (hb.block i (Nat.lt_of_lt_of_le hi h2.size)).trans (h2.block i hi (by simp))⟩
  exact ⟨hg, h.grown hg, fun b hb => Nat.lt_of_lt_of_le (hlt b hb) hg.size, hj.off (Off.of_grown hg (S := fun _ => False) (by simp)) (fun _ _ h => h)⟩
 have HBY : Hid (BArg y A l cap) := hA.below (grown_below0 h2 (Nat.le_refl _))
 have HYS : Hid (w.heap.size ≤ y.heap.size) := h2.size
 have HC := Lib.hid (And.intro hl (And.intro hcap hcm))
 have HSS := Lib.hid hSS
 have HF := Lib.hid hf
 have HK := Lib.hid hK
 have HWR := Lib.hid hwr
 have HST := Lib.hid (And.intro True.intro hltj)
 have c0 : y.cell? ⟨w.heap.size, 0, none⟩ = some (.int .u8 (k.toNat : Int)) := cell_blk h1 0
 have c1 : y.cell? ⟨w.heap.size, 1, none⟩ = some (.slice A m cap) := by rw [hm]; exact cell_blk h1 1
 have c2 : y.cell? ⟨w.heap.size, 2, none⟩ = some (.int .i64 z) := cell_blk h1 2
 have hk : k.toNat < 256 := k.toNat_lt
 rw [← hm] at hy ⊢
 have HBC := Lib.hid (bytes_at k z l A cap hl hcap hcm y HBY.out)
 obtain ⟨q, hq⟩ : ∃ q, q = k.toNat := ⟨_, rfl⟩
 rw [← hm, ← hq] at HBC
 rw [← hq] at hy hk c0 hrl ⊢
 have HRL := Lib.hid hrl
 clear h hlt hj hSS hf hK hwr hl hcap hcm hA h1 h2 hm hrl hltj hq HC HBY
 by_cases h4 : q % 9 = 4
 ·have hd : ((q : Int) % 9 == 4) = true := by simp; omega
  rw [decide_eq_true h4]
  clear h4
  go_enter Tryz.func49, Tryz.ntmps49
  go_upto_region 1 with fail
  rw [← hy]
  clear hy
  go_wp2_with fail
  refine HBC.out.mono ?_
  rintro e w2 ⟨v, rfl, hr, hb⟩
  obtain ⟨hg, hd2, hlt2, hj2⟩ := HAFT.out w2 hb
  obtain ⟨Av, capv, rfl, hc1, hc2, ha1, ha2⟩ := brow_arg hr
  have HG := Lib.hid hg
  have HCK := Lib.hid ((ck_any Sd S d jb D J K _ Av capv w2 hd2 hlt2 hj2 HSS.out HF.out HK.out HWR.out HRL.out hc1 hc2 ha1 (fun g off e hs => by have := ha2 g off e; have := HST.out.2 g hs; have := HYS.out; omega)).mono (R' := fun e w' => ∃ x : Int, e = .returned (.int .i64 x) ∧ PutTo w2 w' S Sd d jb _) (fun e w' h => ⟨_, h.1, h.2⟩))
  clear hr hb hg hd2 hlt2 hj2 hc1 hc2 ha1 ha2
  go_wp2_with fail
  refine HCK.out.mono ?_
  rintro e w3 ⟨x, rfl, hp⟩
  have HP := Lib.hid (hp.start HG.out)
  clear hp
  go_wp2_with fail
  go_end0
  exact ⟨rfl, HP.out⟩
 ·have hd : ((q : Int) % 9 == 4) = false := by simp; omega
  rw [decide_eq_false h4]
  clear h4
  go_enter Tryz.func49, Tryz.ntmps49
  go_upto_region 1 with fail
  rw [← hy]
  clear hy
  go_wp2_with fail
  refine HBC.out.mono ?_
  rintro e w2 ⟨v, rfl, hr, hb⟩
  obtain ⟨hg, hd2, hlt2, hj2⟩ := HAFT.out w2 hb
  obtain ⟨Av, capv, rfl, hc1, hc2, ha1, ha2⟩ := brow_arg hr
  have HG := Lib.hid hg
  have HCK := Lib.hid ((append_any Sd S d jb D J K _ Av capv w2 hd2 hlt2 hj2 HSS.out HF.out HK.out HWR.out HRL.out hc1 hc2 (ha1.imp (fun h => h.2) (fun ⟨g, off, e, h1, h2⟩ => ⟨g, off, e, h1, fun hs => by have := ha2 g off e; have := HST.out.2 g hs; have := HYS.out; omega, h2⟩))).mono (R' := fun e w' => ∃ x : Int, e = .returned (.int .i64 x) ∧ PutTo w2 w' S Sd d jb _) (fun e w' h => ⟨_, h.1, h.2⟩))
  clear hr hb hg hd2 hlt2 hj2 hc1 hc2 ha1 ha2
  go_wp2_with fail
  refine HCK.out.mono ?_
  rintro e w3 ⟨x, rfl, hp⟩
  have HP := Lib.hid (hp.start HG.out)
  clear hp
  go_wp2_with fail
  go_end0
  exact ⟨rfl, HP.out⟩
def hasL (J : Jn) : List (List UInt8) := J.st :: J.recs
def hasV (l : List (List UInt8)) : List Value := l.map strV
theorem run_str_nil (w : World) : (convert 28 9 (.slice none 0 0)).run Tryz.prog w = .ok (strV []) w := by kernel_rfl
theorem run_str {w : World} {B : Nat} {v : Value} {l : List UInt8} (h : BRow w B v l) : (convert 28 9 v).run Tryz.prog w = .ok (strV l) w := by
 obtain ⟨A, cap, rfl, h1, h2, h3, h4⟩ := brow_arg h
 rcases h3 with ⟨rfl, rfl, rfl⟩ | ⟨g, off, rfl, _, hr⟩
 ·exact run_str_nil w
 ·exact run_string w g off l cap hr
theorem str_cells {w : World} {B : Nat} {v : Value} {xs : List Value} (h : StrRow w B v xs) : ∃ A cap, v = .slice A xs.length cap ∧ (xs ≠ [] → ∃ g, A = some ⟨g, 0, none⟩ ∧ ∀ i x, xs[i]? = some x → w.cell? ⟨g, i, none⟩ = some x) := by
 unfold StrRow at h
 obtain ⟨_, ⟨rfl, e⟩ | ⟨g, cap, cur, rfl, hB, hb, _, _, _, ht⟩⟩ := h
 ·exact ⟨none, 0, by rw [e], fun h => absurd (List.length_eq_zero_iff.1 e) h⟩
 ·refine ⟨_, cap, rfl, fun _ => ⟨g, rfl, fun i x hi => ?_⟩⟩
  rw [← ht, List.getElem?_take] at hi
  rw [cell_blk hb]
  split at hi
  ·simpa using hi
  ·cases hi
theorem next_j (S : Nat → Prop) (d jb : Nat) (J : Jn) (w : World) (hj : JAt w S jb d J) (hn : J.first + J.recs.length < 9223372036854775808) :
  Calls Tryz.prog 10 #[.pointer (some ⟨jb, 0, none⟩)] w fun e w' => e = .returned (.int .i64 ((J.first + J.recs.length : Nat) : Int)) ∧ ∃ m, w' = w.drewN m := by
 obtain ⟨sv, rv, vs, hj⟩ := hj
 obtain ⟨Ar, capr, hrv, _, _⟩ := row_len hj.rows
 exact next_blk jb d J sv rv Ar J.recs.length capr hrv hn w hj.blk
theorem hasV_take (J : Jn) (j : Nat) (l : List UInt8) (h : J.recs[j]? = some l) : hasV (J.st :: J.recs.take (j + 1)) = hasV (J.st :: J.recs.take j) ++ [strV l] := by
 have h1 : J.recs.take (j + 1) = J.recs.take j ++ [l] := by
  rw [List.take_add_one, h]
  rfl
 rw [h1]
 simp [hasV]
theorem hasV_length (l : List (List UInt8)) : (hasV l).length = l.length := by simp [hasV]
theorem has_at (S : Nat → Prop) (d jb : Nat) (J : Jn) (w : World) (hj : JAt w S jb d J) (hst : J.st.length ≤ 100000000) (hrl : ∀ l ∈ J.recs, l.length ≤ 100000000) (hn : J.recs.length < 90000) (hf : J.first + J.recs.length < 9223372036854775000) :
  Calls Tryz.prog 51 #[.pointer (some ⟨jb, 0, none⟩)] w fun e w' => ∃ v, e = .returned v ∧ StrRow w' w.heap.size v (hasV (hasL J)) ∧ Off (fun _ => False) w w' := by
 have hSlt : ∀ b, S b → b < w.heap.size := by
  obtain ⟨sv, rv, vs, h1⟩ := hj
  exact h1.lt
 have HJ : Hid (∀ x, Off (fun b => w.heap.size ≤ b) w x → JAt x S jb d J) := fun x ho => hj.off ho (fun b hb h => by have := hSlt b hb; omega)
 have HST := Lib.hid hst
 have HRL := Lib.hid hrl
 have HN := Lib.hid hn
 have HF := Lib.hid hf
 clear hj hst hrl hn hf hSlt
 go_enter Tryz.func51, Tryz.ntmps51
 go_wp2_with fail
 refine (state_at S jb d J w (HJ.out w (Off.refl _ _)) HST.out).mono ?_
 rintro e w1 ⟨v1, rfl, hr1, hb1⟩
 have hcv := run_str hr1
 obtain ⟨A1, cap1, rfl, _, _⟩ := row_len hr1
 have HB1 := Lib.hid hb1
 clear hr1 hb1
 go_wp2_with fail
 have hrow := World.ownsRow_lit (base := w.heap.size) (e := 9) (size := 1) w1 #[strV J.st] 1 HB1.out.size (by decide) rfl
 have h2 := World.grownBy_alloc w1 (.cells #[strV J.st] 9) none
 obtain ⟨y, hy⟩ : ∃ y, y = w1.alloc (.cells #[strV J.st] 9) := ⟨_, rfl⟩
 rw [← hy] at hrow h2 ⊢
 have hoff : Off (fun b => w.heap.size ≤ b) w y := Off.trans ⟨HB1.out.os, HB1.out.tape, HB1.out.output, HB1.out.size, fun k hk _ => HB1.out.block k hk⟩ (Off.of_grown h2 (by simp))
 have HOY := Lib.hid hoff
 have HROW : Hid (StrRow y w.heap.size (.slice (some ⟨w1.heap.size, 0, none⟩) 1 1) (hasV (J.st :: J.recs.take 0))) := hrow
 obtain ⟨sb, hsb⟩ : ∃ sb : Value, sb = .slice (some ⟨w1.heap.size, 0, none⟩) 1 1 := ⟨_, rfl⟩
 rw [← hsb] at HROW ⊢
 clear hrow h2 hoff hcv hy hsb
 refine (first_at S jb d J y (HJ.out y HOY.out)).mono ?_
 rintro e wq ⟨rfl, hwq⟩
 subst hwq
 obtain ⟨nx, hnx⟩ : ∃ nx, nx = J.first + J.recs.length := ⟨_, rfl⟩
 have HNX := Lib.hid hnx
 clear hnx
 go_wp2_with fail
 go_loopw [3, 4] (fun lv kv wr => ∃ j kk : Nat, j ≤ J.recs.length ∧ kk = J.first + j ∧ kv = .int .i64 (kk : Int) ∧ StrRow wr w.heap.size lv (hasV (J.st :: J.recs.take j)) ∧ Off (fun b => w.heap.size ≤ b) w wr) (fun _ kv _ => nx - (intOf kv).toNat)
 case atStart => exact ⟨0, J.first, Nat.zero_le _, rfl, rfl, HROW.out, HOY.out⟩
 case round =>
  obtain ⟨j, kk, hj, hkk, rfl, hrow, hoff⟩ := hrel
  have HKK := Lib.hid hkk
  have HROWJ := Lib.hid hrow
  have HOFF := Lib.hid hoff
  have HJJ := Lib.hid hj
  clear hkk hrow hoff hj
  go_wp2_with fail
  refine (next_j S d jb J wr (HJ.out wr HOFF.out) (by have := HF.out; omega)).mono ?_
  rintro e w' ⟨rfl, m, rfl⟩
  rw [← HNX.out]
  by_cases hlt : kk < nx
  ·have hkd : decide (kk < nx) = true := by simp; omega
   have HLT : Hid (j < J.recs.length) := by show _ < _; have h1 := HKK.out; have h2 := HNX.out; omega
   have HLT2 := Lib.hid hlt
   obtain ⟨l, hl⟩ : ∃ l, J.recs[j]? = some l := ⟨_, List.getElem?_eq_getElem HLT.out⟩
   have HL := Lib.hid hl
   have HLL : Hid (l.length ≤ 100000000) := HRL.out l (List.mem_of_getElem? hl)
   have HJR : Hid (JAt (wr.drewN m) S jb d J) := HJ.out _ ⟨HOFF.out.os, HOFF.out.tape, HOFF.out.output, HOFF.out.size, HOFF.out.block⟩
   have hk63 : kk < 9223372036854775000 := by have h1 := HF.out; have h2 := HNX.out; omega
   clear hlt hl
   go_wp2_with fail
   rw [HKK.out]
   refine (record_at S jb d J j l (wr.drewN m) HJR.out HL.out HLL.out (by have := HF.out; omega)).mono ?_
   rw [← HKK.out]
   rintro e w2 ⟨v2, rfl, hr2, hb2⟩
   have hcv := run_str hr2
   obtain ⟨A2, cap2, rfl, _, _⟩ := row_len hr2
   have hg2 : wr.grownBy w2 none := ⟨hb2.os, hb2.tape, hb2.output, hb2.size, fun k hk _ => hb2.block k hk⟩
   have hga := World.grownBy_alloc w2 (.cells #[strV l] 9) none
   have HG2 := Lib.hid hg2
   have hrow3 : StrRow (w2.alloc (.cells #[strV l] 9)) w.heap.size u3 (hasV (J.st :: J.recs.take j)) := Sec.row_off (S := fun _ => False) (Sec.row_off (S := fun _ => False) HROWJ.out (Off.of_grown hg2 (by simp)) (fun _ _ h => h)) (Off.of_grown hga (by simp)) (fun _ _ h => h)
   have HROW3 := Lib.hid hrow3
   have HC3 := Lib.hid (cell_new w2 (strV l) 9)
   have HLEN : Hid ((hasV (J.st :: J.recs.take j)).length < 100000) := by show _ < _; rw [hasV_length, List.length_cons, List.length_take]; have := HN.out; omega
   have HBS : Hid (w.heap.size ≤ (w2.alloc (.cells #[strV l] 9)).heap.size) := Nat.le_trans HOFF.out.size (Nat.le_trans hg2.size hga.size)
   have HB2 := Lib.hid hb2
   clear hr2 hb2 hg2 hga hrow3
   go_wp2_with (first
    | (at_builtin; refine wpList_append_str rfl (.tmp 27) (.tmp 30) rfl w.heap.size u3 (hasV (J.st :: J.recs.take j)) (strV l) rfl rfl HROW3.out w2.heap.size rfl HC3.out HLEN.out HBS.out ?_; intro v' w4 hrow4 hg4; go_frame)
    | fail)
   go_roundw
   case rel =>
    refine ⟨j + 1, kk + 1, HLT.out, by rw [HKK.out]; omega, by go_num, by rw [hasV_take J j l HL.out]; exact hrow4, ?_⟩
    have o1 : Off (fun b => w.heap.size ≤ b) wr w2 := Off.of_grown HG2.out (by simp)
    have o2 : Off (fun b => w.heap.size ≤ b) w2 (w2.alloc (.cells #[strV l] 9)) := Off.of_grown (World.grownBy_alloc w2 _ none) (by simp)
    have o3 : Off (fun b => w.heap.size ≤ b) (w2.alloc (.cells #[strV l] 9)) w4 := Off.of_grown hg4 (fun g hg => (HROWJ.out.lt g hg).1)
    exact ((HOFF.out.trans o1).trans o2).trans o3
   case measure => have := HLT2.out; simp [intOf]; omega
  ·have hkd : decide (kk < nx) = false := by simp; omega
   have HE : Hid (j = J.recs.length) := by show _ = _; have h1 := HKK.out; have h2 := HNX.out; have h3 := HJJ.out; omega
   clear hlt
   go_wp2_with fail
   go_ret
   refine ⟨u3, rfl, ?_, ?_⟩
   ·have := HROWJ.out
    rw [HE.out, List.take_length] at this
    exact this
   ·exact ⟨HOFF.out.os, HOFF.out.tape, HOFF.out.output, HOFF.out.size, fun k hk _ => HOFF.out.block k hk (by omega)⟩
theorem hasV_at (xs : List (List UInt8)) (i : Nat) (x : List UInt8) (h : xs[i]? = some x) : (hasV xs)[i]? = some (strV x) := by simp [hasV, h]
theorem same_at (B1 B2 : Nat) (va vb : Value) (xs ys : List (List UInt8)) (w : World) (ha : StrRow w B1 va (hasV xs)) (hb : StrRow w B2 vb (hasV ys)) (hx : xs.length < 100000) (hy : ys.length < 100000) (r : Bool) (hr : r = decide (xs = ys ∧ xs ≠ [])) :
  Calls Tryz.prog 54 #[va, vb] w fun e w' => e = .returned (.bool r) ∧ ∃ m, w' = w.drewN m := by
 obtain ⟨A1, c1, rfl, h1⟩ := str_cells ha
 obtain ⟨A2, c2, rfl, h2⟩ := str_cells hb
 rw [hasV_length, hasV_length]
 have HX := Lib.hid hx
 have HY := Lib.hid hy
 have HR := Lib.hid hr
 have H1 := Lib.hid h1
 have H2 := Lib.hid h2
 obtain ⟨n, hn⟩ : ∃ n, n = xs.length := ⟨_, rfl⟩
 obtain ⟨m, hm⟩ : ∃ m, m = ys.length := ⟨_, rfl⟩
 rw [← hn, ← hm]
 have HNM := Lib.hid (And.intro hn hm)
 clear ha hb hx hy hr h1 h2 hn hm
 by_cases hnm : n = m
 ·subst hnm
  by_cases h0 : n = 0
  ·subst h0
   have HF : Hid (r = false) := by
    show _ = _
    rw [HR.out]
    refine decide_eq_false (fun h => h.2 (List.length_eq_zero_iff.1 HNM.out.1.symm))
   go_enter Tryz.func54, Tryz.ntmps54
   go_wp2_with fail
   go_ret
   exact ⟨by rw [HF.out]; rfl, 0, rfl⟩
  ·have hn0 : ((n : Int) == 0) = false := by simp; omega
   have HN0 := Lib.hid h0
   obtain ⟨g1, e1, k1⟩ := H1.out (fun h => h0 (by rw [HNM.out.1, ← hasV_length xs, h]; rfl))
   obtain ⟨g2, e2, k2⟩ := H2.out (fun h => h0 (by rw [HNM.out.2, ← hasV_length ys, h]; rfl))
   subst e1
   subst e2
   have K1 := Lib.hid k1
   have K2 := Lib.hid k2
   clear k1 k2 h0
   go_enter Tryz.func54, Tryz.ntmps54
   go_wp2_with fail
   go_loopw [5] (fun iv wr => ∃ k : Nat, k ≤ n ∧ iv = .int .i64 (k : Int) ∧ (∀ i, i < k → xs[i]? = ys[i]?) ∧ ∃ q, wr = w.drewN q) (fun iv _ => n - (intOf iv).toNat)
   case atStart => exact ⟨0, Nat.zero_le _, rfl, fun i hi => by omega, 0, rfl⟩
   case round =>
    obtain ⟨k, hk, rfl, heq, q, rfl⟩ := hrel
    have HEQ := Lib.hid heq
    clear heq
    by_cases hlt : k < n
    ·have hkd : decide (k < n) = true := by simp; omega
     obtain ⟨x, hx⟩ : ∃ x, xs[k]? = some x := ⟨_, List.getElem?_eq_getElem (by have := HNM.out.1; omega)⟩
     obtain ⟨y, hy⟩ : ∃ y, ys[k]? = some y := ⟨_, List.getElem?_eq_getElem (by have := HNM.out.2; omega)⟩
     have c1 : w.cell? ⟨g1, k, none⟩ = some (strV x) := K1.out k _ (hasV_at xs k x hx)
     have c2 : w.cell? ⟨g2, k, none⟩ = some (strV y) := K2.out k _ (hasV_at ys k y hy)
     have HXY := Lib.hid (And.intro hx hy)
     clear hx hy
     have kb : k < 100000 := by have h1 := HNM.out; have h2 := HX.out; omega
     have k0 : (0 : Int) ≤ (k : Int) := by omega
     have k1 : (k : Int) < (n : Int) := by omega
     by_cases he : x = y
     ·subst he
      go_wp2_with fail
      go_quiet (fail)
      go_wp2_with fail
      go_roundw
      case rel => exact ⟨k + 1, hlt, by go_num, fun i hi => by
       by_cases h : i = k
       ·rw [h, HXY.out.1, HXY.out.2]
       ·exact HEQ.out i (by omega), _, rfl⟩
      case measure => simp [intOf]; omega
     ·have hne : ((bs x).toList == (bs y).toList) = false := by
       rw [bs_toList, bs_toList]
       simpa using he
      have HF : Hid (r = false) := by
       show _ = _
       rw [HR.out]
       refine decide_eq_false (fun h => he ?_)
       have h1 := HXY.out.1
       rw [h.1, HXY.out.2] at h1
       exact (Option.some.inj h1).symm
      go_wp2_with fail
      go_quiet (fail)
      go_wp2_with fail
      go_ret
      exact ⟨by rw [HF.out]; rfl, _, World.drewN_drewN _ _ _⟩
    ·have hkd : decide (k < n) = false := by simp; omega
     have HF : Hid (r = true) := by
      show _ = _
      rw [HR.out]
      refine decide_eq_true ⟨List.ext_getElem? fun i => ?_, fun h => HN0.out (by rw [HNM.out.1, h]; rfl)⟩
      by_cases hi : i < n
      ·exact HEQ.out i (by omega)
      ·rw [List.getElem?_eq_none (by have := HNM.out.1; omega), List.getElem?_eq_none (by have := HNM.out.2; omega)]
     clear hlt
     go_wp2_with fail
     go_ret
     exact ⟨by rw [HF.out]; rfl, q, rfl⟩
 ·have hd : ((n : Int) == (m : Int)) = false := by simp; omega
  have HF : Hid (r = false) := by
   show _ = _
   rw [HR.out]
   refine decide_eq_false (fun h => hnm (by rw [HNM.out.1, HNM.out.2, h.1]))
  clear hnm
  go_enter Tryz.func54, Tryz.ntmps54
  go_wp2_with fail
  go_ret
  exact ⟨by rw [HF.out]; rfl, 0, rfl⟩
structure Both (w0 w : World) (S Sd : Nat → Prop) (d jb : Nat) (D : Dsk) (J : Jn) : Prop where
 disk : DiskAt w Sd d D
 jnl : JAt w S jb d J
 apart : ∀ b, S b → ¬ Sd b
 slt : ∀ b, Sd b → b < w.heap.size
 dnew : ∀ b, Sd b → w0.heap.size ≤ b
 jnew : ∀ b, S b → w0.heap.size ≤ b
 off : Off (fun b => w0.heap.size ≤ b) w0 w
theorem Both.jlt {w0 w : World} {S Sd : Nat → Prop} {d jb : Nat} {D : Dsk} {J : Jn} (h : Both w0 w S Sd d jb D J) : ∀ b, S b → b < w.heap.size := by
 obtain ⟨sv, rv, vs, h1⟩ := h.jnl
 exact h1.lt
theorem Both.sltj {w0 w : World} {S Sd : Nat → Prop} {d jb : Nat} {D : Dsk} {J : Jn} (h : Both w0 w S Sd d jb D J) : ∀ b, (Sd b ∨ b = jb) → b < w.heap.size := by
 obtain ⟨sv, rv, vs, h1⟩ := h.jnl
 exact fun b hb => hb.elim (h.slt b) (fun e => by rw [e]; exact h1.lt jb h1.own.1)
theorem Both.dnewj {w0 w : World} {S Sd : Nat → Prop} {d jb : Nat} {D : Dsk} {J : Jn} (h : Both w0 w S Sd d jb D J) : ∀ b, (Sd b ∨ b = jb) → w0.heap.size ≤ b := by
 obtain ⟨sv, rv, vs, h1⟩ := h.jnl
 exact fun b hb => hb.elim (h.dnew b) (fun e => by rw [e]; exact h.jnew jb h1.own.1)
theorem Both.put {w0 w w' : World} {S Sd : Nat → Prop} {d jb : Nat} {D : Dsk} {J : Jn} {R : Dsk × Jn} (h : Both w0 w S Sd d jb D J) (hp : PutTo w w' S Sd d jb R) : ∃ S' Sd', Both w0 w' S' Sd' d jb R.1 R.2 ∧ (∀ b, S' b → S b ∨ w.heap.size ≤ b) ∧ (∀ b, Sd' b → Sd b ∨ w.heap.size ≤ b) ∧ Off (fun b => S b ∨ Sd b) w w' := by
 obtain ⟨S', Sd', h1, h2, h3, h4, h5, h6⟩ := hp
 have hs := h.off.size
 refine ⟨S', Sd', ⟨h2, h1, h3, fun b hb => (h5 b hb).2, fun b hb => ?_, fun b hb => ?_, h.off.trans (h6.mono (fun b _ hb => hb.elim (h.jnew b) (h.dnew b)))⟩, h4, fun b hb => (h5 b hb).1, h6⟩
 ·rcases (h5 b hb).1 with h7 | h7
  ·exact h.dnew b h7
  ·omega
 ·rcases h4 b hb with h7 | h7
  ·exact h.jnew b h7
  ·omega
theorem Both.keep {w0 w w' : World} {S Sd T : Nat → Prop} {d jb : Nat} {D : Dsk} {J : Jn} (h : Both w0 w S Sd d jb D J) (ho : Off T w w') (hS : ∀ b, S b → ¬ T b) (hSd : ∀ b, Sd b → ¬ T b) (hT : ∀ b, T b → w0.heap.size ≤ b) : Both w0 w' S Sd d jb D J :=
 ⟨h.disk.off ho (fun k _ hk => hSd k hk), h.jnl.off ho hS, h.apart, fun b hb => Nat.lt_of_lt_of_le (h.slt b hb) ho.size, h.dnew, h.jnew, h.off.trans (ho.mono (fun b _ hb => hT b hb))⟩
theorem Both.new {w0 w w' : World} {S Sd : Nat → Prop} {d jb : Nat} {D : Dsk} {J : Jn} (h : Both w0 w S Sd d jb D J) (ho : Off (fun _ => False) w w') : Both w0 w' S Sd d jb D J := h.keep ho (fun _ _ h => h) (fun _ _ h => h) (fun _ h => h.elim)
theorem off_below {w w' : World} (h : Below w.heap.size w w') : Off (fun _ => False) w w' := ⟨h.os, h.tape, h.output, h.size, fun k hk _ => h.block k hk⟩
theorem off_to_below {w w' : World} (h : Off (fun _ => False) w w') : Below w.heap.size w w' := ⟨h.os, h.tape, h.output, h.size, fun k hk => h.block k hk (fun h => h)⟩
theorem off_grown {w w' : World} (h : w.grownBy w' none) : Off (fun _ => False) w w' := Off.of_grown h (by simp)
theorem off_drew (w : World) (m : Nat) : Off (fun _ => False) w (w.drewN m) := ⟨rfl, rfl, rfl, Nat.le_refl _, fun _ _ _ => rfl⟩
theorem Off.zero {w0 w : World} (h : Off (fun b => w0.heap.size ≤ b) w0 w) : Off (fun _ => False) w0 w := ⟨h.os, h.tape, h.output, h.size, fun k hk _ => h.block k hk (by omega)⟩
theorem Both.free {w0 w : World} {S Sd : Nat → Prop} {d jb : Nat} {D : Dsk} {J : Jn} {o K : Nat} (h : Both w0 w S Sd d jb D J) (hf : Fit D J o K) :
  Calls Tryz.prog 11 #[.pointer (some ⟨jb, 0, none⟩)] w fun e w' => e = .returned (.int .i64 ((D.n / 2 - 1 - J.used : Nat) : Int)) ∧ ∃ m, w' = w.drewN m := free_at Sd S d jb D J w h.disk h.jnl hf.used (by have := hf.n8; omega)
theorem Both.fresh {w0 w w' : World} {Sn Sj Sd' : Nat → Prop} {d jb n : Nat} (h0 : Off (fun b => w0.heap.size ≤ b) w0 w) (hn : ∀ b, Sn b → w0.heap.size ≤ b) (hj : JAt w' Sj jb d newJ) (hd : DiskAt w' Sd' d (opened (freshDisk n) none).2) (hsj : ∀ b, Sj b → w.heap.size ≤ b ∧ ¬ Sd' b) (hsd : ∀ b, Sd' b → (Sn b ∨ w.heap.size ≤ b) ∧ b < w'.heap.size) (ho : Off Sn w w') : Both w0 w' Sj Sd' d jb (opened (freshDisk n) none).2 newJ := by
 have hs := h0.size
 exact ⟨hd, hj, fun b hb => (hsj b hb).2, fun b hb => (hsd b hb).2, fun b hb => (hsd b hb).1.elim (hn b) (fun h => by omega), fun b hb => by have := (hsj b hb).1; omega, h0.trans (ho.mono (fun b _ hb => hn b hb))⟩
theorem opened_n (n : Nat) : (opened (freshDisk n) none).2.n = n ∧ (opened (freshDisk n) none).2.wr.length = 2 ∧ Coh (opened (freshDisk n) none).2 := by
 refine ⟨(pushes_n ..).1, ?_, ?_⟩
 ·show ((pushes _ _ _ _).wr ++ [_]).length = _
  rw [List.length_append, (pushes_n ..).2.2.2]
  show (0 + (upto (parts 0)).length) + 1 = 2
  rw [upto_length]
  decide
 ·have h : Coh (freshDisk n) := rfl
  exact (h.pushes _ _ _).push _ _
theorem new_arg {w : World} {C : Array Value} {t : TypeId} {sp : Nat × Nat} {l : List UInt8} (hc : C = (u8s l).toArray) (cap : Nat) : ((some ⟨w.heap.size, 0, none⟩ : Option Addr) = none ∧ l = [] ∧ cap = 0) ∨ ∃ g off, (some ⟨w.heap.size, 0, none⟩ : Option Addr) = some ⟨g, off, none⟩ ∧ g < (w.alloc (.cells C t sp)).heap.size ∧ (w.alloc (.cells C t sp)).rangeAt g off (u8s l) :=
 .inr ⟨w.heap.size, 0, rfl, by rw [World.size_alloc]; omega, range_blk (MapKept.heap_alloc w _).1 (by rw [hc])⟩
theorem made_103 : madeCells #[.int .u8 0] 103 = (u8s (List.replicate 103 0)).toArray := by kernel_rfl
theorem wpList_make_103 {ops : Array Oper} {rest : List Oper} {op : Oper} {a : Act} {w : World} {Q : Exit → Act → World → Prop} (hgd : op.guard = none) (ho : op.op = .makeSlice 28 (.const (.int .i64 103)) (.const (.int .i64 103)))
  (h : ∀ w', Hid (w' = w.alloc (.cells (u8s (List.replicate 103 0)).toArray 5)) → wpList Tryz.prog ops Q rest (a.put op.dst (.slice (some ⟨w.heap.size, 0, none⟩) 103 103)) w') : wpList Tryz.prog ops Q (op :: rest) a w := by
 refine wpList_plain hgd fun K hK => ?_
 have hrun := run_make_row' (P := Tryz.prog) 28 5 (.int .u8 0) 1 Tryz.underlying28 info_u8 rfl .i64 .i64 103 (by decide) (by decide) w
 rw [made_103] at hrun
 unfold Oper.wp execOp
 have hrun' : (Instr.makeSlice 28 (.int .i64 103) (.int .i64 103)).run Tryz.prog w = .ok (.slice (some ⟨w.heap.size, 0, none⟩) 103 103) (w.alloc (.cells (u8s (List.replicate 103 0)).toArray 5)) := hrun
 simp only [ho, Act.eval, Sem.run_bind, hrun', Result.andThen_ok]
 exact hK _ _ (h _ rfl)
theorem new_arg2 {w : World} {Sd : Nat → Prop} {C : Array Value} {t : TypeId} {sp : Nat × Nat} {l : List UInt8} (hc : C = (u8s l).toArray) (cap : Nat) (hS : ∀ b, Sd b → b < w.heap.size) : (l = [] ∧ cap = 0) ∨ ∃ g off, (some ⟨w.heap.size, 0, none⟩ : Option Addr) = some ⟨g, off, none⟩ ∧ g < (w.alloc (.cells C t sp)).heap.size ∧ ¬ Sd g ∧ (w.alloc (.cells C t sp)).rangeAt g off (u8s l) :=
 .inr ⟨w.heap.size, 0, rfl, by rw [World.size_alloc]; omega, fun h => by have := hS _ h; omega, range_blk (MapKept.heap_alloc w _).1 (by rw [hc])⟩
theorem works_at (w : World) : Calls Tryz.prog 20 #[] w fun e w' => e = .returned (.bool true) ∧ Off (fun _ => False) w w' := by
 have kc := fun (w : World) (C : Array Value) (n c : Nat) => Lib.run_convert_bytes_const (P := Tryz.prog) w 28 5 C n c Tryz.underlying28 Tryz.underlying5
 go_enter Tryz.func20, Tryz.ntmps20
 go_wp2_with fail
 refine (new_at 8 w).mono ?_
 rintro e v0 ⟨d, rfl, hd, ho⟩
 have hd2 : DiskAt v0 (fun b => w.heap.size ≤ b ∧ b < v0.heap.size) d (freshDisk 8) := hd.mono (fun k hk h => ⟨h, hk⟩)
 have HV0 : Hid (Off (fun b => w.heap.size ≤ b) w v0) := ho.mono (fun _ _ h => h.elim)
 have HOP := Lib.hid (open_fresh _ d 8 v0 hd2 (fun b h => h.2) (by decide))
 clear hd hd2 ho
 go_wp2_with fail
 refine HOP.out.mono ?_
 rintro e w1 ⟨jb, Sj, Sd, rfl, hj, hd, hs1, hs2, ho1⟩
 have hb := Both.fresh (w0 := w) HV0.out (fun _ h => h.1) hj hd hs1 hs2 ho1
 obtain ⟨E, hE⟩ : ∃ E, E = (opened (freshDisk 8) none).2 := ⟨_, rfl⟩
 have hen := opened_n 8
 have hf := Fit.fresh 8 (by decide) (by decide)
 rw [← hE] at hb hen hf
 have HB1 := Lib.hid hb
 have HF := Lib.hid hf
 have HEN := Lib.hid hen
 clear hj hd hs1 hs2 ho1 hb hf hen hE HV0 HOP
 go_wp2_with fail
 have hg1 := World.grownBy_alloc w1 (.cells #[.int .u8 97, .int .u8 98] 5 (2, 3)) none
 have hb1 := HB1.out.new (off_grown hg1)
 have HC1 := Lib.hid (append_any Sd Sj d jb E newJ 1 [97, 98] _ 2 _ hb1.disk hb1.slt hb1.jnl hb1.apart HF.out (by decide) (by rw [HEN.out.2.1]; decide) (by decide) (by decide) (by unfold maxLen; omega) (new_arg2 (w := w1) (t := 5) (sp := (2, 3)) (l := [97, 98]) rfl 2 HB1.out.sltj))
 have HA1 := Lib.hid hb1
 have HP1 : Hid (putR E newJ false [97, 98] = (appD E newJ [97, 98], newJ.app [97, 98])) := by
  show _ = _
  unfold putR
  rw [if_neg Bool.false_ne_true, HEN.out.1, if_neg (by decide)]
 clear hg1 hb1
 refine HC1.out.mono ?_
 rintro e w2 ⟨he, hp⟩
 rw [HEN.out.1, if_neg (by decide)] at he
 subst he
 rw [HP1.out] at hp
 obtain ⟨S2, Sd2, hb2, -, -, -⟩ := HA1.out.put hp
 have hf2 : Fit (appD E newJ [97, 98]) (newJ.app [97, 98]) 0 2 := HF.out.app (by decide) (by decide) (by rw [HEN.out.1]; decide)
 have hn2 : (appD E newJ [97, 98]).n = 8 ∧ (appD E newJ [97, 98]).wr.length = 3 := ⟨(pushes_n ..).1.trans HEN.out.1, by rw [app_wr, HEN.out.2.1]; decide⟩
 obtain ⟨D2, hD2⟩ : ∃ D2, D2 = appD E newJ [97, 98] := ⟨_, rfl⟩
 obtain ⟨J2, hJ2⟩ : ∃ J2, J2 = newJ.app [97, 98] := ⟨_, rfl⟩
 have hj2 : J2.used = 2 ∧ J2.recs = [[97, 98]] ∧ J2.first = 1 := by rw [hJ2]; exact ⟨by decide, rfl, rfl⟩
 rw [← hD2, ← hJ2] at hb2 hf2
 rw [← hD2] at hn2
 have HB2 := Lib.hid hb2
 have HF2 := Lib.hid hf2
 have HN2 := Lib.hid (And.intro hn2.1 (And.intro hn2.2 hj2))
 clear hp hb2 hf2 hn2 hj2 hD2 hJ2 HP1 HC1 HA1 HB1 HF HEN
 go_wp2_with fail
 refine (HB2.out.free HF2.out).mono ?_
 rintro e wq ⟨he, m2, rfl⟩
 rw [HN2.out.1, HN2.out.2.2.1] at he
 subst he
 have hl3 : (List.replicate 103 (0 : UInt8)).length = 103 := List.length_replicate
 have HL3 := Lib.hid hl3
 clear hl3
 go_wp2_with (first
  | (at_make; refine wpList_make_103 rfl rfl ?_; intro wn Hn; go_frame)
  | fail)
 have hbn : Both w wn S2 Sd2 d jb D2 J2 := by
  rw [Hn.out]
  exact HB2.out.new ((off_drew w2 m2).trans (off_grown (World.grownBy_alloc _ _ none)))
 have HP3 : Hid (putR D2 J2 false (List.replicate 103 0) = (D2, J2)) := by
  show _ = _
  unfold putR
  rw [if_neg Bool.false_ne_true, HN2.out.1, HN2.out.2.2.1, HL3.out, if_pos (by decide)]
 have HC3 := Lib.hid (append_any Sd2 S2 d jb D2 J2 2 (List.replicate 103 0) (some ⟨w2.heap.size, 0, none⟩) 103 wn hbn.disk hbn.slt hbn.jnl hbn.apart HF2.out (by decide) (by rw [HN2.out.2.1]; decide) (by rw [HL3.out]; decide) (by rw [HL3.out]; exact Nat.le_refl _) (by unfold maxLen; omega) (by rw [Hn.out]; exact new_arg2 (w := w2.drewN m2) rfl 103 HB2.out.sltj))
 have HA3 := Lib.hid hbn
 rw [HL3.out, HN2.out.1, HN2.out.2.2.1, HP3.out, if_pos (by decide)] at HC3
 clear hbn HP3 Hn HB2
 refine HC3.out.mono ?_
 rintro e w3 ⟨rfl, hp⟩
 obtain ⟨S3, Sd3, hb3, -, -, -⟩ := HA3.out.put hp
 have HB3 : Hid (Both w w3 S3 Sd3 d jb D2 J2) := hb3
 clear hp hb3 HC3 HA3
 go_wp2_with fail
 have hg4 := World.grownBy_alloc w3 (.cells #[.int .u8 120, .int .u8 121] 5 (2, 3)) none
 have hb4 := HB3.out.new (off_grown hg4)
 have HC4 := Lib.hid (ck_any Sd3 S3 d jb D2 J2 2 [120, 121] _ 2 _ hb4.disk hb4.slt hb4.jnl hb4.apart HF2.out (by decide) (by rw [HN2.out.2.1]; decide) (by decide) (by decide) (by unfold maxLen; omega) (new_arg (w := w3) (t := 5) (sp := (2, 3)) (l := [120, 121]) rfl 2) (fun g off e h => by cases e; have := HB3.out.sltj _ h; omega))
 have HA4 := Lib.hid hb4
 have HP4 : Hid (putR D2 J2 true [120, 121] = (ckD D2 J2 [120, 121], J2.ck [120, 121])) := by
  show _ = _
  unfold putR
  rw [if_pos rfl, HN2.out.1, if_neg (by decide)]
 clear hg4 hb4
 rw [HN2.out.1, HP4.out, if_neg (by decide)] at HC4
 refine HC4.out.mono ?_
 rintro e w4 ⟨rfl, hp⟩
 obtain ⟨S4, Sd4, hb4, -, -, -⟩ := HA4.out.put hp
 have hf4 : Fit (ckD D2 J2 [120, 121]) (J2.ck [120, 121]) 0 3 := HF2.out.ck (by decide) (by decide) (by rw [HN2.out.1]; decide)
 have hn4 : (ckD D2 J2 [120, 121]).n = 8 := (ckP_n ..).1.trans HN2.out.1
 obtain ⟨D4, hD4⟩ : ∃ D4, D4 = ckD D2 J2 [120, 121] := ⟨_, rfl⟩
 obtain ⟨J4, hJ4⟩ : ∃ J4, J4 = J2.ck [120, 121] := ⟨_, rfl⟩
 have hj4 : J4.used = 1 ∧ J4.recs = [] ∧ J4.first = 2 ∧ J4.st = [120, 121] := by
  rw [hJ4]
  refine ⟨by show parts 2 = 1; decide, rfl, ?_, rfl⟩
  show J2.first + J2.recs.length = 2
  rw [HN2.out.2.2.2.1, HN2.out.2.2.2.2]
  rfl
 have hb4 : Both w w4 S4 Sd4 d jb (ckD D2 J2 [120, 121]) (J2.ck [120, 121]) := hb4
 rw [← hD4, ← hJ4] at hb4 hf4
 rw [← hD4] at hn4
 have HB4 := Lib.hid hb4
 have HF4 := Lib.hid hf4
 have HN4 := Lib.hid (And.intro hn4 hj4)
 clear hp hb4 hf4 hn4 hj4 hD4 hJ4 HP4 HC4 HA4 HB3 HF2 HN2
 go_wp2_with fail
 refine (first_at S4 jb d J4 w4 HB4.out.jnl).mono ?_
 rintro e wq ⟨he, hwq⟩
 rw [HN4.out.2.2.2.1] at he
 subst he
 have hwq := hwq.symm
 subst hwq
 go_wp2_with fail
 refine (next_j S4 d jb J4 w4 HB4.out.jnl (by rw [HN4.out.2.2.2.1, HN4.out.2.2.1]; decide)).mono ?_
 rintro e wx ⟨he, m4, rfl⟩
 rw [HN4.out.2.2.2.1, HN4.out.2.2.1] at he
 subst he
 go_wp2_with fail
 have HB5 := Lib.hid (HB4.out.new (off_drew w4 m4))
 refine (HB5.out.free HF4.out).mono ?_
 rintro e wx ⟨he, m5, rfl⟩
 rw [HN4.out.1, HN4.out.2.1] at he
 subst he
 go_wp2_with fail
 have HB6 := Lib.hid (HB4.out.new (off_drew w4 (m4 + m5)))
 refine (state_at S4 jb d J4 _ HB6.out.jnl (by rw [HN4.out.2.2.2.2]; decide)).mono ?_
 rintro e w7 ⟨v7, rfl, hr7, hb7⟩
 have hcv := run_str hr7
 rw [HN4.out.2.2.2.2] at hr7 hcv
 obtain ⟨A7, cap7, rfl, _, _⟩ := row_len hr7
 rw [show ([120, 121] : List UInt8).length = 2 from rfl] at hcv ⊢
 have hoff := HB6.out.off.trans ((off_below hb7).mono (fun _ _ h => h.elim))
 have HOFF := Lib.hid hoff
 have hstr : ((bs [120, 121]).toList == [120, 121]) = true := by rw [bs_toList]; rfl
 clear hr7 hb7 hoff
 go_wp2_with fail
 go_ret
 exact ⟨rfl, Off.zero HOFF.out⟩
def Arg0 (w0 w : World) (A : Option Addr) (l : List UInt8) (cap : Nat) : Prop := (l = [] ∧ cap = 0) ∨ ∃ g off, A = some ⟨g, off, none⟩ ∧ g < w0.heap.size ∧ g < w.heap.size ∧ w.rangeAt g off (u8s l)
theorem Arg0.off {w0 w : World} {A : Option Addr} {l : List UInt8} {cap : Nat} (h : Arg0 w0 w0 A l cap) (ho : Off (fun b => w0.heap.size ≤ b) w0 w) : Arg0 w0 w A l cap := by
 rcases h with h | ⟨g, off, h1, h2, h3, h4⟩
 ·exact .inl h
 ·exact .inr ⟨g, off, h1, h2, Nat.lt_of_lt_of_le h3 ho.size, range_keep h4 ho h3 (by omega)⟩
theorem Arg0.arg {w0 w : World} {Sd : Nat → Prop} {A : Option Addr} {l : List UInt8} {cap : Nat} (h : Arg0 w0 w A l cap) (hS : ∀ b, Sd b → w0.heap.size ≤ b) : (l = [] ∧ cap = 0) ∨ ∃ g off, A = some ⟨g, off, none⟩ ∧ g < w.heap.size ∧ ¬ Sd g ∧ w.rangeAt g off (u8s l) := by
 rcases h with h | ⟨g, off, h1, h2, h3, h4⟩
 ·exact .inl h
 ·exact .inr ⟨g, off, h1, h3, fun hs => by have := hS g hs; omega, h4⟩
theorem run_str_zero (w : World) (x : Addr) (cap : Nat) : (convert 28 9 (.slice (some x) 0 cap)).run Tryz.prog w = .ok (strV []) w := by kernel_rfl
theorem Arg0.str {w0 w : World} {A : Option Addr} {l : List UInt8} {cap : Nat} (h : Arg0 w0 w A l cap) : (convert 28 9 (.slice A l.length cap)).run Tryz.prog w = .ok (strV l) w := by
 rcases h with ⟨rfl, rfl⟩ | ⟨g, off, rfl, _, _, hr⟩
 ·cases A with
  | none => exact run_str_nil w
  | some x => exact run_str_zero w x 0
 ·exact run_string w g off l cap hr
theorem Both.settle {w0 w w' : World} {S Sd : Nat → Prop} {d jb : Nat} {D : Dsk} {J : Jn} (h : Both w0 w S Sd d jb D J) (hd : DiskAt w' Sd d (settled D)) (ho : Off Sd w w') : Both w0 w' S Sd d jb (settled D) J :=
 ⟨hd, h.jnl.off ho h.apart, h.apart, fun b hb => Nat.lt_of_lt_of_le (h.slt b hb) ho.size, h.dnew, h.jnew, h.off.trans (ho.mono (fun b _ hb => h.dnew b hb))⟩
theorem Both.opened {w0 w w' : World} {Sn Sj Sd' : Nat → Prop} {d jb : Nat} {D : Dsk} {J : Jn} (h0 : Off (fun b => w0.heap.size ≤ b) w0 w) (hn : ∀ b, Sn b → w0.heap.size ≤ b) (hj : JAt w' Sj jb d J) (hd : DiskAt w' Sd' d D) (hsj : ∀ b, Sj b → w.heap.size ≤ b ∧ ¬ Sd' b) (hsd : ∀ b, Sd' b → (Sn b ∨ w.heap.size ≤ b) ∧ b < w'.heap.size) (ho : Off Sn w w') : Both w0 w' Sj Sd' d jb D J := by
 have hs := h0.size
 exact ⟨hd, hj, fun b hb => (hsj b hb).2, fun b hb => (hsd b hb).2, fun b hb => (hsd b hb).1.elim (hn b) (fun h => by omega), fun b hb => by have := (hsj b hb).1; omega, h0.trans (ho.mono (fun b _ hb => hn b hb))⟩
theorem cut_new {w0 w w' : World} {c : Nat} {D : Dsk} (h0 : Off (fun b => w0.heap.size ≤ b) w0 w) (hd : DiskAt w' (fun b => w.heap.size ≤ b) c D) (ho : Off (fun _ => False) w w') : DiskAt w' (fun b => w.heap.size ≤ b ∧ b < w'.heap.size) c D ∧ (∀ b, (w.heap.size ≤ b ∧ b < w'.heap.size) → b < w'.heap.size) ∧ (∀ b, (w.heap.size ≤ b ∧ b < w'.heap.size) → w0.heap.size ≤ b) ∧ Off (fun b => w0.heap.size ≤ b) w0 w' :=
 ⟨hd.mono (fun k hk h => ⟨h, hk⟩), fun b h => h.2, fun b h => by have := h0.size; omega, h0.trans (ho.mono (fun _ _ h => h.elim))⟩
theorem parts_2000 {n : Nat} (h : n ≤ 2000) : 1 ≤ parts n ∧ parts n ≤ 20 := by unfold parts; omega
theorem forged_walk (w : World) (a b : List UInt8) (A B : Option Addr) (ca cb : Nat) (t u : UInt8) (hca : a.length ≤ ca ∧ ca ≤ maxLen) (hcb : b.length ≤ cb ∧ cb ≤ maxLen)
  (hA : Arg0 w w A a ca) (hB : Arg0 w w B b cb) :
  Calls Tryz.prog 19 #[.slice A a.length ca, .slice B b.length cb, .int .u8 (t.toNat : Int), .int .u8 (u.toNat : Int)] w fun e w' => e = .returned (.bool true) ∧ Below w.heap.size w w' := by
 obtain ⟨la, hla⟩ : ∃ n, n = a.length := ⟨_, rfl⟩
 obtain ⟨lb, hlb⟩ : ∃ n, n = b.length := ⟨_, rfl⟩
 have HA0 := Lib.hid hA
 have HB0 := Lib.hid hB
 have HCA := Lib.hid hca
 have HCB := Lib.hid hcb
 rw [← hla, ← hlb]
 have HLA := Lib.hid hla
 have HLB := Lib.hid hlb
 have i1 : (la : Int) ≤ (ca : Int) := by omega
 have i2 : (lb : Int) ≤ (cb : Int) := by omega
 obtain ⟨tn, htn⟩ : ∃ n, n = t.toNat := ⟨_, rfl⟩
 obtain ⟨un, hun⟩ : ∃ n, n = u.toNat := ⟨_, rfl⟩
 have t256 : tn < 256 := by rw [htn]; exact t.toNat_lt
 have u256 : un < 256 := by rw [hun]; exact u.toNat_lt
 rw [← htn, ← hun]
 clear hA hB hla hlb htn hun hca hcb
 have big : (2000 < la ∨ 2000 < lb) → Calls Tryz.prog 19 #[.slice A la ca, .slice B lb cb, .int .u8 (tn : Int), .int .u8 (un : Int)] w fun e w' => e = .returned (.bool true) ∧ Below w.heap.size w w' := by
  intro hbig
  by_cases h1 : 2000 < la
  ·have d1 : decide ((2000 : Int) < (la : Int)) = true := by simp; omega
   clear hbig h1
   go_enter Tryz.func19, Tryz.ntmps19
   go_wp2_with fail
   refine (works_at w).mono ?_
   rintro e w2 ⟨rfl, ho⟩
   go_wp2_with fail
   go_ret
   exact ⟨rfl, off_to_below ho⟩
  ·have d1 : decide ((2000 : Int) < (la : Int)) = false := by simp; omega
   have d2 : decide ((2000 : Int) < (lb : Int)) = true := by simp; omega
   clear hbig h1
   go_enter Tryz.func19, Tryz.ntmps19
   go_wp2_with fail
   refine (works_at w).mono ?_
   rintro e w2 ⟨rfl, ho⟩
   go_wp2_with fail
   go_ret
   exact ⟨rfl, off_to_below ho⟩
 by_cases h1 : 2000 < la
 ·exact big (.inl h1)
 by_cases h2 : 2000 < lb
 ·exact big (.inr h2)
 clear big
 have d1 : decide ((2000 : Int) < (la : Int)) = false := by simp; omega
 have d2 : decide ((2000 : Int) < (lb : Int)) = false := by simp; omega
 have HPA : Hid (1 ≤ parts a.length ∧ parts a.length ≤ 20) := parts_2000 (by have := HLA.out; omega)
 have HPB : Hid (1 ≤ parts b.length ∧ parts b.length ≤ 20) := parts_2000 (by have := HLB.out; omega)
 have HS : Hid (a.length ≤ 2000 ∧ b.length ≤ 2000) := ⟨by have := HLA.out; omega, by have := HLB.out; omega⟩
 clear h1 h2
 go_enter Tryz.func19, Tryz.ntmps19
 go_wp2_with fail
 refine (new_at 120 w).mono ?_
 rintro e v0 ⟨d, rfl, hd, ho⟩
 have hd2 : DiskAt v0 (fun b => w.heap.size ≤ b ∧ b < v0.heap.size) d (freshDisk 120) := hd.mono (fun k hk h => ⟨h, hk⟩)
 have HV0 : Hid (Off (fun b => w.heap.size ≤ b) w v0) := ho.mono (fun _ _ h => h.elim)
 have HOP := Lib.hid (open_fresh _ d 120 v0 hd2 (fun b h => h.2) (by decide))
 clear hd hd2 ho
 go_wp2_with fail
 refine HOP.out.mono ?_
 rintro e w1 ⟨jb, Sj, Sd, rfl, hj, hd, hs1, hs2, ho1⟩
 have hb := Both.fresh (w0 := w) HV0.out (fun _ h => h.1) hj hd hs1 hs2 ho1
 obtain ⟨E, hE⟩ : ∃ E, E = (opened (freshDisk 120) none).2 := ⟨_, rfl⟩
 have hen := opened_n 120
 have hf := Fit.fresh 120 (by decide) (by decide)
 rw [← hE] at hb hen hf
 have HB1 := Lib.hid hb
 have HF1 := Lib.hid hf
 have HEN := Lib.hid hen
 clear hj hd hs1 hs2 ho1 hb hf hen hE HV0 HOP
 go_wp2_with fail
 refine (settle_at Sd d E w1 HB1.out.disk).mono ?_
 rintro e w2 ⟨rfl, hd, ho⟩
 have hb2 := HB1.out.settle hd ho
 have hf2 : Fit (settled E) newJ 0 1 := HF1.out.settle
 have hn2 : (settled E).n = 120 := HEN.out.1
 obtain ⟨D2, hD2⟩ : ∃ D, D = settled E := ⟨_, rfl⟩
 have hs2 : D2.base = D2.now ∧ D2.wr = [] := by rw [hD2]; exact ⟨rfl, rfl⟩
 rw [← hD2] at hb2 hf2 hn2
 have HB2 := Lib.hid hb2
 have HF2 := Lib.hid hf2
 have HN2 := Lib.hid (And.intro hn2 hs2)
 clear hd ho hb2 hf2 hn2 hs2 hD2 HB1 HF1 HEN
 go_wp2_with fail
 have hro : ¬ (D2.n / 2 - 1 - newJ.used < parts a.length) := by
  rw [HN2.out.1]
  have := HPA.out
  show ¬ (120 / 2 - 1 - 1 < parts a.length)
  omega
 have HP3 : Hid (putR D2 newJ false a = (appD D2 newJ a, newJ.app a)) := by
  show _ = _
  unfold putR
  rw [if_neg Bool.false_ne_true, if_neg hro]
 have HA2 := Lib.hid (HA0.out.off HB2.out.off)
 have HC3 := Lib.hid (append_any Sd Sj d jb D2 newJ 1 a A ca w2 HB2.out.disk HB2.out.slt HB2.out.jnl HB2.out.apart HF2.out (by decide) (by rw [HN2.out.2.2]; decide) (by have := HS.out; omega) HCA.out.1 HCA.out.2 (HA2.out.arg HB2.out.dnewj))
 rw [if_neg hro, HP3.out] at HC3
 have HRO := Lib.hid (show parts a.length ≤ D2.n / 2 - 1 - newJ.used by omega)
 clear hro
 rw [HLA.out]
 refine HC3.out.mono ?_
 rw [← HLA.out]
 rintro e w3 ⟨rfl, hp⟩
 obtain ⟨S3, Sd3, hb3, -, -, -⟩ := HB2.out.put hp
 obtain ⟨D3, hD3⟩ : ∃ D, D = appD D2 newJ a := ⟨_, rfl⟩
 have hb3 : Both w w3 S3 Sd3 d jb (appD D2 newJ a) (newJ.app a) := hb3
 have hw3 : D3.wr.length = parts a.length := by rw [hD3, app_wr, HN2.out.2.2]; exact Nat.zero_add _
 rw [← hD3] at hb3
 have HB3 := Lib.hid hb3
 have HD3 := Lib.hid hD3
 obtain ⟨pa, hpa⟩ : ∃ n, n = parts a.length := ⟨_, rfl⟩
 rw [← hpa] at hw3
 have HW3 := Lib.hid (And.intro hw3 hpa)
 have pa1 : 1 ≤ pa ∧ pa ≤ 20 := by rw [hpa]; exact HPA.out
 obtain ⟨pa1, pa20⟩ := pa1
 clear hp hb3 hD3 hw3 hpa HC3 HP3
 go_wp2_with fail
 refine (writes_at Sd3 d D3 w3 HB3.out.disk).mono ?_
 rintro e wq ⟨rfl, hwq⟩
 subst hwq
 rw [HW3.out.1]
 obtain ⟨k, hk⟩ : ∃ k, k = tn % (pa + 1) := ⟨_, rfl⟩
 have hkn : k ≤ pa := by have := Nat.mod_lt tn (show 0 < pa + 1 by omega); omega
 have hki : (tn : Int) % ((pa : Int) + 1) = (k : Int) := by rw [hk, Int.natCast_emod, Int.natCast_add]; rfl
 have hke : Int.tmod (tn : Int) ((pa : Int) + 1) = (k : Int) := by rw [Int.tmod_eq_emod_of_nonneg (by omega)]; exact hki
 have hp0 : ((pa : Int) + 1 == 0) = false := by simp; omega
 clear hk
 go_wp2_with fail
 refine (cut_at Sd3 d D3 (k : Int) w3 HB3.out.disk (by rw [HW3.out.1]; omega)).mono ?_
 rintro e w4 ⟨c, rfl, hd, ho⟩
 obtain ⟨hd4, hlt4, hnew4, hoff4⟩ := cut_new HB3.out.off hd ho
 have hfa := found_app (q := k) HF2.out (by decide) (Nat.zero_le _) (by have := HS.out; omega) HRO.out HN2.out.2.1 HN2.out.2.2 (by rw [← HD3.out, HW3.out.1]; exact hkn)
 rw [← HD3.out, HW3.out.1] at hfa
 have hcn : (D3.cut (k : Int)).n = 120 := by rw [HD3.out]; exact (pushes_n ..).1.trans HN2.out.1
 obtain ⟨C, hC⟩ : ∃ C, C = D3.cut (k : Int) := ⟨_, rfl⟩
 rw [← hC] at hd4 hfa hcn
 have hcb : C.base = C.now ∧ C.wr = [] := by rw [hC]; exact ⟨rfl, rfl⟩
 obtain ⟨Sc, hSc⟩ : ∃ S : Nat → Prop, S = fun b => w3.heap.size ≤ b ∧ b < w4.heap.size := ⟨_, rfl⟩
 have h4 : DiskAt w4 Sc c C ∧ (∀ b, Sc b → b < w4.heap.size) ∧ (∀ b, Sc b → w.heap.size ≤ b) := by rw [hSc]; exact ⟨hd4, hlt4, hnew4⟩
 have H4 := Lib.hid h4
 have HO4 := Lib.hid hoff4
 have HCN := Lib.hid (And.intro hcn hcb)
 have HFA := Lib.hid hfa
 clear hd ho hd4 hlt4 hnew4 hoff4 hfa hcn hC hcb hSc h4 HB3 hki hke hp0 HF2 HN2 HB2 HRO HD3 HA2
 by_cases hkp : k = pa
 ·subst hkp
  obtain ⟨Jc, hJc⟩ : ∃ J, J = newJ.app a := ⟨_, rfl⟩
  have hfc := HFA.out.2 rfl
  rw [← hJc] at hfc
  have hjc : Jc.op = 1 ∧ Jc.first = 1 ∧ Jc.recs.length = 1 ∧ Jc.used ≤ 21 ∧ ∀ l ∈ Jc.recs, l.length ≤ 2000 := by
   rw [hJc]
   refine ⟨rfl, rfl, rfl, by show 1 + parts a.length ≤ 21; have := HPA.out; omega, fun l hl => ?_⟩
   rw [List.mem_singleton.1 (show l ∈ [a] from hl)]
   exact HS.out.1
  have HFC : Hid (Fit C Jc 2 2) := hfc.less (Nat.zero_le _) (Nat.le_refl _)
  have HJC := Lib.hid hjc
  clear hJc hfc hjc HFA
  go_wp2_with fail
  refine (open_fit Sc c C Jc 2 2 w4 H4.out.1 H4.out.2.1 (by rw [HCN.out.2.2]; decide) HFC.out (by decide)).mono ?_
  rintro e w5 ⟨jx, Sx, Sdx, rfl, hj, hd, hs1, hs2, ho⟩
  have hb := Both.opened HO4.out H4.out.2.2 hj hd hs1 hs2 ho
  have hf := HFC.out.reopen
  have hn : (C.push (Jc.area * (C.n / 2)) (headB Jc.gen (Jc.op + 1) Jc.first Jc.size)).n = 120 := HCN.out.1
  obtain ⟨C5, hC5⟩ : ∃ C5, C5 = C.push (Jc.area * (C.n / 2)) (headB Jc.gen (Jc.op + 1) Jc.first Jc.size) := ⟨_, rfl⟩
  obtain ⟨Jx, hJx⟩ : ∃ Jx : Jn, Jx = { Jc with op := Jc.op + 1 } := ⟨_, rfl⟩
  have hjx : Jx.op = 2 ∧ Jx.first = 1 ∧ Jx.recs.length = 1 ∧ Jx.used ≤ 21 ∧ ∀ l ∈ Jx.recs, l.length ≤ 2000 := by rw [hJx]; exact ⟨by show Jc.op + 1 = 2; rw [HJC.out.1], HJC.out.2⟩
  rw [← hC5, ← hJx] at hb hf
  rw [← hC5] at hn
  have HB5 := Lib.hid hb
  have HF5 := Lib.hid hf
  have HN5 := Lib.hid hn
  have HJX := Lib.hid hjx
  clear hj hd hs1 hs2 ho hb hf hn hC5 hJx hjx HFC HJC HCN H4 HO4
  go_wp2_with fail
  refine (next_j Sx c jx Jx w5 HB5.out.jnl (by rw [HJX.out.2.1, HJX.out.2.2.1]; decide)).mono ?_
  rintro e wx ⟨he, m1, rfl⟩
  rw [HJX.out.2.1, HJX.out.2.2.1] at he
  subst he
  have HB5b := Lib.hid (HB5.out.new (off_drew w5 m1))
  go_wp2_with fail
  refine (settle_at Sdx c C5 _ HB5b.out.disk).mono ?_
  rintro e w6 ⟨rfl, hd, ho⟩
  have hb6 := HB5b.out.settle hd ho
  have hf6 : Fit (settled C5) Jx 2 3 := HF5.out.settle
  have hn6 : (settled C5).n = 120 := HN5.out
  obtain ⟨C6, hC6⟩ : ∃ D, D = settled C5 := ⟨_, rfl⟩
  have hs6 : C6.base = C6.now ∧ C6.wr = [] := by rw [hC6]; exact ⟨rfl, rfl⟩
  rw [← hC6] at hb6 hf6 hn6
  have HB6 := Lib.hid hb6
  have HF6 := Lib.hid hf6
  have HN6 := Lib.hid (And.intro hn6 hs6)
  clear hd ho hb6 hf6 hn6 hs6 hC6 HB5 HB5b HF5 HN5
  go_wp2_with fail
  have hro : ¬ (C6.n / 2 - 1 - Jx.used < parts b.length) := by
   rw [HN6.out.1]
   have h1 := HPB.out
   have h2 := HJX.out.2.2.2.1
   omega
  have HP7 : Hid (putR C6 Jx false b = (appD C6 Jx b, Jx.app b)) := by
   show _ = _
   unfold putR
   rw [if_neg Bool.false_ne_true, if_neg hro]
  have HB6a := Lib.hid (HB0.out.off HB6.out.off)
  have HC7 := Lib.hid (append_any Sdx Sx c jx C6 Jx 3 b B cb w6 HB6.out.disk HB6.out.slt HB6.out.jnl HB6.out.apart HF6.out (by decide) (by rw [HN6.out.2.2]; decide) (by have := HS.out; omega) HCB.out.1 HCB.out.2 (HB6a.out.arg HB6.out.dnewj))
  rw [if_neg hro, HP7.out] at HC7
  have HRO := Lib.hid (show parts b.length ≤ C6.n / 2 - 1 - Jx.used by omega)
  clear hro
  rw [HLB.out]
  refine HC7.out.mono ?_
  rw [← HLB.out]
  rintro e w7 ⟨rfl, hp⟩
  obtain ⟨S7, Sd7, hb7, -, -, -⟩ := HB6.out.put hp
  obtain ⟨D7, hD7⟩ : ∃ D, D = appD C6 Jx b := ⟨_, rfl⟩
  have hb7 : Both w w7 S7 Sd7 c jx (appD C6 Jx b) (Jx.app b) := hb7
  have hw7 : D7.wr.length = parts b.length := by rw [hD7, app_wr, HN6.out.2.2]; exact Nat.zero_add _
  rw [← hD7] at hb7
  have HB7 := Lib.hid hb7
  have HD7 := Lib.hid hD7
  obtain ⟨pb, hpb⟩ : ∃ n, n = parts b.length := ⟨_, rfl⟩
  rw [← hpb] at hw7
  have HW7 := Lib.hid (And.intro hw7 hpb)
  have pb1 : 1 ≤ pb ∧ pb ≤ 20 := by rw [hpb]; exact HPB.out
  obtain ⟨pb1, pb20⟩ := pb1
  clear hp hb7 hD7 hw7 hpb HC7 HP7
  go_wp2_with fail
  refine (writes_at Sd7 c D7 w7 HB7.out.disk).mono ?_
  rintro e wq ⟨rfl, hwq⟩
  subst hwq
  rw [HW7.out.1]
  obtain ⟨i, hi⟩ : ∃ i, i = un % (pb + 1) := ⟨_, rfl⟩
  have hin : i ≤ pb := by have := Nat.mod_lt un (show 0 < pb + 1 by omega); omega
  have hii : (un : Int) % ((pb : Int) + 1) = (i : Int) := by rw [hi, Int.natCast_emod, Int.natCast_add]; rfl
  have hie : Int.tmod (un : Int) ((pb : Int) + 1) = (i : Int) := by rw [Int.tmod_eq_emod_of_nonneg (by omega)]; exact hii
  have hp0 : ((pb : Int) + 1 == 0) = false := by simp; omega
  clear hi
  go_wp2_with fail
  refine (cut_at Sd7 c D7 (i : Int) w7 HB7.out.disk (by rw [HW7.out.1]; omega)).mono ?_
  rintro e w8 ⟨f, rfl, hd, ho⟩
  obtain ⟨hd8, hlt8, hnew8, hoff8⟩ := cut_new HB7.out.off hd ho
  have hfa := found_app (q := i) HF6.out (by decide) (by rw [HJX.out.1]; decide) (by have := HS.out; omega) HRO.out HN6.out.2.1 HN6.out.2.2 (by rw [← HD7.out, HW7.out.1]; exact hin)
  rw [← HD7.out, HW7.out.1] at hfa
  obtain ⟨F, hF⟩ : ∃ F, F = D7.cut (i : Int) := ⟨_, rfl⟩
  rw [← hF] at hd8 hfa
  have hfw : F.wr = [] := by rw [hF]; rfl
  obtain ⟨Sf, hSf⟩ : ∃ S : Nat → Prop, S = fun b => w7.heap.size ≤ b ∧ b < w8.heap.size := ⟨_, rfl⟩
  have h8 : DiskAt w8 Sf f F ∧ (∀ b, Sf b → b < w8.heap.size) ∧ (∀ b, Sf b → w.heap.size ≤ b) := by rw [hSf]; exact ⟨hd8, hlt8, hnew8⟩
  have H8 := Lib.hid h8
  have HO8 := Lib.hid hoff8
  have HFW := Lib.hid hfw
  have HFA := Lib.hid hfa
  clear hd ho hd8 hlt8 hnew8 hoff8 hfa hF hfw hSf h8 HB7 hii hie hp0 HF6 HN6 HB6 HRO HD7 HB6a
  by_cases hip : i = pb
  ·subst hip
   obtain ⟨Jd, hJd⟩ : ∃ J, J = Jx.app b := ⟨_, rfl⟩
   have hfd := HFA.out.2 rfl
   rw [← hJd] at hfd
   have hjd : Jd.first = 1 ∧ Jd.recs.length = 2 ∧ Jd.recs[1]? = some b := by
    rw [hJd]
    refine ⟨HJX.out.2.1, ?_, ?_⟩
    ·show (Jx.recs ++ [b]).length = 2
     rw [List.length_append, HJX.out.2.2.1]
     rfl
    ·show (Jx.recs ++ [b])[1]? = some b
     rw [List.getElem?_append_right (by rw [HJX.out.2.2.1]; exact Nat.le_refl _), HJX.out.2.2.1]
     rfl
   have HFD : Hid (Fit F Jd 3 4) := hfd.less (Nat.zero_le _) (Nat.le_refl _)
   have HBL : Hid (b.length ≤ 100000000) := by show _ ≤ _; have := HS.out; omega
   have HJD := Lib.hid hjd
   clear hJd hfd hjd HFA
   go_wp2_with fail
   refine (open_fit Sf f F Jd 3 4 w8 H8.out.1 H8.out.2.1 (by rw [HFW.out]; decide) HFD.out (by decide)).mono ?_
   rintro e w9 ⟨jy, Sy, Sdy, rfl, hj, hd, hs1, hs2, ho⟩
   have hb := Both.opened HO8.out H8.out.2.2 hj hd hs1 hs2 ho
   obtain ⟨Jy, hJy⟩ : ∃ Jy : Jn, Jy = { Jd with op := Jd.op + 1 } := ⟨_, rfl⟩
   have hjy : Jy.first = 1 ∧ Jy.recs.length = 2 ∧ Jy.recs[1]? = some b := by rw [hJy]; exact HJD.out
   rw [← hJy] at hb
   have HB9 := Lib.hid hb
   have HJY := Lib.hid hjy
   clear hj hd hs1 hs2 ho hb hJy hjy HFD HJD H8 HO8
   go_wp2_with fail
   refine (next_j Sy f jy Jy w9 HB9.out.jnl (by rw [HJY.out.1, HJY.out.2.1]; decide)).mono ?_
   rintro e wx ⟨he, m2, rfl⟩
   rw [HJY.out.1, HJY.out.2.1] at he
   subst he
   have HB10 := Lib.hid (HB9.out.new (off_drew w9 m2))
   go_wp2_with fail
   have hlast := HJY.out.2.2
   have hrec := record_at Sy jy f Jy 1 b _ HB10.out.jnl hlast HBL.out (by rw [HJY.out.1, HJY.out.2.1]; decide)
   rw [HJY.out.1] at hrec
   refine Calls.mono (show Calls _ _ #[.pointer (some ⟨jy, 0, none⟩), .int .i64 2] _ _ from hrec) ?_
   clear hrec
   rintro e w10 ⟨v10, rfl, hr10, hb10⟩
   have HE0 := Lib.hid (HB10.out.off.trans ((off_below hb10).mono (fun _ _ h => h.elim)))
   have hcv := run_str hr10
   have HA10 := HB0.out.off (HB10.out.off.trans ((off_below hb10).mono (fun _ _ h => h.elim)))
   have hcb := HA10.str
   rw [← HLB.out] at hcb
   obtain ⟨A10, cap10, rfl, _, _⟩ := row_len hr10
   rw [← HLB.out] at hcv ⊢
   have hbb : ((bs b).toList == (bs b).toList) = true := by simp
   clear hr10 hb10 HA10 hlast
   go_wp2_with fail
   refine (works_at _).mono ?_
   rintro e wz ⟨rfl, hwz⟩
   have HE := Lib.hid (off_to_below (Off.zero (HE0.out.trans (hwz.mono (fun _ _ h => h.elim)))))
   clear hwz
   go_wp2_with fail
   go_ret
   exact ⟨rfl, HE.out⟩
  ·have hipe : ((i : Int) == (pb : Int)) = false := by simp; omega
   obtain ⟨Jd, hJd⟩ : ∃ J, J = Jx := ⟨_, rfl⟩
   have hfd := HFA.out.1 (by omega)
   rw [← hJd] at hfd
   have hjd : Jd.first = 1 ∧ Jd.recs.length = 1 ∧ ∀ l ∈ Jd.recs, l.length ≤ 2000 := by rw [hJd]; exact ⟨HJX.out.2.1, HJX.out.2.2.1, HJX.out.2.2.2.2⟩
   have HFD : Hid (Fit F Jd 3 4) := hfd.less (by rw [hJd, HJX.out.1]; exact Nat.le_refl _) (by decide)
   have HJD := Lib.hid hjd
   clear hJd hfd hjd HFA
   go_wp2_with fail
   refine (open_fit Sf f F Jd 3 4 w8 H8.out.1 H8.out.2.1 (by rw [HFW.out]; decide) HFD.out (by decide)).mono ?_
   rintro e w9 ⟨jy, Sy, Sdy, rfl, hj, hd, hs1, hs2, ho⟩
   have hb := Both.opened HO8.out H8.out.2.2 hj hd hs1 hs2 ho
   obtain ⟨Jy, hJy⟩ : ∃ Jy : Jn, Jy = { Jd with op := Jd.op + 1 } := ⟨_, rfl⟩
   have hjy : Jy.first = 1 ∧ Jy.recs.length = 1 ∧ ∀ l ∈ Jy.recs, l.length ≤ 2000 := by rw [hJy]; exact HJD.out
   rw [← hJy] at hb
   have HB9 := Lib.hid hb
   have HJY := Lib.hid hjy
   clear hj hd hs1 hs2 ho hb hJy hjy HFD HJD H8 HO8
   go_wp2_with fail
   refine (next_j Sy f jy Jy w9 HB9.out.jnl (by rw [HJY.out.1, HJY.out.2.1]; decide)).mono ?_
   rintro e wx ⟨he, m2, rfl⟩
   rw [HJY.out.1, HJY.out.2.1] at he
   subst he
   have HB10 := Lib.hid (HB9.out.new (off_drew w9 m2))
   go_wp2_with fail
   obtain ⟨l, hlast⟩ : ∃ l, Jy.recs[0]? = some l := ⟨_, List.getElem?_eq_getElem (by rw [HJY.out.2.1]; decide)⟩
   have HBL : Hid (l.length ≤ 100000000) := by show _ ≤ _; have := HJY.out.2.2 l (List.mem_of_getElem? hlast); omega
   have hrec := record_at Sy jy f Jy 0 l _ HB10.out.jnl hlast HBL.out (by rw [HJY.out.1, HJY.out.2.1]; decide)
   rw [HJY.out.1] at hrec
   refine Calls.mono (show Calls _ _ #[.pointer (some ⟨jy, 0, none⟩), .int .i64 1] _ _ from hrec) ?_
   clear hrec
   rintro e w10 ⟨v10, rfl, hr10, hb10⟩
   have HE0 := Lib.hid (HB10.out.off.trans ((off_below hb10).mono (fun _ _ h => h.elim)))
   obtain ⟨A10, cap10, rfl, _, _⟩ := row_len hr10
   clear hr10 hb10 hlast
   go_wp2_with fail
   refine (works_at _).mono ?_
   rintro e wz ⟨rfl, hwz⟩
   have HE := Lib.hid (off_to_below (Off.zero (HE0.out.trans (hwz.mono (fun _ _ h => h.elim)))))
   clear hwz
   go_wp2_with fail
   go_ret
   exact ⟨rfl, HE.out⟩
 ·have hkpe : ((k : Int) == (pa : Int)) = false := by simp; omega
  obtain ⟨Jc, hJc⟩ : ∃ J, J = newJ := ⟨_, rfl⟩
  have hfc := HFA.out.1 (by omega)
  rw [← hJc] at hfc
  have hjc : Jc.op = 1 ∧ Jc.first = 1 ∧ Jc.recs.length = 0 ∧ Jc.used ≤ 21 ∧ ∀ l ∈ Jc.recs, l.length ≤ 2000 := by
   rw [hJc]
   exact ⟨rfl, rfl, rfl, by decide, fun l hl => by cases hl⟩
  have HFC : Hid (Fit C Jc 2 2) := hfc.less (by rw [hjc.1]; exact Nat.le_refl _) (by decide)
  have HJC := Lib.hid hjc
  clear hJc hfc hjc HFA
  go_wp2_with fail
  refine (open_fit Sc c C Jc 2 2 w4 H4.out.1 H4.out.2.1 (by rw [HCN.out.2.2]; decide) HFC.out (by decide)).mono ?_
  rintro e w5 ⟨jx, Sx, Sdx, rfl, hj, hd, hs1, hs2, ho⟩
  have hb := Both.opened HO4.out H4.out.2.2 hj hd hs1 hs2 ho
  have hf := HFC.out.reopen
  have hn : (C.push (Jc.area * (C.n / 2)) (headB Jc.gen (Jc.op + 1) Jc.first Jc.size)).n = 120 := HCN.out.1
  obtain ⟨C5, hC5⟩ : ∃ C5, C5 = C.push (Jc.area * (C.n / 2)) (headB Jc.gen (Jc.op + 1) Jc.first Jc.size) := ⟨_, rfl⟩
  obtain ⟨Jx, hJx⟩ : ∃ Jx : Jn, Jx = { Jc with op := Jc.op + 1 } := ⟨_, rfl⟩
  have hjx : Jx.op = 2 ∧ Jx.first = 1 ∧ Jx.recs.length = 0 ∧ Jx.used ≤ 21 ∧ ∀ l ∈ Jx.recs, l.length ≤ 2000 := by rw [hJx]; exact ⟨by show Jc.op + 1 = 2; rw [HJC.out.1], HJC.out.2⟩
  rw [← hC5, ← hJx] at hb hf
  rw [← hC5] at hn
  have HB5 := Lib.hid hb
  have HF5 := Lib.hid hf
  have HN5 := Lib.hid hn
  have HJX := Lib.hid hjx
  clear hj hd hs1 hs2 ho hb hf hn hC5 hJx hjx HFC HJC HCN H4 HO4
  go_wp2_with fail
  refine (next_j Sx c jx Jx w5 HB5.out.jnl (by rw [HJX.out.2.1, HJX.out.2.2.1]; decide)).mono ?_
  rintro e wx ⟨he, m1, rfl⟩
  rw [HJX.out.2.1, HJX.out.2.2.1] at he
  subst he
  have HB5b := Lib.hid (HB5.out.new (off_drew w5 m1))
  go_wp2_with fail
  refine (settle_at Sdx c C5 _ HB5b.out.disk).mono ?_
  rintro e w6 ⟨rfl, hd, ho⟩
  have hb6 := HB5b.out.settle hd ho
  have hf6 : Fit (settled C5) Jx 2 3 := HF5.out.settle
  have hn6 : (settled C5).n = 120 := HN5.out
  obtain ⟨C6, hC6⟩ : ∃ D, D = settled C5 := ⟨_, rfl⟩
  have hs6 : C6.base = C6.now ∧ C6.wr = [] := by rw [hC6]; exact ⟨rfl, rfl⟩
  rw [← hC6] at hb6 hf6 hn6
  have HB6 := Lib.hid hb6
  have HF6 := Lib.hid hf6
  have HN6 := Lib.hid (And.intro hn6 hs6)
  clear hd ho hb6 hf6 hn6 hs6 hC6 HB5 HB5b HF5 HN5
  go_wp2_with fail
  have hro : ¬ (C6.n / 2 - 1 - Jx.used < parts b.length) := by
   rw [HN6.out.1]
   have h1 := HPB.out
   have h2 := HJX.out.2.2.2.1
   omega
  have HP7 : Hid (putR C6 Jx false b = (appD C6 Jx b, Jx.app b)) := by
   show _ = _
   unfold putR
   rw [if_neg Bool.false_ne_true, if_neg hro]
  have HB6a := Lib.hid (HB0.out.off HB6.out.off)
  have HC7 := Lib.hid (append_any Sdx Sx c jx C6 Jx 3 b B cb w6 HB6.out.disk HB6.out.slt HB6.out.jnl HB6.out.apart HF6.out (by decide) (by rw [HN6.out.2.2]; decide) (by have := HS.out; omega) HCB.out.1 HCB.out.2 (HB6a.out.arg HB6.out.dnewj))
  rw [if_neg hro, HP7.out] at HC7
  have HRO := Lib.hid (show parts b.length ≤ C6.n / 2 - 1 - Jx.used by omega)
  clear hro
  rw [HLB.out]
  refine HC7.out.mono ?_
  rw [← HLB.out]
  rintro e w7 ⟨rfl, hp⟩
  obtain ⟨S7, Sd7, hb7, -, -, -⟩ := HB6.out.put hp
  obtain ⟨D7, hD7⟩ : ∃ D, D = appD C6 Jx b := ⟨_, rfl⟩
  have hb7 : Both w w7 S7 Sd7 c jx (appD C6 Jx b) (Jx.app b) := hb7
  have hw7 : D7.wr.length = parts b.length := by rw [hD7, app_wr, HN6.out.2.2]; exact Nat.zero_add _
  rw [← hD7] at hb7
  have HB7 := Lib.hid hb7
  have HD7 := Lib.hid hD7
  obtain ⟨pb, hpb⟩ : ∃ n, n = parts b.length := ⟨_, rfl⟩
  rw [← hpb] at hw7
  have HW7 := Lib.hid (And.intro hw7 hpb)
  have pb1 : 1 ≤ pb ∧ pb ≤ 20 := by rw [hpb]; exact HPB.out
  obtain ⟨pb1, pb20⟩ := pb1
  clear hp hb7 hD7 hw7 hpb HC7 HP7
  go_wp2_with fail
  refine (writes_at Sd7 c D7 w7 HB7.out.disk).mono ?_
  rintro e wq ⟨rfl, hwq⟩
  subst hwq
  rw [HW7.out.1]
  obtain ⟨i, hi⟩ : ∃ i, i = un % (pb + 1) := ⟨_, rfl⟩
  have hin : i ≤ pb := by have := Nat.mod_lt un (show 0 < pb + 1 by omega); omega
  have hii : (un : Int) % ((pb : Int) + 1) = (i : Int) := by rw [hi, Int.natCast_emod, Int.natCast_add]; rfl
  have hie : Int.tmod (un : Int) ((pb : Int) + 1) = (i : Int) := by rw [Int.tmod_eq_emod_of_nonneg (by omega)]; exact hii
  have hp0 : ((pb : Int) + 1 == 0) = false := by simp; omega
  clear hi
  go_wp2_with fail
  refine (cut_at Sd7 c D7 (i : Int) w7 HB7.out.disk (by rw [HW7.out.1]; omega)).mono ?_
  rintro e w8 ⟨f, rfl, hd, ho⟩
  obtain ⟨hd8, hlt8, hnew8, hoff8⟩ := cut_new HB7.out.off hd ho
  have hfa := found_app (q := i) HF6.out (by decide) (by rw [HJX.out.1]; decide) (by have := HS.out; omega) HRO.out HN6.out.2.1 HN6.out.2.2 (by rw [← HD7.out, HW7.out.1]; exact hin)
  rw [← HD7.out, HW7.out.1] at hfa
  obtain ⟨F, hF⟩ : ∃ F, F = D7.cut (i : Int) := ⟨_, rfl⟩
  rw [← hF] at hd8 hfa
  have hfw : F.wr = [] := by rw [hF]; rfl
  obtain ⟨Sf, hSf⟩ : ∃ S : Nat → Prop, S = fun b => w7.heap.size ≤ b ∧ b < w8.heap.size := ⟨_, rfl⟩
  have h8 : DiskAt w8 Sf f F ∧ (∀ b, Sf b → b < w8.heap.size) ∧ (∀ b, Sf b → w.heap.size ≤ b) := by rw [hSf]; exact ⟨hd8, hlt8, hnew8⟩
  have H8 := Lib.hid h8
  have HO8 := Lib.hid hoff8
  have HFW := Lib.hid hfw
  have HFA := Lib.hid hfa
  clear hd ho hd8 hlt8 hnew8 hoff8 hfa hF hfw hSf h8 HB7 hii hie hp0 HF6 HN6 HB6 HRO HD7 HB6a
  by_cases hip : i = pb
  ·subst hip
   obtain ⟨Jd, hJd⟩ : ∃ J, J = Jx.app b := ⟨_, rfl⟩
   have hfd := HFA.out.2 rfl
   rw [← hJd] at hfd
   have hjd : Jd.first = 1 ∧ Jd.recs.length = 1 ∧ Jd.recs[0]? = some b := by
    rw [hJd]
    refine ⟨HJX.out.2.1, ?_, ?_⟩
    ·show (Jx.recs ++ [b]).length = 1
     rw [List.length_append, HJX.out.2.2.1]
     rfl
    ·show (Jx.recs ++ [b])[0]? = some b
     rw [List.getElem?_append_right (by rw [HJX.out.2.2.1]; exact Nat.le_refl _), HJX.out.2.2.1]
     rfl
   have HFD : Hid (Fit F Jd 3 4) := hfd.less (Nat.zero_le _) (Nat.le_refl _)
   have HBL : Hid (b.length ≤ 100000000) := by show _ ≤ _; have := HS.out; omega
   have HJD := Lib.hid hjd
   clear hJd hfd hjd HFA
   go_wp2_with fail
   refine (open_fit Sf f F Jd 3 4 w8 H8.out.1 H8.out.2.1 (by rw [HFW.out]; decide) HFD.out (by decide)).mono ?_
   rintro e w9 ⟨jy, Sy, Sdy, rfl, hj, hd, hs1, hs2, ho⟩
   have hb := Both.opened HO8.out H8.out.2.2 hj hd hs1 hs2 ho
   obtain ⟨Jy, hJy⟩ : ∃ Jy : Jn, Jy = { Jd with op := Jd.op + 1 } := ⟨_, rfl⟩
   have hjy : Jy.first = 1 ∧ Jy.recs.length = 1 ∧ Jy.recs[0]? = some b := by rw [hJy]; exact HJD.out
   rw [← hJy] at hb
   have HB9 := Lib.hid hb
   have HJY := Lib.hid hjy
   clear hj hd hs1 hs2 ho hb hJy hjy HFD HJD H8 HO8
   go_wp2_with fail
   refine (next_j Sy f jy Jy w9 HB9.out.jnl (by rw [HJY.out.1, HJY.out.2.1]; decide)).mono ?_
   rintro e wx ⟨he, m2, rfl⟩
   rw [HJY.out.1, HJY.out.2.1] at he
   subst he
   have HB10 := Lib.hid (HB9.out.new (off_drew w9 m2))
   go_wp2_with fail
   have hlast := HJY.out.2.2
   have hrec := record_at Sy jy f Jy 0 b _ HB10.out.jnl hlast HBL.out (by rw [HJY.out.1, HJY.out.2.1]; decide)
   rw [HJY.out.1] at hrec
   refine Calls.mono (show Calls _ _ #[.pointer (some ⟨jy, 0, none⟩), .int .i64 1] _ _ from hrec) ?_
   clear hrec
   rintro e w10 ⟨v10, rfl, hr10, hb10⟩
   have HE0 := Lib.hid (HB10.out.off.trans ((off_below hb10).mono (fun _ _ h => h.elim)))
   have hcv := run_str hr10
   have HA10 := HB0.out.off (HB10.out.off.trans ((off_below hb10).mono (fun _ _ h => h.elim)))
   have hcb := HA10.str
   rw [← HLB.out] at hcb
   obtain ⟨A10, cap10, rfl, _, _⟩ := row_len hr10
   rw [← HLB.out] at hcv ⊢
   have hbb : ((bs b).toList == (bs b).toList) = true := by simp
   clear hr10 hb10 HA10 hlast
   go_wp2_with fail
   refine (works_at _).mono ?_
   rintro e wz ⟨rfl, hwz⟩
   have HE := Lib.hid (off_to_below (Off.zero (HE0.out.trans (hwz.mono (fun _ _ h => h.elim)))))
   clear hwz
   go_wp2_with fail
   go_ret
   exact ⟨rfl, HE.out⟩
  ·have hipe : ((i : Int) == (pb : Int)) = false := by simp; omega
   obtain ⟨Jd, hJd⟩ : ∃ J, J = Jx := ⟨_, rfl⟩
   have hfd := HFA.out.1 (by omega)
   rw [← hJd] at hfd
   have hjd : Jd.first = 1 ∧ Jd.recs.length = 0 ∧ ∀ l ∈ Jd.recs, l.length ≤ 2000 := by rw [hJd]; exact ⟨HJX.out.2.1, HJX.out.2.2.1, HJX.out.2.2.2.2⟩
   have HFD : Hid (Fit F Jd 3 4) := hfd.less (by rw [hJd, HJX.out.1]; exact Nat.le_refl _) (by decide)
   have HJD := Lib.hid hjd
   clear hJd hfd hjd HFA
   go_wp2_with fail
   refine (open_fit Sf f F Jd 3 4 w8 H8.out.1 H8.out.2.1 (by rw [HFW.out]; decide) HFD.out (by decide)).mono ?_
   rintro e w9 ⟨jy, Sy, Sdy, rfl, hj, hd, hs1, hs2, ho⟩
   have hb := Both.opened HO8.out H8.out.2.2 hj hd hs1 hs2 ho
   obtain ⟨Jy, hJy⟩ : ∃ Jy : Jn, Jy = { Jd with op := Jd.op + 1 } := ⟨_, rfl⟩
   have hjy : Jy.first = 1 ∧ Jy.recs.length = 0 ∧ ∀ l ∈ Jy.recs, l.length ≤ 2000 := by rw [hJy]; exact HJD.out
   rw [← hJy] at hb
   have HB9 := Lib.hid hb
   have HJY := Lib.hid hjy
   clear hj hd hs1 hs2 ho hb hJy hjy HFD HJD H8 HO8
   go_wp2_with fail
   refine (next_j Sy f jy Jy w9 HB9.out.jnl (by rw [HJY.out.1, HJY.out.2.1]; decide)).mono ?_
   rintro e wx ⟨he, m2, rfl⟩
   rw [HJY.out.1, HJY.out.2.1] at he
   subst he
   have HB10 := Lib.hid (HB9.out.new (off_drew w9 m2))
   go_wp2_with fail
   refine (record_none Sy jy f Jy 0 _ HB10.out.jnl (.inl (by rw [HJY.out.1]; decide)) (by rw [HJY.out.1, HJY.out.2.1]; decide)).mono ?_
   rintro e wx ⟨rfl, m3, rfl⟩
   have HE0 := Lib.hid (HB9.out.new (off_drew w9 (m2 + m3))).off
   go_wp2_with fail
   refine (works_at _).mono ?_
   rintro e wz ⟨rfl, hwz⟩
   have HE := Lib.hid (off_to_below (Off.zero (HE0.out.trans (hwz.mono (fun _ _ h => h.elim)))))
   clear hwz
   go_wp2_with fail
   go_ret
   exact ⟨rfl, HE.out⟩
end Go.Proofs.YtgdedgfohjplmaaGreat.Jnl
