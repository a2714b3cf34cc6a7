/- A part of the proof of JournalKnown: KOpenD KOpen KOpenF. -/
import Derived.Test.YtgdedgfohjplmaaGreatK12
import Derived.Test.YtgdedgfohjplmaaGreatK07
import Derived.Test.YtgdedgfohjplmaaGreatK00
import Derived.Outline
import Derived.Deep.CutBlock
set_option maxRecDepth 100000
set_option maxHeartbeats 40000000
namespace Go.Proofs.YtgdedgfohjplmaaGreat.Jnl
open Go.RowKit Go.Maps Sec
def RAns (w : World) (m : Nat) (r : Option Jn) (e : Ending) (w' : World) : Prop := ∃ (p : Option Addr) (i1 i2 i3 i4 : Int) (s : ByteArray) (A : Option Addr) (n c : Nat) (i7 i8 : Int), e = .returned (.tuple #[.agg #[.pointer p, .int .i64 i1, .int .i64 i2, .int .i64 i3, .int .i64 i4, .string s, .slice A n c, .int .i64 i7, .int .i64 i8], .bool r.isSome]) ∧ Below w.heap.size w w' ∧
 ∀ J, r = some J → p = some ⟨m, 0, none⟩ ∧ i1 = (J.area : Int) ∧ i2 = (J.gen : Int) ∧ i3 = (J.op : Int) ∧ i4 = (J.first : Int) ∧ s = bs J.st ∧ StrRow w' w.heap.size (.slice A n c) (recV J) ∧ i7 = (J.used : Int) ∧ i8 = 0
theorem RNo.ans {w w' : World} {e : Ending} (m : Nat) (h : RNo w e w') : RAns w m none e w' := by
 obtain ⟨p, i1, i2, i3, i4, s, A, n, c, i7, i8, he, hb⟩ := h
 exact ⟨p, i1, i2, i3, i4, s, A, n, c, i7, i8, he, hb, fun J hJ => by cases hJ⟩
theorem rarea_is0 (S : Nat → Prop) (m : Nat) (D : Dsk) (r : Option Jn) (w : World) (h : RefAt w S m D) (ho : D.off = false) (hf : Full D) (h4 : 4 ≤ D.n) (ht : Tame D.now (0 * (D.n / 2)) (D.n / 2)) (hr : AreaIs D 0 r) :
  Calls Tryz.prog 66 #[.pointer (some ⟨m, 0, none⟩), .int .i64 0] w (RAns w m r) := by
 cases hr with
 | nohead hh => exact (rarea_nohead0 S m D w h ho hf h4 hh).mono fun e w' hr => hr.ans m
 | short g o f n hh hw => exact (rarea_short0 S m D w h ho hf h4 g o f n hh ht hw).mono fun e w' hr => hr.ans m
 | bears J ha hb =>
  obtain ⟨ja, g, o, f, n, st, recs, used⟩ := J
  have ha : ja = 0 := ha
  subst ha
  obtain ⟨b1, b2, b3, b4, b5, b6, M, fs, hw, hst, hln, hrec⟩ := hb
  dsimp only at *
  subst hst
  refine (rarea_bears0 S m D w h ho hf h4 g o f n ⟨b3, b4, ⟨b5.1, by have := b5.2; omega⟩, b6, b2⟩ ht M used fs recs hw hln hrec b5.2).mono ?_
  rintro e w' ⟨lv, rfl, hs, hb⟩
  obtain ⟨A, c, rfl, _, _⟩ := row_len hs
  exact ⟨_, _, _, _, _, _, _, _, _, _, _, rfl, hb, fun J hJ => by cases hJ; exact ⟨rfl, rfl, rfl, rfl, rfl, rfl, hs, rfl, rfl⟩⟩
theorem rarea_is1 (S : Nat → Prop) (m : Nat) (D : Dsk) (r : Option Jn) (w : World) (h : RefAt w S m D) (ho : D.off = false) (hf : Full D) (h4 : 4 ≤ D.n) (ht : Tame D.now (1 * (D.n / 2)) (D.n / 2)) (hr : AreaIs D 1 r) :
  Calls Tryz.prog 66 #[.pointer (some ⟨m, 0, none⟩), .int .i64 1] w (RAns w m r) := by
 cases hr with
 | nohead hh => exact (rarea_nohead1 S m D w h ho hf h4 hh).mono fun e w' hr => hr.ans m
 | short g o f n hh hw => exact (rarea_short1 S m D w h ho hf h4 g o f n hh ht hw).mono fun e w' hr => hr.ans m
 | bears J ha hb =>
  obtain ⟨ja, g, o, f, n, st, recs, used⟩ := J
  have ha : ja = 1 := ha
  subst ha
  obtain ⟨b1, b2, b3, b4, b5, b6, M, fs, hw, hst, hln, hrec⟩ := hb
  dsimp only at *
  subst hst
  refine (rarea_bears1 S m D w h ho hf h4 g o f n ⟨b3, b4, ⟨b5.1, by have := b5.2; omega⟩, b6, b2⟩ ht M used fs recs hw hln hrec b5.2).mono ?_
  rintro e w' ⟨lv, rfl, hs, hb⟩
  obtain ⟨A, c, rfl, _, _⟩ := row_len hs
  exact ⟨_, _, _, _, _, _, _, _, _, _, _, rfl, hb, fun J hJ => by cases hJ; exact ⟨rfl, rfl, rfl, rfl, rfl, rfl, hs, rfl, rfl⟩⟩
theorem writes_putsE (f : Nat → List UInt8) : ∀ (n s : Nat) (D : Dsk) (base : Nat), writes D (base + s) ((List.range' s n).map f) = (List.range' s n).foldl (putE base f) (0, D) := fun n => by
 have stay : ∀ (is : List Nat) (x : Int × Dsk) (base : Nat), x.1 ≠ 0 → is.foldl (putE base f) x = x := fun is => by
  induction is with
  | nil => intro x base _; rfl
  | cons i is ih =>
   intro x base h
   rw [List.foldl_cons, show putE base f x i = x by unfold putE; rw [if_neg h]]
   exact ih x base h
 induction n with
 | zero => intro s D base; rfl
 | succ n ih =>
  intro s D base
  rw [List.range'_succ, List.map_cons, List.foldl_cons]
  show (if (wrote D ((base + s : Nat) : Int) (f s)).1 = 0 then writes (wrote D ((base + s : Nat) : Int) (f s)).2 (base + s + 1) _ else wrote D ((base + s : Nat) : Int) (f s)) = _
  have e1 : putE base f (0, D) s = wrote D ((base + s : Nat) : Int) (f s) := by unfold putE; rw [if_pos rfl]
  rw [e1]
  split
  ·rename_i h
   rw [Nat.add_assoc, ih (s + 1)]
   congr 1
   exact Prod.ext h.symm rfl
  ·rename_i h
   exact (stay _ _ _ h).symm
theorem writes_put (D : Dsk) (base : Nat) (c : UInt8) (s k : Nat) (l : List UInt8) : writes D base (secL c s k l (parts l.length)) = putsE D base (putF c s k l) (upto (parts l.length)) := by
 have h := writes_putsE (putF c s k l) (parts l.length) 0 D base
 rw [Nat.add_zero, ← List.range_eq_range'] at h
 exact h
theorem writes_one (D : Dsk) (base : Nat) (b : List UInt8) : writes D base [b] = wrote D (base : Int) b := by
 show (if (wrote D (base : Int) b).1 = 0 then ((0 : Int), (wrote D (base : Int) b).2) else wrote D (base : Int) b) = _
 split
 ·rename_i h
  exact Prod.ext h.symm rfl
 ·rfl
theorem put9 {z : World} {g : Nat} {T : TypeId} {y0 y1 y2 y3 y4 y5 y6 y7 y8 : Value} (x0 x1 x2 x3 x4 x5 x6 x7 x8 : Value) (h : z.heap[g]? = some (.cells #[y0, y1, y2, y3, y4, y5, y6, y7, y8] T)) : (putR9 z g x0 x1 x2 x3 x4 x5 x6 x7 x8).heap[g]? = some (.cells #[x0, x1, x2, x3, x4, x5, x6, x7, x8] T) ∧ z.grownBy (putR9 z g x0 x1 x2 x3 x4 x5 x6 x7 x8) (some g) := by
 have f1 : (z.setCell ⟨g, 0, none⟩ x0).heap[g]? = some (.cells #[x0, y1, y2, y3, y4, y5, y6, y7, y8] T) := heap_setCell_same _ g 0 _ _ x0 h
 have f2 : ((z.setCell ⟨g, 0, none⟩ x0).setCell ⟨g, 1, none⟩ x1).heap[g]? = some (.cells #[x0, x1, y2, y3, y4, y5, y6, y7, y8] T) := heap_setCell_same _ g 1 _ _ x1 f1
 have f3 : (((z.setCell ⟨g, 0, none⟩ x0).setCell ⟨g, 1, none⟩ x1).setCell ⟨g, 2, none⟩ x2).heap[g]? = some (.cells #[x0, x1, x2, y3, y4, y5, y6, y7, y8] T) := heap_setCell_same _ g 2 _ _ x2 f2
 have f4 : ((((z.setCell ⟨g, 0, none⟩ x0).setCell ⟨g, 1, none⟩ x1).setCell ⟨g, 2, none⟩ x2).setCell ⟨g, 3, none⟩ x3).heap[g]? = some (.cells #[x0, x1, x2, x3, y4, y5, y6, y7, y8] T) := heap_setCell_same _ g 3 _ _ x3 f3
 have f5 : (((((z.setCell ⟨g, 0, none⟩ x0).setCell ⟨g, 1, none⟩ x1).setCell ⟨g, 2, none⟩ x2).setCell ⟨g, 3, none⟩ x3).setCell ⟨g, 4, none⟩ x4).heap[g]? = some (.cells #[x0, x1, x2, x3, x4, y5, y6, y7, y8] T) := heap_setCell_same _ g 4 _ _ x4 f4
 have f6 : (putP z g x0 x1 x2 x3 x4 x5).heap[g]? = some (.cells #[x0, x1, x2, x3, x4, x5, y6, y7, y8] T) := heap_setCell_same _ g 5 _ _ x5 f5
 have f7 : ((putP z g x0 x1 x2 x3 x4 x5).setCell ⟨g, 6, none⟩ x6).heap[g]? = some (.cells #[x0, x1, x2, x3, x4, x5, x6, y7, y8] T) := heap_setCell_same _ g 6 _ _ x6 f6
 have f8 : (((putP z g x0 x1 x2 x3 x4 x5).setCell ⟨g, 6, none⟩ x6).setCell ⟨g, 7, none⟩ x7).heap[g]? = some (.cells #[x0, x1, x2, x3, x4, x5, x6, x7, y8] T) := heap_setCell_same _ g 7 _ _ x7 f7
 have f9 : (putR9 z g x0 x1 x2 x3 x4 x5 x6 x7 x8).heap[g]? = some (.cells #[x0, x1, x2, x3, x4, x5, x6, x7, x8] T) := heap_setCell_same _ g 8 _ _ x8 f8
 have k : ∀ (z : World) (j : Nat) (q : Value), z.grownBy (z.setCell ⟨g, j, none⟩ q) (some g) := fun z j q => grown_set z g j q
 refine ⟨f9, ?_⟩
 unfold putR9 putP
 exact grown_trans (grown_trans (grown_trans (grown_trans (grown_trans (grown_trans (grown_trans (grown_trans (k _ _ _) (k _ _ _)) (k _ _ _)) (k _ _ _)) (k _ _ _)) (k _ _ _)) (k _ _ _)) (k _ _ _)) (k _ _ _)
theorem str_one (w : World) (l : List UInt8) : StrRow (w.alloc (.cells #[strV l] 9)) w.heap.size (.slice (some ⟨w.heap.size, 0, none⟩) 1 1) [strV l] := by
 refine ⟨rfl, .inr ⟨w.heap.size, 1, #[strV l], rfl, Nat.le_refl _, (MapKept.heap_alloc w _).1, Nat.le_refl _, by unfold maxLen; omega, by simp, ?_⟩⟩
 simp
def ROpenEnd (w : World) (S : Nat → Prop) (m : Nat) (D : Dsk) (R : Option Jn) (e : Ending) (w' : World) : Prop := ∃ rb T Sd', e = .returned (.tuple #[.pointer (some ⟨rb, 0, none⟩), .int .i64 0]) ∧ RJAt w' T rb m (opened D R).1 0 ∧ RefAt w' Sd' m (opened D R).2 ∧ (∀ b, T b → w.heap.size ≤ b ∧ ¬ Sd' b) ∧ (∀ b, Sd' b → (S b ∨ w.heap.size ≤ b) ∧ b < w'.heap.size) ∧ Off S w w'
section
variable {w v3 v6 w7 : World} {S : Nat → Prop} {m ab : Nat} {D D2 : Dsk} {J J2 : Jn} {lv : Value} {R : Option Jn}
theorem ropen_done (hg : w.grownBy v6 none) (hb : RJBlk v6 ab m J2 lv 0) (hr : StrRow v6 w.heap.size lv (recV J2)) (hab : w.heap.size ≤ ab)
  (hd : RefAt w7 (Beside S w.heap.size v6.heap.size) m D2) (ho : Off (Beside S w.heap.size v6.heap.size) v6 w7) (e1 : (opened D R).1 = J2) (e2 : (opened D R).2 = D2) : ROpenEnd w S m D R (.returned (.tuple #[.pointer (some ⟨ab, 0, none⟩), .int .i64 0])) w7 := by
 have hlt : ab < v6.heap.size := (Array.getElem?_eq_some_iff.1 hb).1
 have hnb : ∀ b, w.heap.size ≤ b → b < v6.heap.size → ¬ Beside S w.heap.size v6.heap.size b := fun b h1 h2 q => q.elim (fun q => by omega) (fun q => by omega)
 have hrow : ∀ g, lv.ownBlock = some g → w.heap.size ≤ g ∧ g < v6.heap.size := fun g hg => World.ownsRow.lt hr g hg
 refine ⟨ab, fun b => w.heap.size ≤ b ∧ b < v6.heap.size, fun b => Beside S w.heap.size v6.heap.size b ∧ b < w7.heap.size, rfl, ⟨lv, ?_⟩, ?_, fun b hb => ⟨hb.1, fun q => hnb b hb.1 hb.2 q.1⟩, fun b hb => ⟨?_, hb.2⟩, ?_⟩
 ·rw [e1]
  exact ⟨(ho.block ab hlt (hnb ab hab hlt)).trans hb, Sec.row_off (row_less hr (Nat.zero_le _)) ho (fun g hg => hnb g (hrow g hg).1 (hrow g hg).2), ⟨⟨hab, hlt⟩, hrow⟩, fun b hb => Nat.lt_of_lt_of_le hb.2 ho.size⟩
 ·rw [e2]
  exact hd.mono (fun k hk hs => ⟨hs, hk⟩)
 ·exact hb.1.elim (fun q => .inl q.1) (fun q => .inr (Nat.le_trans hg.size q))
 ·refine ⟨ho.os.trans hg.os, ho.tape.trans hg.tape, ho.output.trans hg.output, Nat.le_trans hg.size ho.size, fun k hk hs => (ho.block k (Nat.lt_of_lt_of_le hk hg.size) (fun q => q.elim (fun q => hs q.1) (fun q => ?_))).trans (hg.block k hk (by simp))⟩
  have := hg.size
  omega
theorem rjblk_op (hb : RJBlk v3 ab m J lv 0) : RJBlk (v3.setCell ⟨ab, 3, none⟩ (.int .i64 ((J.op : Int) + 1))) ab m { J with op := J.op + 1 } lv 0 := by
 have h := heap_setCell_same v3 ab 3 _ _ (.int .i64 ((J.op + 1 : Nat) : Int)) hb
 rw [show ((J.op : Int) + 1) = ((J.op + 1 : Nat) : Int) by omega]
 exact h
end
theorem ropen_a (J : Jn) (S : Nat → Prop) (m : Nat) (D : Dsk) (w : World) (h : RefAt w S m D) (hlt : ∀ b, S b → b < w.heap.size) (ho : D.off = false) (harm : D.armed = none) (hf : Full D) (hwr : D.wr.length + 10 < 1000000) (h4 : 4 ≤ D.n) (t0 : Tame D.now (0 * (D.n / 2)) (D.n / 2)) (t1 : Tame D.now (1 * (D.n / 2)) (D.n / 2)) (r0 r1 : Option Jn) (k0 : AreaIs D 0 r0) (k1 : AreaIs D 1 r1) (h0 : r0 = some J) (h1 : r1 = none) (hch : choose r0 r1 = some J) (hop : J.op + 1 ≤ 4611686018427387904 ∧ J.gen ≤ 4611686018427387904 ∧ J.first ≤ 4611686018427387904 ∧ J.size ≤ 1048576 ∧ J.area ≤ 1) (hsz : J.st.length = J.size) :
  Calls Tryz.prog 38 #[.pointer (some ⟨m, 0, none⟩)] w (ROpenEnd w S m D (choose r0 r1)) := by
 have HCH := Lib.hid hch
 have HOP := Lib.hid hop
 have HSZ := Lib.hid hsz
 have HR := Lib.hid h
 have HLT := Lib.hid hlt
 have HLIVE := Lib.hid (And.intro ho harm)
 have HF := Lib.hid hf
 have HWR := Lib.hid hwr
 have HN := Lib.hid h4
 have HT := Lib.hid (And.intro t0 t1)
 have HK := Lib.hid (And.intro k0 k1)
 obtain ⟨hn16, _, sb, sl, inn, hm, hSm, hb, hbS, hl, hlS, ha⟩ := h
 obtain ⟨A0, cap0, hsb, hc0, _⟩ := str_slice hb
 rw [tellV_length] at hsb hc0
 subst hsb
 have c0 : w.cell? ⟨m, 0, none⟩ = some (.slice A0 D.n cap0) := cell_blk hm 0
 have c4 : w.cell? ⟨m, 4, none⟩ = some (.bool false) := by rw [← ho]; exact cell_blk hm 4
 have d4 : decide ((D.n : Int) < 4) = false := by simp; omega
 have d4b : decide (D.n < 4) = false := by simp; omega
 clear hm hSm hb hbS hl hlS ha hc0 hlt ho harm hf hwr h4 t0 t1 k0 k1 hch hop hsz
 go_enter Tryz.func38, Tryz.ntmps38
 go_wp2_with fail
 refine (rarea_is0 S m D r0 w HR.out HLIVE.out.1 HF.out HN.out HT.out.1 HK.out.1).mono ?_
 rintro e w0 ⟨p0, i01, i02, i03, i04, s0, A0, n0, c0, i07, i08, rfl, hb0, hj0⟩
 have HJ0 := Lib.hid hj0
 have HB0 := Lib.hid hb0
 clear hb0 hj0
 go_upto_region 6 with fail
 obtain ⟨v0, hv0⟩ : ∃ v, v = w0.alloc (.cells #[.pointer p0, .int .i64 i01, .int .i64 i02, .int .i64 i03, .int .i64 i04, .string s0, .slice A0 n0 c0, .int .i64 i07, .int .i64 i08] 101) := ⟨_, rfl⟩
 have HV0 : Hid (v0.heap[w0.heap.size]? = some (.cells #[.pointer p0, .int .i64 i01, .int .i64 i02, .int .i64 i03, .int .i64 i04, .string s0, .slice A0 n0 c0, .int .i64 i07, .int .i64 i08] 101) ∧ w0.grownBy v0 none ∧ w0.heap.size < v0.heap.size) := by rw [hv0]; exact ⟨(MapKept.heap_alloc w0 _).1, World.grownBy_alloc w0 _ none, by rw [World.size_alloc]; omega⟩
 rw [← hv0]
 clear hv0
 obtain ⟨ab0, hab0⟩ : ∃ a, a = w0.heap.size := ⟨_, rfl⟩
 rw [← hab0] at HV0 ⊢
 have HAB0 := Lib.hid hab0
 clear hab0
 have G0 : Hid (w.grownBy v0 none) := (Below.to_grown HB0.out).andThen HV0.out.2.1 (fun _ h => .inr h)
 go_wp2_with fail
 refine (rarea_is1 S m D r1 v0 (HR.out.grown G0.out) HLIVE.out.1 HF.out HN.out HT.out.2 HK.out.2).mono ?_
 rintro e w1 ⟨p1, i11, i12, i13, i14, s1, A1, n1, c1, i17, i18, rfl, hb1, hj1⟩
 have HJ1 := Lib.hid hj1
 have HB1 := Lib.hid hb1
 clear hb1 hj1
 go_upto_region 7 with fail
 obtain ⟨v1, hv1⟩ : ∃ v, v = w1.alloc (.cells #[.pointer p1, .int .i64 i11, .int .i64 i12, .int .i64 i13, .int .i64 i14, .string s1, .slice A1 n1 c1, .int .i64 i17, .int .i64 i18] 101) := ⟨_, rfl⟩
 have HV1 : Hid (v1.heap[w1.heap.size]? = some (.cells #[.pointer p1, .int .i64 i11, .int .i64 i12, .int .i64 i13, .int .i64 i14, .string s1, .slice A1 n1 c1, .int .i64 i17, .int .i64 i18] 101) ∧ w1.grownBy v1 none ∧ w1.heap.size < v1.heap.size) := by rw [hv1]; exact ⟨(MapKept.heap_alloc w1 _).1, World.grownBy_alloc w1 _ none, by rw [World.size_alloc]; omega⟩
 rw [← hv1]
 clear hv1
 obtain ⟨ab1, hab1⟩ : ∃ a, a = w1.heap.size := ⟨_, rfl⟩
 rw [← hab1] at HV1 ⊢
 have HAB1 := Lib.hid hab1
 clear hab1
 have G1 : Hid (w.grownBy v1 none) := G0.out.andThen ((Below.to_grown HB1.out).andThen HV1.out.2.1 (fun _ h => .inr h)) (fun _ h => .inr h)
 subst h0 h1
 obtain ⟨e0, e1, e2, e3, e4, e5, hrow, e7, e8⟩ := HJ0.out J rfl
 subst e0 e1 e2 e3 e4 e5 e7 e8
 go_upto_region 19 with fail
 have HB3 : Hid (RJBlk v1 ab0 m J (.slice A0 n0 c0) 0) := (((Below.to_grown HB1.out).andThen HV1.out.2.1 (fun _ h => .inr h)).block ab0 HV0.out.2.2 (by simp)).trans HV0.out.1
 have HR3 : Hid (StrRow v1 w.heap.size (.slice A0 n0 c0) (recV J)) := Sec.row_off hrow (Off.of_grown (HV0.out.2.1.andThen ((Below.to_grown HB1.out).andThen HV1.out.2.1 (fun _ h => .inr h)) (fun _ h => .inr h)) (S := fun _ => False) (by simp)) (fun _ _ q => q)
 have HG3 := G1
 have HABW : Hid (w.heap.size ≤ ab0) := by rw [HAB0.out]; exact HB0.out.size
 obtain ⟨lv, hlv⟩ : ∃ l, l = Value.slice A0 n0 c0 := ⟨_, rfl⟩
 rw [← hlv] at HB3 HR3
 clear hlv hrow
 obtain ⟨v3, hv3⟩ : ∃ v, v = v1 := ⟨_, rfl⟩
 rw [← hv3] at HB3 HR3 HG3 ⊢
 clear hv3
 have c3 : v3.cell? ⟨ab0, 3, none⟩ = some (.int .i64 (J.op : Int)) := cell_blk HB3.out 3
 have f3 : v3.frozen? ⟨ab0, 3, none⟩ = false := frozen_blk HB3.out 3
 have d3 : decide ((J.op : Int) < 4611686018427387904) = true := by have := (HOP.out).1; simp; omega
 have n1 : IntKind.i64.wrap ((J.op : Int) + 1) = (J.op : Int) + 1 := by have := (HOP.out).1; rw [IntKind.wrap_i64]; omega
 have w1' : (0 : Int) ≤ (J.op : Int) + 1 := by omega
 have w2' : (J.op : Int) + 1 ≤ 4611686018427387904 := by have := (HOP.out).1; omega
 go_upto_region 21 with fail
 have HB4 := Lib.hid (rjblk_op HB3.out)
 have HG4 := Lib.hid (grown_set v3 ab0 3 (.int .i64 ((J.op : Int) + 1)))
 obtain ⟨v4, hv4⟩ : ∃ v, v = v3.setCell ⟨ab0, 3, none⟩ (.int .i64 ((J.op : Int) + 1)) := ⟨_, rfl⟩
 rw [← hv4] at HB4 HG4 ⊢
 have HR4 : Hid (StrRow v4 w.heap.size lv (recV J)) := Sec.row_off HR3.out (Off.of_grown HG4.out (S := fun b => b = ab0) (fun k e => by cases e; rfl)) (fun g hg e => row_ne_blk HR3.out HB3.out (by decide) (e ▸ hg))
 have HW4 : Hid (w.grownBy v4 none) := Below.to_grown ((grown_below0 HG3.out (Nat.le_refl _)).trans (grown_below HG4.out HABW.out HG3.out.size))
 have HC4 : Hid (∀ v : World, RJBlk v ab0 m { J with op := J.op + 1 } lv 0 → v.cell? ⟨ab0, 1, none⟩ = some (Value.int .i64 (J.area : Int)) ∧ v.cell? ⟨ab0, 2, none⟩ = some (Value.int .i64 (J.gen : Int)) ∧ v.cell? ⟨ab0, 3, none⟩ = some (Value.int .i64 ((J.op : Int) + 1)) ∧ v.cell? ⟨ab0, 4, none⟩ = some (Value.int .i64 (J.first : Int)) ∧ v.cell? ⟨ab0, 5, none⟩ = some (strV J.st)) := fun v hb => ⟨hb.cell 1, hb.cell 2, by rw [show ((J.op : Int) + 1) = ((J.op + 1 : Nat) : Int) by omega]; exact hb.cell 3, hb.cell 4, hb.cell 5⟩
 clear c3 f3 d3 hv4
 refine wp_region_noPanic ?_
 refine wp_region_held_drew (S := fun w' => w'.cell? ⟨ab0, 1, none⟩ = some (Value.int .i64 (J.area : Int)) ∧ w'.cell? ⟨ab0, 2, none⟩ = some (Value.int .i64 (J.gen : Int)) ∧ w'.cell? ⟨ab0, 3, none⟩ = some (Value.int .i64 ((J.op : Int) + 1)) ∧ w'.cell? ⟨ab0, 4, none⟩ = some (Value.int .i64 (J.first : Int)) ∧ w'.cell? ⟨ab0, 5, none⟩ = some (strV J.st)) (by kernel_rfl) ?hSt (fun hHeld => ?_)
 case hSt => exact HC4.out _ HB4.out
 refine ztk 0 rfl ?_
 refine ztk 1 rfl ?_
 refine ztk 2 rfl ?_
 refine ztk 3 rfl ?_
 refine ztk 4 rfl ?_
 refine ztk 5 rfl ?_
 refine ztk 6 rfl ?_
 refine ztk 7 rfl ?_
 refine ztk 8 rfl ?_
 refine ztk 9 rfl ?_
 refine ztk 10 rfl ?_
 refine ztk 11 rfl ?_
 refine zrd 12 rfl (fun K hK => ?_)
 go_simp
 rw [show ((J.op : Int) + 1) = ((J.op + 1 : Nat) : Int) by omega, bs_size, HSZ.out]
 refine (rhead_at J.gen (J.op + 1) J.first J.size (by have := HOP.out; omega) (by have := HOP.out; omega) (by have := HOP.out; omega) (by have := HOP.out; omega) _).mono ?_
 rintro e v5 ⟨rfl, hb5⟩
 obtain ⟨hd, hhd⟩ : ∃ x, x = headB J.gen (J.op + 1) J.first J.size := ⟨_, rfl⟩
 rw [← hhd]
 have HHD := Lib.hid hhd
 clear hhd
 have HG5 : Hid (v4.grownBy v5 none) := drew_then (Below.to_grown hb5)
 have HB5 : Hid (RJBlk v5 ab0 m { J with op := J.op + 1 } lv 0) := (HG5.out.block ab0 (Array.getElem?_eq_some_iff.1 HB4.out).1 (by simp)).trans HB4.out
 clear hb5
 go_wp2_with fail
 refine hK.out _ _ ?q (fun hHeld => ?_)
 case q => (try dsimp only); exact HC4.out _ HB5.out
 clear hK K
 try simp only [zpt]
 refine zrd 13 rfl (fun K hK => ?_)
 go_simp
 obtain ⟨v6, hv6⟩ : ∃ v, v = v5.alloc (.cells #[strV hd] 9) := ⟨_, rfl⟩
 rw [← hv6]
 have HV6 : Hid (v5.grownBy v6 none ∧ v5.heap.size < v6.heap.size ∧ StrRow v6 v5.heap.size (.slice (some ⟨v5.heap.size, 0, none⟩) 1 1) [strV hd]) := by rw [hv6]; exact ⟨World.grownBy_alloc v5 _ none, by rw [World.size_alloc]; omega, str_one v5 hd⟩
 clear hv6
 have HB6 : Hid (RJBlk v6 ab0 m { J with op := J.op + 1 } lv 0) := (HV6.out.1.block ab0 (Array.getElem?_eq_some_iff.1 HB5.out).1 (by simp)).trans HB5.out
 refine hK.out _ _ ?q (fun hHeld => ?_)
 case q => (try dsimp only); exact HC4.out _ HB6.out
 clear hK K
 try simp only [zpt]
 refine zrd 14 rfl (fun K hK => ?_)
 go_simp
 have HW6 : Hid (w.grownBy v6 none) := HW4.out.andThen (HG5.out.andThen HV6.out.1 (fun _ h => .inr h)) (fun _ h => .inr h)
 refine (rwrite_list (Beside S w.heap.size v6.heap.size) m D J.area 0 [hd] _ v5.heap.size v6 (HR.out.next (Off.of_grown HW6.out (S := fun _ => False) (by simp)) (fun _ _ _ q => q)) beside_new HV6.out.2.2 (fun g hg => by have e : g = v5.heap.size := (Option.some.inj hg).symm; rw [e]; exact beside_not (Nat.le_trans HW4.out.size HG5.out.size) HV6.out.2.1) HOP.out.2.2.2.2 (by omega) (fun l hl => by rw [List.mem_singleton.1 hl, HHD.out, headB_length]; decide) (by have := HWR.out; simp; omega)).mono ?_
 rw [writes_one, Nat.add_zero, HHD.out, wrote_live D HLIVE.out.1 HLIVE.out.2 (area_lt HOP.out.2.2.2.2 HN.out) (headB_length ..)]
 rintro e w7 ⟨rfl, hd7, ho7⟩
 have HD7 := Lib.hid hd7
 have HO7 := Lib.hid ho7
 have HB7 : Hid (RJBlk w7 ab0 m { J with op := J.op + 1 } lv 0) := (HO7.out.block ab0 (Array.getElem?_eq_some_iff.1 HB6.out).1 (beside_not HABW.out (Array.getElem?_eq_some_iff.1 HB6.out).1)).trans HB6.out
 clear hd7 ho7
 go_wp2_with fail
 refine hK.out _ _ ?q (fun hHeld => ?_)
 case q => (try dsimp only); exact HC4.out _ HB7.out
 clear hK K
 try simp only [zpt]
 refine ztk 15 rfl ?_
 refine wpAnyH_done (by kernel_rfl) ?_ _
 refine NoPanic.normal ?_
 clear hHeld
 go_wp2_with fail
 go_ret2
 refine ropen_done HW6.out HB6.out ?_ HABW.out HD7.out HO7.out (by rw [HCH.out]; rfl) (by rw [HCH.out]; rfl)
 exact Sec.row_off HR4.out (Off.of_grown (HG5.out.andThen HV6.out.1 (fun _ h => .inr h)) (S := fun _ => False) (by simp)) (fun _ _ q => q)
theorem ropen_b (J : Jn) (S : Nat → Prop) (m : Nat) (D : Dsk) (w : World) (h : RefAt w S m D) (hlt : ∀ b, S b → b < w.heap.size) (ho : D.off = false) (harm : D.armed = none) (hf : Full D) (hwr : D.wr.length + 10 < 1000000) (h4 : 4 ≤ D.n) (t0 : Tame D.now (0 * (D.n / 2)) (D.n / 2)) (t1 : Tame D.now (1 * (D.n / 2)) (D.n / 2)) (r0 r1 : Option Jn) (k0 : AreaIs D 0 r0) (k1 : AreaIs D 1 r1) (K : Jn) (h0 : r0 = some J) (h1 : r1 = some K) (hk : ¬ J.gen < K.gen) (hch : choose r0 r1 = some J) (hop : J.op + 1 ≤ 4611686018427387904 ∧ J.gen ≤ 4611686018427387904 ∧ J.first ≤ 4611686018427387904 ∧ J.size ≤ 1048576 ∧ J.area ≤ 1) (hsz : J.st.length = J.size) :
  Calls Tryz.prog 38 #[.pointer (some ⟨m, 0, none⟩)] w (ROpenEnd w S m D (choose r0 r1)) := by
 have HCH := Lib.hid hch
 have HOP := Lib.hid hop
 have HSZ := Lib.hid hsz
 have HR := Lib.hid h
 have HLT := Lib.hid hlt
 have HLIVE := Lib.hid (And.intro ho harm)
 have HF := Lib.hid hf
 have HWR := Lib.hid hwr
 have HN := Lib.hid h4
 have HT := Lib.hid (And.intro t0 t1)
 have HK := Lib.hid (And.intro k0 k1)
 obtain ⟨hn16, _, sb, sl, inn, hm, hSm, hb, hbS, hl, hlS, ha⟩ := h
 obtain ⟨A0, cap0, hsb, hc0, _⟩ := str_slice hb
 rw [tellV_length] at hsb hc0
 subst hsb
 have c0 : w.cell? ⟨m, 0, none⟩ = some (.slice A0 D.n cap0) := cell_blk hm 0
 have c4 : w.cell? ⟨m, 4, none⟩ = some (.bool false) := by rw [← ho]; exact cell_blk hm 4
 have d4 : decide ((D.n : Int) < 4) = false := by simp; omega
 have d4b : decide (D.n < 4) = false := by simp; omega
 clear hm hSm hb hbS hl hlS ha hc0 hlt ho harm hf hwr h4 t0 t1 k0 k1 hch hop hsz
 go_enter Tryz.func38, Tryz.ntmps38
 go_wp2_with fail
 refine (rarea_is0 S m D r0 w HR.out HLIVE.out.1 HF.out HN.out HT.out.1 HK.out.1).mono ?_
 rintro e w0 ⟨p0, i01, i02, i03, i04, s0, A0, n0, c0, i07, i08, rfl, hb0, hj0⟩
 have HJ0 := Lib.hid hj0
 have HB0 := Lib.hid hb0
 clear hb0 hj0
 go_upto_region 6 with fail
 obtain ⟨v0, hv0⟩ : ∃ v, v = w0.alloc (.cells #[.pointer p0, .int .i64 i01, .int .i64 i02, .int .i64 i03, .int .i64 i04, .string s0, .slice A0 n0 c0, .int .i64 i07, .int .i64 i08] 101) := ⟨_, rfl⟩
 have HV0 : Hid (v0.heap[w0.heap.size]? = some (.cells #[.pointer p0, .int .i64 i01, .int .i64 i02, .int .i64 i03, .int .i64 i04, .string s0, .slice A0 n0 c0, .int .i64 i07, .int .i64 i08] 101) ∧ w0.grownBy v0 none ∧ w0.heap.size < v0.heap.size) := by rw [hv0]; exact ⟨(MapKept.heap_alloc w0 _).1, World.grownBy_alloc w0 _ none, by rw [World.size_alloc]; omega⟩
 rw [← hv0]
 clear hv0
 obtain ⟨ab0, hab0⟩ : ∃ a, a = w0.heap.size := ⟨_, rfl⟩
 rw [← hab0] at HV0 ⊢
 have HAB0 := Lib.hid hab0
 clear hab0
 have G0 : Hid (w.grownBy v0 none) := (Below.to_grown HB0.out).andThen HV0.out.2.1 (fun _ h => .inr h)
 go_wp2_with fail
 refine (rarea_is1 S m D r1 v0 (HR.out.grown G0.out) HLIVE.out.1 HF.out HN.out HT.out.2 HK.out.2).mono ?_
 rintro e w1 ⟨p1, i11, i12, i13, i14, s1, A1, n1, c1, i17, i18, rfl, hb1, hj1⟩
 have HJ1 := Lib.hid hj1
 have HB1 := Lib.hid hb1
 clear hb1 hj1
 go_upto_region 7 with fail
 obtain ⟨v1, hv1⟩ : ∃ v, v = w1.alloc (.cells #[.pointer p1, .int .i64 i11, .int .i64 i12, .int .i64 i13, .int .i64 i14, .string s1, .slice A1 n1 c1, .int .i64 i17, .int .i64 i18] 101) := ⟨_, rfl⟩
 have HV1 : Hid (v1.heap[w1.heap.size]? = some (.cells #[.pointer p1, .int .i64 i11, .int .i64 i12, .int .i64 i13, .int .i64 i14, .string s1, .slice A1 n1 c1, .int .i64 i17, .int .i64 i18] 101) ∧ w1.grownBy v1 none ∧ w1.heap.size < v1.heap.size) := by rw [hv1]; exact ⟨(MapKept.heap_alloc w1 _).1, World.grownBy_alloc w1 _ none, by rw [World.size_alloc]; omega⟩
 rw [← hv1]
 clear hv1
 obtain ⟨ab1, hab1⟩ : ∃ a, a = w1.heap.size := ⟨_, rfl⟩
 rw [← hab1] at HV1 ⊢
 have HAB1 := Lib.hid hab1
 clear hab1
 have G1 : Hid (w.grownBy v1 none) := G0.out.andThen ((Below.to_grown HB1.out).andThen HV1.out.2.1 (fun _ h => .inr h)) (fun _ h => .inr h)
 subst h0 h1
 obtain ⟨e0, e1, e2, e3, e4, e5, hrow, e7, e8⟩ := HJ0.out J rfl
 subst e0 e1 e2 e3 e4 e5 e7 e8
 obtain ⟨g0, g1, g2, g3, g4, g5, growk, g7, g8⟩ := HJ1.out K rfl
 subst g0 g1 g2 g3 g4 g5 g7 g8
 have k1 : v1.cell? ⟨ab1, 2, none⟩ = some (.int .i64 (K.gen : Int)) := cell_blk HV1.out.1 2
 have k0 : v1.cell? ⟨ab0, 2, none⟩ = some (.int .i64 (J.gen : Int)) := cell_blk (((Below.to_grown HB1.out).andThen HV1.out.2.1 (fun _ h => .inr h)).block ab0 HV0.out.2.2 (by simp) |>.trans HV0.out.1) 2
 have dk : decide ((J.gen : Int) < (K.gen : Int)) = false := by simp; omega
 have dk2 : decide (J.gen < K.gen) = false := by simp; omega
 clear hk
 go_upto_region 19 with fail
 clear k0 k1 dk dk2 growk
 have HB3 : Hid (RJBlk v1 ab0 m J (.slice A0 n0 c0) 0) := (((Below.to_grown HB1.out).andThen HV1.out.2.1 (fun _ h => .inr h)).block ab0 HV0.out.2.2 (by simp)).trans HV0.out.1
 have HR3 : Hid (StrRow v1 w.heap.size (.slice A0 n0 c0) (recV J)) := Sec.row_off hrow (Off.of_grown (HV0.out.2.1.andThen ((Below.to_grown HB1.out).andThen HV1.out.2.1 (fun _ h => .inr h)) (fun _ h => .inr h)) (S := fun _ => False) (by simp)) (fun _ _ q => q)
 have HG3 := G1
 have HABW : Hid (w.heap.size ≤ ab0) := by rw [HAB0.out]; exact HB0.out.size
 obtain ⟨lv, hlv⟩ : ∃ l, l = Value.slice A0 n0 c0 := ⟨_, rfl⟩
 rw [← hlv] at HB3 HR3
 clear hlv hrow
 obtain ⟨v3, hv3⟩ : ∃ v, v = v1 := ⟨_, rfl⟩
 rw [← hv3] at HB3 HR3 HG3 ⊢
 clear hv3
 have c3 : v3.cell? ⟨ab0, 3, none⟩ = some (.int .i64 (J.op : Int)) := cell_blk HB3.out 3
 have f3 : v3.frozen? ⟨ab0, 3, none⟩ = false := frozen_blk HB3.out 3
 have d3 : decide ((J.op : Int) < 4611686018427387904) = true := by have := (HOP.out).1; simp; omega
 have n1 : IntKind.i64.wrap ((J.op : Int) + 1) = (J.op : Int) + 1 := by have := (HOP.out).1; rw [IntKind.wrap_i64]; omega
 have w1' : (0 : Int) ≤ (J.op : Int) + 1 := by omega
 have w2' : (J.op : Int) + 1 ≤ 4611686018427387904 := by have := (HOP.out).1; omega
 go_upto_region 21 with fail
 have HB4 := Lib.hid (rjblk_op HB3.out)
 have HG4 := Lib.hid (grown_set v3 ab0 3 (.int .i64 ((J.op : Int) + 1)))
 obtain ⟨v4, hv4⟩ : ∃ v, v = v3.setCell ⟨ab0, 3, none⟩ (.int .i64 ((J.op : Int) + 1)) := ⟨_, rfl⟩
 rw [← hv4] at HB4 HG4 ⊢
 have HR4 : Hid (StrRow v4 w.heap.size lv (recV J)) := Sec.row_off HR3.out (Off.of_grown HG4.out (S := fun b => b = ab0) (fun k e => by cases e; rfl)) (fun g hg e => row_ne_blk HR3.out HB3.out (by decide) (e ▸ hg))
 have HW4 : Hid (w.grownBy v4 none) := Below.to_grown ((grown_below0 HG3.out (Nat.le_refl _)).trans (grown_below HG4.out HABW.out HG3.out.size))
 have HC4 : Hid (∀ v : World, RJBlk v ab0 m { J with op := J.op + 1 } lv 0 → v.cell? ⟨ab0, 1, none⟩ = some (Value.int .i64 (J.area : Int)) ∧ v.cell? ⟨ab0, 2, none⟩ = some (Value.int .i64 (J.gen : Int)) ∧ v.cell? ⟨ab0, 3, none⟩ = some (Value.int .i64 ((J.op : Int) + 1)) ∧ v.cell? ⟨ab0, 4, none⟩ = some (Value.int .i64 (J.first : Int)) ∧ v.cell? ⟨ab0, 5, none⟩ = some (strV J.st)) := fun v hb => ⟨hb.cell 1, hb.cell 2, by rw [show ((J.op : Int) + 1) = ((J.op + 1 : Nat) : Int) by omega]; exact hb.cell 3, hb.cell 4, hb.cell 5⟩
 clear c3 f3 d3 hv4
 refine wp_region_noPanic ?_
 refine wp_region_held_drew (S := fun w' => w'.cell? ⟨ab0, 1, none⟩ = some (Value.int .i64 (J.area : Int)) ∧ w'.cell? ⟨ab0, 2, none⟩ = some (Value.int .i64 (J.gen : Int)) ∧ w'.cell? ⟨ab0, 3, none⟩ = some (Value.int .i64 ((J.op : Int) + 1)) ∧ w'.cell? ⟨ab0, 4, none⟩ = some (Value.int .i64 (J.first : Int)) ∧ w'.cell? ⟨ab0, 5, none⟩ = some (strV J.st)) (by kernel_rfl) ?hSt (fun hHeld => ?_)
 case hSt => exact HC4.out _ HB4.out
 refine ztk 0 rfl ?_
 refine ztk 1 rfl ?_
 refine ztk 2 rfl ?_
 refine ztk 3 rfl ?_
 refine ztk 4 rfl ?_
 refine ztk 5 rfl ?_
 refine ztk 6 rfl ?_
 refine ztk 7 rfl ?_
 refine ztk 8 rfl ?_
 refine ztk 9 rfl ?_
 refine ztk 10 rfl ?_
 refine ztk 11 rfl ?_
 refine zrd 12 rfl (fun K hK => ?_)
 go_simp
 rw [show ((J.op : Int) + 1) = ((J.op + 1 : Nat) : Int) by omega, bs_size, HSZ.out]
 refine (rhead_at J.gen (J.op + 1) J.first J.size (by have := HOP.out; omega) (by have := HOP.out; omega) (by have := HOP.out; omega) (by have := HOP.out; omega) _).mono ?_
 rintro e v5 ⟨rfl, hb5⟩
 obtain ⟨hd, hhd⟩ : ∃ x, x = headB J.gen (J.op + 1) J.first J.size := ⟨_, rfl⟩
 rw [← hhd]
 have HHD := Lib.hid hhd
 clear hhd
 have HG5 : Hid (v4.grownBy v5 none) := drew_then (Below.to_grown hb5)
 have HB5 : Hid (RJBlk v5 ab0 m { J with op := J.op + 1 } lv 0) := (HG5.out.block ab0 (Array.getElem?_eq_some_iff.1 HB4.out).1 (by simp)).trans HB4.out
 clear hb5
 go_wp2_with fail
 refine hK.out _ _ ?q (fun hHeld => ?_)
 case q => (try dsimp only); exact HC4.out _ HB5.out
 clear hK K
 try simp only [zpt]
 refine zrd 13 rfl (fun K hK => ?_)
 go_simp
 obtain ⟨v6, hv6⟩ : ∃ v, v = v5.alloc (.cells #[strV hd] 9) := ⟨_, rfl⟩
 rw [← hv6]
 have HV6 : Hid (v5.grownBy v6 none ∧ v5.heap.size < v6.heap.size ∧ StrRow v6 v5.heap.size (.slice (some ⟨v5.heap.size, 0, none⟩) 1 1) [strV hd]) := by rw [hv6]; exact ⟨World.grownBy_alloc v5 _ none, by rw [World.size_alloc]; omega, str_one v5 hd⟩
 clear hv6
 have HB6 : Hid (RJBlk v6 ab0 m { J with op := J.op + 1 } lv 0) := (HV6.out.1.block ab0 (Array.getElem?_eq_some_iff.1 HB5.out).1 (by simp)).trans HB5.out
 refine hK.out _ _ ?q (fun hHeld => ?_)
 case q => (try dsimp only); exact HC4.out _ HB6.out
 clear hK K
 try simp only [zpt]
 refine zrd 14 rfl (fun K hK => ?_)
 go_simp
 have HW6 : Hid (w.grownBy v6 none) := HW4.out.andThen (HG5.out.andThen HV6.out.1 (fun _ h => .inr h)) (fun _ h => .inr h)
 refine (rwrite_list (Beside S w.heap.size v6.heap.size) m D J.area 0 [hd] _ v5.heap.size v6 (HR.out.next (Off.of_grown HW6.out (S := fun _ => False) (by simp)) (fun _ _ _ q => q)) beside_new HV6.out.2.2 (fun g hg => by have e : g = v5.heap.size := (Option.some.inj hg).symm; rw [e]; exact beside_not (Nat.le_trans HW4.out.size HG5.out.size) HV6.out.2.1) HOP.out.2.2.2.2 (by omega) (fun l hl => by rw [List.mem_singleton.1 hl, HHD.out, headB_length]; decide) (by have := HWR.out; simp; omega)).mono ?_
 rw [writes_one, Nat.add_zero, HHD.out, wrote_live D HLIVE.out.1 HLIVE.out.2 (area_lt HOP.out.2.2.2.2 HN.out) (headB_length ..)]
 rintro e w7 ⟨rfl, hd7, ho7⟩
 have HD7 := Lib.hid hd7
 have HO7 := Lib.hid ho7
 have HB7 : Hid (RJBlk w7 ab0 m { J with op := J.op + 1 } lv 0) := (HO7.out.block ab0 (Array.getElem?_eq_some_iff.1 HB6.out).1 (beside_not HABW.out (Array.getElem?_eq_some_iff.1 HB6.out).1)).trans HB6.out
 clear hd7 ho7
 go_wp2_with fail
 refine hK.out _ _ ?q (fun hHeld => ?_)
 case q => (try dsimp only); exact HC4.out _ HB7.out
 clear hK K
 try simp only [zpt]
 refine ztk 15 rfl ?_
 refine wpAnyH_done (by kernel_rfl) ?_ _
 refine NoPanic.normal ?_
 clear hHeld
 go_wp2_with fail
 go_ret2
 refine ropen_done HW6.out HB6.out ?_ HABW.out HD7.out HO7.out (by rw [HCH.out]; rfl) (by rw [HCH.out]; rfl)
 exact Sec.row_off HR4.out (Off.of_grown (HG5.out.andThen HV6.out.1 (fun _ h => .inr h)) (S := fun _ => False) (by simp)) (fun _ _ q => q)
theorem ropen_c (J : Jn) (S : Nat → Prop) (m : Nat) (D : Dsk) (w : World) (h : RefAt w S m D) (hlt : ∀ b, S b → b < w.heap.size) (ho : D.off = false) (harm : D.armed = none) (hf : Full D) (hwr : D.wr.length + 10 < 1000000) (h4 : 4 ≤ D.n) (t0 : Tame D.now (0 * (D.n / 2)) (D.n / 2)) (t1 : Tame D.now (1 * (D.n / 2)) (D.n / 2)) (r0 r1 : Option Jn) (k0 : AreaIs D 0 r0) (k1 : AreaIs D 1 r1) (K : Jn) (h0 : r0 = some K) (h1 : r1 = some J) (hk : K.gen < J.gen) (hch : choose r0 r1 = some J) (hop : J.op + 1 ≤ 4611686018427387904 ∧ J.gen ≤ 4611686018427387904 ∧ J.first ≤ 4611686018427387904 ∧ J.size ≤ 1048576 ∧ J.area ≤ 1) (hsz : J.st.length = J.size) :
  Calls Tryz.prog 38 #[.pointer (some ⟨m, 0, none⟩)] w (ROpenEnd w S m D (choose r0 r1)) := by
 have HCH := Lib.hid hch
 have HOP := Lib.hid hop
 have HSZ := Lib.hid hsz
 have HR := Lib.hid h
 have HLT := Lib.hid hlt
 have HLIVE := Lib.hid (And.intro ho harm)
 have HF := Lib.hid hf
 have HWR := Lib.hid hwr
 have HN := Lib.hid h4
 have HT := Lib.hid (And.intro t0 t1)
 have HK := Lib.hid (And.intro k0 k1)
 obtain ⟨hn16, _, sb, sl, inn, hm, hSm, hb, hbS, hl, hlS, ha⟩ := h
 obtain ⟨A0, cap0, hsb, hc0, _⟩ := str_slice hb
 rw [tellV_length] at hsb hc0
 subst hsb
 have c0 : w.cell? ⟨m, 0, none⟩ = some (.slice A0 D.n cap0) := cell_blk hm 0
 have c4 : w.cell? ⟨m, 4, none⟩ = some (.bool false) := by rw [← ho]; exact cell_blk hm 4
 have d4 : decide ((D.n : Int) < 4) = false := by simp; omega
 have d4b : decide (D.n < 4) = false := by simp; omega
 clear hm hSm hb hbS hl hlS ha hc0 hlt ho harm hf hwr h4 t0 t1 k0 k1 hch hop hsz
 go_enter Tryz.func38, Tryz.ntmps38
 go_wp2_with fail
 refine (rarea_is0 S m D r0 w HR.out HLIVE.out.1 HF.out HN.out HT.out.1 HK.out.1).mono ?_
 rintro e w0 ⟨p0, i01, i02, i03, i04, s0, A0, n0, c0, i07, i08, rfl, hb0, hj0⟩
 have HJ0 := Lib.hid hj0
 have HB0 := Lib.hid hb0
 clear hb0 hj0
 go_upto_region 6 with fail
 obtain ⟨v0, hv0⟩ : ∃ v, v = w0.alloc (.cells #[.pointer p0, .int .i64 i01, .int .i64 i02, .int .i64 i03, .int .i64 i04, .string s0, .slice A0 n0 c0, .int .i64 i07, .int .i64 i08] 101) := ⟨_, rfl⟩
 have HV0 : Hid (v0.heap[w0.heap.size]? = some (.cells #[.pointer p0, .int .i64 i01, .int .i64 i02, .int .i64 i03, .int .i64 i04, .string s0, .slice A0 n0 c0, .int .i64 i07, .int .i64 i08] 101) ∧ w0.grownBy v0 none ∧ w0.heap.size < v0.heap.size) := by rw [hv0]; exact ⟨(MapKept.heap_alloc w0 _).1, World.grownBy_alloc w0 _ none, by rw [World.size_alloc]; omega⟩
 rw [← hv0]
 clear hv0
 obtain ⟨ab0, hab0⟩ : ∃ a, a = w0.heap.size := ⟨_, rfl⟩
 rw [← hab0] at HV0 ⊢
 have HAB0 := Lib.hid hab0
 clear hab0
 have G0 : Hid (w.grownBy v0 none) := (Below.to_grown HB0.out).andThen HV0.out.2.1 (fun _ h => .inr h)
 go_wp2_with fail
 refine (rarea_is1 S m D r1 v0 (HR.out.grown G0.out) HLIVE.out.1 HF.out HN.out HT.out.2 HK.out.2).mono ?_
 rintro e w1 ⟨p1, i11, i12, i13, i14, s1, A1, n1, c1, i17, i18, rfl, hb1, hj1⟩
 have HJ1 := Lib.hid hj1
 have HB1 := Lib.hid hb1
 clear hb1 hj1
 go_upto_region 7 with fail
 obtain ⟨v1, hv1⟩ : ∃ v, v = w1.alloc (.cells #[.pointer p1, .int .i64 i11, .int .i64 i12, .int .i64 i13, .int .i64 i14, .string s1, .slice A1 n1 c1, .int .i64 i17, .int .i64 i18] 101) := ⟨_, rfl⟩
 have HV1 : Hid (v1.heap[w1.heap.size]? = some (.cells #[.pointer p1, .int .i64 i11, .int .i64 i12, .int .i64 i13, .int .i64 i14, .string s1, .slice A1 n1 c1, .int .i64 i17, .int .i64 i18] 101) ∧ w1.grownBy v1 none ∧ w1.heap.size < v1.heap.size) := by rw [hv1]; exact ⟨(MapKept.heap_alloc w1 _).1, World.grownBy_alloc w1 _ none, by rw [World.size_alloc]; omega⟩
 rw [← hv1]
 clear hv1
 obtain ⟨ab1, hab1⟩ : ∃ a, a = w1.heap.size := ⟨_, rfl⟩
 rw [← hab1] at HV1 ⊢
 have HAB1 := Lib.hid hab1
 clear hab1
 have G1 : Hid (w.grownBy v1 none) := G0.out.andThen ((Below.to_grown HB1.out).andThen HV1.out.2.1 (fun _ h => .inr h)) (fun _ h => .inr h)
 subst h0 h1
 obtain ⟨e0, e1, e2, e3, e4, e5, hrow, e7, e8⟩ := HJ0.out K rfl
 subst e0 e1 e2 e3 e4 e5 e7 e8
 obtain ⟨g0, g1, g2, g3, g4, g5, growk, g7, g8⟩ := HJ1.out J rfl
 subst g0 g1 g2 g3 g4 g5 g7 g8
 have k1 : v1.cell? ⟨ab1, 2, none⟩ = some (.int .i64 (J.gen : Int)) := cell_blk HV1.out.1 2
 have k0 : v1.cell? ⟨ab0, 2, none⟩ = some (.int .i64 (K.gen : Int)) := cell_blk (((Below.to_grown HB1.out).andThen HV1.out.2.1 (fun _ h => .inr h)).block ab0 HV0.out.2.2 (by simp) |>.trans HV0.out.1) 2
 have dk : decide ((K.gen : Int) < (J.gen : Int)) = true := by simp; omega
 have dk2 : decide (K.gen < J.gen) = true := by simp; omega
 clear hk k0 k1 hrow
 have HA0 := Lib.hid (((Below.to_grown HB1.out).andThen HV1.out.2.1 (fun _ h => .inr h)).block ab0 HV0.out.2.2 (by simp) |>.trans HV0.out.1)
 have q0 : v1.cell? ⟨ab1, 0, none⟩ = some (.pointer (some ⟨m, 0, none⟩)) := cell_blk HV1.out.1 0
 have q1 : v1.cell? ⟨ab1, 1, none⟩ = some (.int .i64 (J.area : Int)) := cell_blk HV1.out.1 1
 have q2 : v1.cell? ⟨ab1, 2, none⟩ = some (.int .i64 (J.gen : Int)) := cell_blk HV1.out.1 2
 have q3 : v1.cell? ⟨ab1, 3, none⟩ = some (.int .i64 (J.op : Int)) := cell_blk HV1.out.1 3
 have q4 : v1.cell? ⟨ab1, 4, none⟩ = some (.int .i64 (J.first : Int)) := cell_blk HV1.out.1 4
 have q5 : v1.cell? ⟨ab1, 5, none⟩ = some (strV J.st) := cell_blk HV1.out.1 5
 have q6 : v1.cell? ⟨ab1, 6, none⟩ = some (.slice A1 n1 c1) := cell_blk HV1.out.1 6
 have q7 : v1.cell? ⟨ab1, 7, none⟩ = some (.int .i64 (J.used : Int)) := cell_blk HV1.out.1 7
 have q8 : v1.cell? ⟨ab1, 8, none⟩ = some (.int .i64 0) := cell_blk HV1.out.1 8
 have z0 : v1.cell? ⟨ab0, 0, none⟩ = some (.pointer (some ⟨m, 0, none⟩)) := cell_blk HA0.out 0
 have z1 : v1.cell? ⟨ab0, 1, none⟩ = some (.int .i64 (K.area : Int)) := cell_blk HA0.out 1
 have z2 : v1.cell? ⟨ab0, 2, none⟩ = some (.int .i64 (K.gen : Int)) := cell_blk HA0.out 2
 have z3 : v1.cell? ⟨ab0, 3, none⟩ = some (.int .i64 (K.op : Int)) := cell_blk HA0.out 3
 have z4 : v1.cell? ⟨ab0, 4, none⟩ = some (.int .i64 (K.first : Int)) := cell_blk HA0.out 4
 have z5 : v1.cell? ⟨ab0, 5, none⟩ = some (strV K.st) := cell_blk HA0.out 5
 have z6 : v1.cell? ⟨ab0, 6, none⟩ = some (.slice A0 n0 c0) := cell_blk HA0.out 6
 have z7 : v1.cell? ⟨ab0, 7, none⟩ = some (.int .i64 (K.used : Int)) := cell_blk HA0.out 7
 have z8 : v1.cell? ⟨ab0, 8, none⟩ = some (.int .i64 0) := cell_blk HA0.out 8
 have zf := fun j => frozen_blk HA0.out j
 go_upto_region 19 with fail
 obtain ⟨v3, hv3⟩ : ∃ v, v = putR9 v1 ab0 (.pointer (some ⟨m, 0, none⟩)) (.int .i64 (J.area : Int)) (.int .i64 (J.gen : Int)) (.int .i64 (J.op : Int)) (.int .i64 (J.first : Int)) (strV J.st) (.slice A1 n1 c1) (.int .i64 (J.used : Int)) (.int .i64 0) := ⟨_, rfl⟩
 have hp := put9 (.pointer (some ⟨m, 0, none⟩)) (.int .i64 (J.area : Int)) (.int .i64 (J.gen : Int)) (.int .i64 (J.op : Int)) (.int .i64 (J.first : Int)) (strV J.st) (.slice A1 n1 c1) (.int .i64 (J.used : Int)) (.int .i64 0) HA0.out
 rw [← hv3] at hp
 unfold putR9 putP at hv3
 rw [← hv3]
 clear hv3 q0 z0 q1 z1 q2 z2 q3 z3 q4 z4 q5 z5 q6 z6 q7 z7 q8 z8 zf
 have HB3 : Hid (RJBlk v3 ab0 m J (.slice A1 n1 c1) 0) := hp.1
 have HP3 := Lib.hid hp.2
 have HABW : Hid (w.heap.size ≤ ab0) := by rw [HAB0.out]; exact HB0.out.size
 have HR3a : Hid (StrRow v1 w.heap.size (.slice A1 n1 c1) (recV J)) := row_less (Sec.row_off growk (Off.of_grown HV1.out.2.1 (S := fun _ => False) (by simp)) (fun _ _ q => q)) G0.out.size
 have HR3 : Hid (StrRow v3 w.heap.size (.slice A1 n1 c1) (recV J)) := Sec.row_off HR3a.out (Off.of_grown HP3.out (S := fun b => b = ab0) (fun k e => by cases e; rfl)) (fun g hg e => row_ne_blk HR3a.out HA0.out (by decide) (e ▸ hg))
 have HG3 : Hid (w.grownBy v3 none) := Below.to_grown ((grown_below0 G1.out (Nat.le_refl _)).trans (grown_below HP3.out HABW.out G1.out.size))
 obtain ⟨lv, hlv⟩ : ∃ l, l = Value.slice A1 n1 c1 := ⟨_, rfl⟩
 rw [← hlv] at HB3 HR3
 clear hlv hp growk HA0 HP3 HR3a
 clear dk dk2
 have c3 : v3.cell? ⟨ab0, 3, none⟩ = some (.int .i64 (J.op : Int)) := cell_blk HB3.out 3
 have f3 : v3.frozen? ⟨ab0, 3, none⟩ = false := frozen_blk HB3.out 3
 have d3 : decide ((J.op : Int) < 4611686018427387904) = true := by have := (HOP.out).1; simp; omega
 have n1 : IntKind.i64.wrap ((J.op : Int) + 1) = (J.op : Int) + 1 := by have := (HOP.out).1; rw [IntKind.wrap_i64]; omega
 have w1' : (0 : Int) ≤ (J.op : Int) + 1 := by omega
 have w2' : (J.op : Int) + 1 ≤ 4611686018427387904 := by have := (HOP.out).1; omega
 go_upto_region 21 with fail
 have HB4 := Lib.hid (rjblk_op HB3.out)
 have HG4 := Lib.hid (grown_set v3 ab0 3 (.int .i64 ((J.op : Int) + 1)))
 obtain ⟨v4, hv4⟩ : ∃ v, v = v3.setCell ⟨ab0, 3, none⟩ (.int .i64 ((J.op : Int) + 1)) := ⟨_, rfl⟩
 rw [← hv4] at HB4 HG4 ⊢
 have HR4 : Hid (StrRow v4 w.heap.size lv (recV J)) := Sec.row_off HR3.out (Off.of_grown HG4.out (S := fun b => b = ab0) (fun k e => by cases e; rfl)) (fun g hg e => row_ne_blk HR3.out HB3.out (by decide) (e ▸ hg))
 have HW4 : Hid (w.grownBy v4 none) := Below.to_grown ((grown_below0 HG3.out (Nat.le_refl _)).trans (grown_below HG4.out HABW.out HG3.out.size))
 have HC4 : Hid (∀ v : World, RJBlk v ab0 m { J with op := J.op + 1 } lv 0 → v.cell? ⟨ab0, 1, none⟩ = some (Value.int .i64 (J.area : Int)) ∧ v.cell? ⟨ab0, 2, none⟩ = some (Value.int .i64 (J.gen : Int)) ∧ v.cell? ⟨ab0, 3, none⟩ = some (Value.int .i64 ((J.op : Int) + 1)) ∧ v.cell? ⟨ab0, 4, none⟩ = some (Value.int .i64 (J.first : Int)) ∧ v.cell? ⟨ab0, 5, none⟩ = some (strV J.st)) := fun v hb => ⟨hb.cell 1, hb.cell 2, by rw [show ((J.op : Int) + 1) = ((J.op + 1 : Nat) : Int) by omega]; exact hb.cell 3, hb.cell 4, hb.cell 5⟩
 clear c3 f3 d3 hv4
 refine wp_region_noPanic ?_
 refine wp_region_held_drew (S := fun w' => w'.cell? ⟨ab0, 1, none⟩ = some (Value.int .i64 (J.area : Int)) ∧ w'.cell? ⟨ab0, 2, none⟩ = some (Value.int .i64 (J.gen : Int)) ∧ w'.cell? ⟨ab0, 3, none⟩ = some (Value.int .i64 ((J.op : Int) + 1)) ∧ w'.cell? ⟨ab0, 4, none⟩ = some (Value.int .i64 (J.first : Int)) ∧ w'.cell? ⟨ab0, 5, none⟩ = some (strV J.st)) (by kernel_rfl) ?hSt (fun hHeld => ?_)
 case hSt => exact HC4.out _ HB4.out
 refine ztk 0 rfl ?_
 refine ztk 1 rfl ?_
 refine ztk 2 rfl ?_
 refine ztk 3 rfl ?_
 refine ztk 4 rfl ?_
 refine ztk 5 rfl ?_
 refine ztk 6 rfl ?_
 refine ztk 7 rfl ?_
 refine ztk 8 rfl ?_
 refine ztk 9 rfl ?_
 refine ztk 10 rfl ?_
 refine ztk 11 rfl ?_
 refine zrd 12 rfl (fun K hK => ?_)
 go_simp
 rw [show ((J.op : Int) + 1) = ((J.op + 1 : Nat) : Int) by omega, bs_size, HSZ.out]
 refine (rhead_at J.gen (J.op + 1) J.first J.size (by have := HOP.out; omega) (by have := HOP.out; omega) (by have := HOP.out; omega) (by have := HOP.out; omega) _).mono ?_
 rintro e v5 ⟨rfl, hb5⟩
 obtain ⟨hd, hhd⟩ : ∃ x, x = headB J.gen (J.op + 1) J.first J.size := ⟨_, rfl⟩
 rw [← hhd]
 have HHD := Lib.hid hhd
 clear hhd
 have HG5 : Hid (v4.grownBy v5 none) := drew_then (Below.to_grown hb5)
 have HB5 : Hid (RJBlk v5 ab0 m { J with op := J.op + 1 } lv 0) := (HG5.out.block ab0 (Array.getElem?_eq_some_iff.1 HB4.out).1 (by simp)).trans HB4.out
 clear hb5
 go_wp2_with fail
 refine hK.out _ _ ?q (fun hHeld => ?_)
 case q => (try dsimp only); exact HC4.out _ HB5.out
 clear hK K
 try simp only [zpt]
 refine zrd 13 rfl (fun K hK => ?_)
 go_simp
 obtain ⟨v6, hv6⟩ : ∃ v, v = v5.alloc (.cells #[strV hd] 9) := ⟨_, rfl⟩
 rw [← hv6]
 have HV6 : Hid (v5.grownBy v6 none ∧ v5.heap.size < v6.heap.size ∧ StrRow v6 v5.heap.size (.slice (some ⟨v5.heap.size, 0, none⟩) 1 1) [strV hd]) := by rw [hv6]; exact ⟨World.grownBy_alloc v5 _ none, by rw [World.size_alloc]; omega, str_one v5 hd⟩
 clear hv6
 have HB6 : Hid (RJBlk v6 ab0 m { J with op := J.op + 1 } lv 0) := (HV6.out.1.block ab0 (Array.getElem?_eq_some_iff.1 HB5.out).1 (by simp)).trans HB5.out
 refine hK.out _ _ ?q (fun hHeld => ?_)
 case q => (try dsimp only); exact HC4.out _ HB6.out
 clear hK K
 try simp only [zpt]
 refine zrd 14 rfl (fun K hK => ?_)
 go_simp
 have HW6 : Hid (w.grownBy v6 none) := HW4.out.andThen (HG5.out.andThen HV6.out.1 (fun _ h => .inr h)) (fun _ h => .inr h)
 refine (rwrite_list (Beside S w.heap.size v6.heap.size) m D J.area 0 [hd] _ v5.heap.size v6 (HR.out.next (Off.of_grown HW6.out (S := fun _ => False) (by simp)) (fun _ _ _ q => q)) beside_new HV6.out.2.2 (fun g hg => by have e : g = v5.heap.size := (Option.some.inj hg).symm; rw [e]; exact beside_not (Nat.le_trans HW4.out.size HG5.out.size) HV6.out.2.1) HOP.out.2.2.2.2 (by omega) (fun l hl => by rw [List.mem_singleton.1 hl, HHD.out, headB_length]; decide) (by have := HWR.out; simp; omega)).mono ?_
 rw [writes_one, Nat.add_zero, HHD.out, wrote_live D HLIVE.out.1 HLIVE.out.2 (area_lt HOP.out.2.2.2.2 HN.out) (headB_length ..)]
 rintro e w7 ⟨rfl, hd7, ho7⟩
 have HD7 := Lib.hid hd7
 have HO7 := Lib.hid ho7
 have HB7 : Hid (RJBlk w7 ab0 m { J with op := J.op + 1 } lv 0) := (HO7.out.block ab0 (Array.getElem?_eq_some_iff.1 HB6.out).1 (beside_not HABW.out (Array.getElem?_eq_some_iff.1 HB6.out).1)).trans HB6.out
 clear hd7 ho7
 go_wp2_with fail
 refine hK.out _ _ ?q (fun hHeld => ?_)
 case q => (try dsimp only); exact HC4.out _ HB7.out
 clear hK K
 try simp only [zpt]
 refine ztk 15 rfl ?_
 refine wpAnyH_done (by kernel_rfl) ?_ _
 refine NoPanic.normal ?_
 clear hHeld
 go_wp2_with fail
 go_ret2
 refine ropen_done HW6.out HB6.out ?_ HABW.out HD7.out HO7.out (by rw [HCH.out]; rfl) (by rw [HCH.out]; rfl)
 exact Sec.row_off HR4.out (Off.of_grown (HG5.out.andThen HV6.out.1 (fun _ h => .inr h)) (S := fun _ => False) (by simp)) (fun _ _ q => q)
theorem ropen_d (J : Jn) (S : Nat → Prop) (m : Nat) (D : Dsk) (w : World) (h : RefAt w S m D) (hlt : ∀ b, S b → b < w.heap.size) (ho : D.off = false) (harm : D.armed = none) (hf : Full D) (hwr : D.wr.length + 10 < 1000000) (h4 : 4 ≤ D.n) (t0 : Tame D.now (0 * (D.n / 2)) (D.n / 2)) (t1 : Tame D.now (1 * (D.n / 2)) (D.n / 2)) (r0 r1 : Option Jn) (k0 : AreaIs D 0 r0) (k1 : AreaIs D 1 r1) (h0 : r0 = none) (h1 : r1 = some J) (hch : choose r0 r1 = some J) (hop : J.op + 1 ≤ 4611686018427387904 ∧ J.gen ≤ 4611686018427387904 ∧ J.first ≤ 4611686018427387904 ∧ J.size ≤ 1048576 ∧ J.area ≤ 1) (hsz : J.st.length = J.size) :
  Calls Tryz.prog 38 #[.pointer (some ⟨m, 0, none⟩)] w (ROpenEnd w S m D (choose r0 r1)) := by
 have HCH := Lib.hid hch
 have HOP := Lib.hid hop
 have HSZ := Lib.hid hsz
 have HR := Lib.hid h
 have HLT := Lib.hid hlt
 have HLIVE := Lib.hid (And.intro ho harm)
 have HF := Lib.hid hf
 have HWR := Lib.hid hwr
 have HN := Lib.hid h4
 have HT := Lib.hid (And.intro t0 t1)
 have HK := Lib.hid (And.intro k0 k1)
 obtain ⟨hn16, _, sb, sl, inn, hm, hSm, hb, hbS, hl, hlS, ha⟩ := h
 obtain ⟨A0, cap0, hsb, hc0, _⟩ := str_slice hb
 rw [tellV_length] at hsb hc0
 subst hsb
 have c0 : w.cell? ⟨m, 0, none⟩ = some (.slice A0 D.n cap0) := cell_blk hm 0
 have c4 : w.cell? ⟨m, 4, none⟩ = some (.bool false) := by rw [← ho]; exact cell_blk hm 4
 have d4 : decide ((D.n : Int) < 4) = false := by simp; omega
 have d4b : decide (D.n < 4) = false := by simp; omega
 clear hm hSm hb hbS hl hlS ha hc0 hlt ho harm hf hwr h4 t0 t1 k0 k1 hch hop hsz
 go_enter Tryz.func38, Tryz.ntmps38
 go_wp2_with fail
 refine (rarea_is0 S m D r0 w HR.out HLIVE.out.1 HF.out HN.out HT.out.1 HK.out.1).mono ?_
 rintro e w0 ⟨p0, i01, i02, i03, i04, s0, A0, n0, c0, i07, i08, rfl, hb0, hj0⟩
 have HJ0 := Lib.hid hj0
 have HB0 := Lib.hid hb0
 clear hb0 hj0
 go_upto_region 6 with fail
 obtain ⟨v0, hv0⟩ : ∃ v, v = w0.alloc (.cells #[.pointer p0, .int .i64 i01, .int .i64 i02, .int .i64 i03, .int .i64 i04, .string s0, .slice A0 n0 c0, .int .i64 i07, .int .i64 i08] 101) := ⟨_, rfl⟩
 have HV0 : Hid (v0.heap[w0.heap.size]? = some (.cells #[.pointer p0, .int .i64 i01, .int .i64 i02, .int .i64 i03, .int .i64 i04, .string s0, .slice A0 n0 c0, .int .i64 i07, .int .i64 i08] 101) ∧ w0.grownBy v0 none ∧ w0.heap.size < v0.heap.size) := by rw [hv0]; exact ⟨(MapKept.heap_alloc w0 _).1, World.grownBy_alloc w0 _ none, by rw [World.size_alloc]; omega⟩
 rw [← hv0]
 clear hv0
 obtain ⟨ab0, hab0⟩ : ∃ a, a = w0.heap.size := ⟨_, rfl⟩
 rw [← hab0] at HV0 ⊢
 have HAB0 := Lib.hid hab0
 clear hab0
 have G0 : Hid (w.grownBy v0 none) := (Below.to_grown HB0.out).andThen HV0.out.2.1 (fun _ h => .inr h)
 go_wp2_with fail
 refine (rarea_is1 S m D r1 v0 (HR.out.grown G0.out) HLIVE.out.1 HF.out HN.out HT.out.2 HK.out.2).mono ?_
 rintro e w1 ⟨p1, i11, i12, i13, i14, s1, A1, n1, c1, i17, i18, rfl, hb1, hj1⟩
 have HJ1 := Lib.hid hj1
 have HB1 := Lib.hid hb1
 clear hb1 hj1
 go_upto_region 7 with fail
 obtain ⟨v1, hv1⟩ : ∃ v, v = w1.alloc (.cells #[.pointer p1, .int .i64 i11, .int .i64 i12, .int .i64 i13, .int .i64 i14, .string s1, .slice A1 n1 c1, .int .i64 i17, .int .i64 i18] 101) := ⟨_, rfl⟩
 have HV1 : Hid (v1.heap[w1.heap.size]? = some (.cells #[.pointer p1, .int .i64 i11, .int .i64 i12, .int .i64 i13, .int .i64 i14, .string s1, .slice A1 n1 c1, .int .i64 i17, .int .i64 i18] 101) ∧ w1.grownBy v1 none ∧ w1.heap.size < v1.heap.size) := by rw [hv1]; exact ⟨(MapKept.heap_alloc w1 _).1, World.grownBy_alloc w1 _ none, by rw [World.size_alloc]; omega⟩
 rw [← hv1]
 clear hv1
 obtain ⟨ab1, hab1⟩ : ∃ a, a = w1.heap.size := ⟨_, rfl⟩
 rw [← hab1] at HV1 ⊢
 have HAB1 := Lib.hid hab1
 clear hab1
 have G1 : Hid (w.grownBy v1 none) := G0.out.andThen ((Below.to_grown HB1.out).andThen HV1.out.2.1 (fun _ h => .inr h)) (fun _ h => .inr h)
 subst h0 h1
 obtain ⟨g0, g1, g2, g3, g4, g5, growk, g7, g8⟩ := HJ1.out J rfl
 subst g0 g1 g2 g3 g4 g5 g7 g8
 have HA0 := Lib.hid (((Below.to_grown HB1.out).andThen HV1.out.2.1 (fun _ h => .inr h)).block ab0 HV0.out.2.2 (by simp) |>.trans HV0.out.1)
 have q0 : v1.cell? ⟨ab1, 0, none⟩ = some (.pointer (some ⟨m, 0, none⟩)) := cell_blk HV1.out.1 0
 have q1 : v1.cell? ⟨ab1, 1, none⟩ = some (.int .i64 (J.area : Int)) := cell_blk HV1.out.1 1
 have q2 : v1.cell? ⟨ab1, 2, none⟩ = some (.int .i64 (J.gen : Int)) := cell_blk HV1.out.1 2
 have q3 : v1.cell? ⟨ab1, 3, none⟩ = some (.int .i64 (J.op : Int)) := cell_blk HV1.out.1 3
 have q4 : v1.cell? ⟨ab1, 4, none⟩ = some (.int .i64 (J.first : Int)) := cell_blk HV1.out.1 4
 have q5 : v1.cell? ⟨ab1, 5, none⟩ = some (strV J.st) := cell_blk HV1.out.1 5
 have q6 : v1.cell? ⟨ab1, 6, none⟩ = some (.slice A1 n1 c1) := cell_blk HV1.out.1 6
 have q7 : v1.cell? ⟨ab1, 7, none⟩ = some (.int .i64 (J.used : Int)) := cell_blk HV1.out.1 7
 have q8 : v1.cell? ⟨ab1, 8, none⟩ = some (.int .i64 0) := cell_blk HV1.out.1 8
 have z0 : v1.cell? ⟨ab0, 0, none⟩ = some (.pointer p0) := cell_blk HA0.out 0
 have z1 : v1.cell? ⟨ab0, 1, none⟩ = some (.int .i64 i01) := cell_blk HA0.out 1
 have z2 : v1.cell? ⟨ab0, 2, none⟩ = some (.int .i64 i02) := cell_blk HA0.out 2
 have z3 : v1.cell? ⟨ab0, 3, none⟩ = some (.int .i64 i03) := cell_blk HA0.out 3
 have z4 : v1.cell? ⟨ab0, 4, none⟩ = some (.int .i64 i04) := cell_blk HA0.out 4
 have z5 : v1.cell? ⟨ab0, 5, none⟩ = some (.string s0) := cell_blk HA0.out 5
 have z6 : v1.cell? ⟨ab0, 6, none⟩ = some (.slice A0 n0 c0) := cell_blk HA0.out 6
 have z7 : v1.cell? ⟨ab0, 7, none⟩ = some (.int .i64 i07) := cell_blk HA0.out 7
 have z8 : v1.cell? ⟨ab0, 8, none⟩ = some (.int .i64 i08) := cell_blk HA0.out 8
 have zf := fun j => frozen_blk HA0.out j
 go_upto_region 19 with fail
 obtain ⟨v3, hv3⟩ : ∃ v, v = putR9 v1 ab0 (.pointer (some ⟨m, 0, none⟩)) (.int .i64 (J.area : Int)) (.int .i64 (J.gen : Int)) (.int .i64 (J.op : Int)) (.int .i64 (J.first : Int)) (strV J.st) (.slice A1 n1 c1) (.int .i64 (J.used : Int)) (.int .i64 0) := ⟨_, rfl⟩
 have hp := put9 (.pointer (some ⟨m, 0, none⟩)) (.int .i64 (J.area : Int)) (.int .i64 (J.gen : Int)) (.int .i64 (J.op : Int)) (.int .i64 (J.first : Int)) (strV J.st) (.slice A1 n1 c1) (.int .i64 (J.used : Int)) (.int .i64 0) HA0.out
 rw [← hv3] at hp
 unfold putR9 putP at hv3
 rw [← hv3]
 clear hv3 q0 z0 q1 z1 q2 z2 q3 z3 q4 z4 q5 z5 q6 z6 q7 z7 q8 z8 zf
 have HB3 : Hid (RJBlk v3 ab0 m J (.slice A1 n1 c1) 0) := hp.1
 have HP3 := Lib.hid hp.2
 have HABW : Hid (w.heap.size ≤ ab0) := by rw [HAB0.out]; exact HB0.out.size
 have HR3a : Hid (StrRow v1 w.heap.size (.slice A1 n1 c1) (recV J)) := row_less (Sec.row_off growk (Off.of_grown HV1.out.2.1 (S := fun _ => False) (by simp)) (fun _ _ q => q)) G0.out.size
 have HR3 : Hid (StrRow v3 w.heap.size (.slice A1 n1 c1) (recV J)) := Sec.row_off HR3a.out (Off.of_grown HP3.out (S := fun b => b = ab0) (fun k e => by cases e; rfl)) (fun g hg e => row_ne_blk HR3a.out HA0.out (by decide) (e ▸ hg))
 have HG3 : Hid (w.grownBy v3 none) := Below.to_grown ((grown_below0 G1.out (Nat.le_refl _)).trans (grown_below HP3.out HABW.out G1.out.size))
 obtain ⟨lv, hlv⟩ : ∃ l, l = Value.slice A1 n1 c1 := ⟨_, rfl⟩
 rw [← hlv] at HB3 HR3
 clear hlv hp growk HA0 HP3 HR3a
 have c3 : v3.cell? ⟨ab0, 3, none⟩ = some (.int .i64 (J.op : Int)) := cell_blk HB3.out 3
 have f3 : v3.frozen? ⟨ab0, 3, none⟩ = false := frozen_blk HB3.out 3
 have d3 : decide ((J.op : Int) < 4611686018427387904) = true := by have := (HOP.out).1; simp; omega
 have n1 : IntKind.i64.wrap ((J.op : Int) + 1) = (J.op : Int) + 1 := by have := (HOP.out).1; rw [IntKind.wrap_i64]; omega
 have w1' : (0 : Int) ≤ (J.op : Int) + 1 := by omega
 have w2' : (J.op : Int) + 1 ≤ 4611686018427387904 := by have := (HOP.out).1; omega
 go_upto_region 21 with fail
 have HB4 := Lib.hid (rjblk_op HB3.out)
 have HG4 := Lib.hid (grown_set v3 ab0 3 (.int .i64 ((J.op : Int) + 1)))
 obtain ⟨v4, hv4⟩ : ∃ v, v = v3.setCell ⟨ab0, 3, none⟩ (.int .i64 ((J.op : Int) + 1)) := ⟨_, rfl⟩
 rw [← hv4] at HB4 HG4 ⊢
 have HR4 : Hid (StrRow v4 w.heap.size lv (recV J)) := Sec.row_off HR3.out (Off.of_grown HG4.out (S := fun b => b = ab0) (fun k e => by cases e; rfl)) (fun g hg e => row_ne_blk HR3.out HB3.out (by decide) (e ▸ hg))
 have HW4 : Hid (w.grownBy v4 none) := Below.to_grown ((grown_below0 HG3.out (Nat.le_refl _)).trans (grown_below HG4.out HABW.out HG3.out.size))
 have HC4 : Hid (∀ v : World, RJBlk v ab0 m { J with op := J.op + 1 } lv 0 → v.cell? ⟨ab0, 1, none⟩ = some (Value.int .i64 (J.area : Int)) ∧ v.cell? ⟨ab0, 2, none⟩ = some (Value.int .i64 (J.gen : Int)) ∧ v.cell? ⟨ab0, 3, none⟩ = some (Value.int .i64 ((J.op : Int) + 1)) ∧ v.cell? ⟨ab0, 4, none⟩ = some (Value.int .i64 (J.first : Int)) ∧ v.cell? ⟨ab0, 5, none⟩ = some (strV J.st)) := fun v hb => ⟨hb.cell 1, hb.cell 2, by rw [show ((J.op : Int) + 1) = ((J.op + 1 : Nat) : Int) by omega]; exact hb.cell 3, hb.cell 4, hb.cell 5⟩
 clear c3 f3 d3 hv4
 refine wp_region_noPanic ?_
 refine wp_region_held_drew (S := fun w' => w'.cell? ⟨ab0, 1, none⟩ = some (Value.int .i64 (J.area : Int)) ∧ w'.cell? ⟨ab0, 2, none⟩ = some (Value.int .i64 (J.gen : Int)) ∧ w'.cell? ⟨ab0, 3, none⟩ = some (Value.int .i64 ((J.op : Int) + 1)) ∧ w'.cell? ⟨ab0, 4, none⟩ = some (Value.int .i64 (J.first : Int)) ∧ w'.cell? ⟨ab0, 5, none⟩ = some (strV J.st)) (by kernel_rfl) ?hSt (fun hHeld => ?_)
 case hSt => exact HC4.out _ HB4.out
 refine ztk 0 rfl ?_
 refine ztk 1 rfl ?_
 refine ztk 2 rfl ?_
 refine ztk 3 rfl ?_
 refine ztk 4 rfl ?_
 refine ztk 5 rfl ?_
 refine ztk 6 rfl ?_
 refine ztk 7 rfl ?_
 refine ztk 8 rfl ?_
 refine ztk 9 rfl ?_
 refine ztk 10 rfl ?_
 refine ztk 11 rfl ?_
 refine zrd 12 rfl (fun K hK => ?_)
 go_simp
 rw [show ((J.op : Int) + 1) = ((J.op + 1 : Nat) : Int) by omega, bs_size, HSZ.out]
 refine (rhead_at J.gen (J.op + 1) J.first J.size (by have := HOP.out; omega) (by have := HOP.out; omega) (by have := HOP.out; omega) (by have := HOP.out; omega) _).mono ?_
 rintro e v5 ⟨rfl, hb5⟩
 obtain ⟨hd, hhd⟩ : ∃ x, x = headB J.gen (J.op + 1) J.first J.size := ⟨_, rfl⟩
 rw [← hhd]
 have HHD := Lib.hid hhd
 clear hhd
 have HG5 : Hid (v4.grownBy v5 none) := drew_then (Below.to_grown hb5)
 have HB5 : Hid (RJBlk v5 ab0 m { J with op := J.op + 1 } lv 0) := (HG5.out.block ab0 (Array.getElem?_eq_some_iff.1 HB4.out).1 (by simp)).trans HB4.out
 clear hb5
 go_wp2_with fail
 refine hK.out _ _ ?q (fun hHeld => ?_)
 case q => (try dsimp only); exact HC4.out _ HB5.out
 clear hK K
 try simp only [zpt]
 refine zrd 13 rfl (fun K hK => ?_)
 go_simp
 obtain ⟨v6, hv6⟩ : ∃ v, v = v5.alloc (.cells #[strV hd] 9) := ⟨_, rfl⟩
 rw [← hv6]
 have HV6 : Hid (v5.grownBy v6 none ∧ v5.heap.size < v6.heap.size ∧ StrRow v6 v5.heap.size (.slice (some ⟨v5.heap.size, 0, none⟩) 1 1) [strV hd]) := by rw [hv6]; exact ⟨World.grownBy_alloc v5 _ none, by rw [World.size_alloc]; omega, str_one v5 hd⟩
 clear hv6
 have HB6 : Hid (RJBlk v6 ab0 m { J with op := J.op + 1 } lv 0) := (HV6.out.1.block ab0 (Array.getElem?_eq_some_iff.1 HB5.out).1 (by simp)).trans HB5.out
 refine hK.out _ _ ?q (fun hHeld => ?_)
 case q => (try dsimp only); exact HC4.out _ HB6.out
 clear hK K
 try simp only [zpt]
 refine zrd 14 rfl (fun K hK => ?_)
 go_simp
 have HW6 : Hid (w.grownBy v6 none) := HW4.out.andThen (HG5.out.andThen HV6.out.1 (fun _ h => .inr h)) (fun _ h => .inr h)
 refine (rwrite_list (Beside S w.heap.size v6.heap.size) m D J.area 0 [hd] _ v5.heap.size v6 (HR.out.next (Off.of_grown HW6.out (S := fun _ => False) (by simp)) (fun _ _ _ q => q)) beside_new HV6.out.2.2 (fun g hg => by have e : g = v5.heap.size := (Option.some.inj hg).symm; rw [e]; exact beside_not (Nat.le_trans HW4.out.size HG5.out.size) HV6.out.2.1) HOP.out.2.2.2.2 (by omega) (fun l hl => by rw [List.mem_singleton.1 hl, HHD.out, headB_length]; decide) (by have := HWR.out; simp; omega)).mono ?_
 rw [writes_one, Nat.add_zero, HHD.out, wrote_live D HLIVE.out.1 HLIVE.out.2 (area_lt HOP.out.2.2.2.2 HN.out) (headB_length ..)]
 rintro e w7 ⟨rfl, hd7, ho7⟩
 have HD7 := Lib.hid hd7
 have HO7 := Lib.hid ho7
 have HB7 : Hid (RJBlk w7 ab0 m { J with op := J.op + 1 } lv 0) := (HO7.out.block ab0 (Array.getElem?_eq_some_iff.1 HB6.out).1 (beside_not HABW.out (Array.getElem?_eq_some_iff.1 HB6.out).1)).trans HB6.out
 clear hd7 ho7
 go_wp2_with fail
 refine hK.out _ _ ?q (fun hHeld => ?_)
 case q => (try dsimp only); exact HC4.out _ HB7.out
 clear hK K
 try simp only [zpt]
 refine ztk 15 rfl ?_
 refine wpAnyH_done (by kernel_rfl) ?_ _
 refine NoPanic.normal ?_
 clear hHeld
 go_wp2_with fail
 go_ret2
 refine ropen_done HW6.out HB6.out ?_ HABW.out HD7.out HO7.out (by rw [HCH.out]; rfl) (by rw [HCH.out]; rfl)
 exact Sec.row_off HR4.out (Off.of_grown (HG5.out.andThen HV6.out.1 (fun _ h => .inr h)) (S := fun _ => False) (by simp)) (fun _ _ q => q)
section
variable {w w' : World} {S Sd : Nat → Prop} {m ab : Nat} {D D2 : Dsk}
theorem ropen_new (hb : RJBlk w' ab m newJ (.slice none 0 0) 0) (hab : w.heap.size ≤ ab) (hd : RefAt w' Sd m D2) (hns : ¬ Sd ab) (hsub : ∀ b, Sd b → S b ∨ w.heap.size ≤ b) (ho : Off S w w') (e2 : (opened D none).2 = D2) : ROpenEnd w S m D none (.returned (.tuple #[.pointer (some ⟨ab, 0, none⟩), .int .i64 0])) w' := by
 refine ⟨ab, fun b => b = ab, fun b => Sd b ∧ b < w'.heap.size, rfl, ⟨_, ⟨hb, ⟨rfl, .inl ⟨rfl, rfl⟩⟩, ⟨rfl, fun g hg => by simp [Value.ownBlock] at hg⟩, fun b hb2 => by rw [hb2]; exact (Array.getElem?_eq_some_iff.1 hb).1⟩⟩, ?_, fun b hb2 => by rw [hb2]; exact ⟨hab, fun q => hns q.1⟩, fun b hb2 => ⟨hsub b hb2.1, hb2.2⟩, ho⟩
 rw [e2]
 exact hd.mono (fun k hk hs => ⟨hs, hk⟩)
end
theorem ropen_spoilt (S : Nat → Prop) (m : Nat) (D : Dsk) (w : World) (h : RefAt w S m D) (hlt : ∀ b, S b → b < w.heap.size) (ho : D.off = false) (harm : D.armed = none) (hf : Full D) (hwr : D.wr.length + 10 < 1000000) (h4 : 4 ≤ D.n) (t0 : Tame D.now (0 * (D.n / 2)) (D.n / 2)) (t1 : Tame D.now (1 * (D.n / 2)) (D.n / 2)) (k0 : AreaIs D 0 none) (k1 : AreaIs D 1 none) (hl : ∀ b, b < 2 → (D.now (b * (D.n / 2))).length = 128) (hsp : ¬ ∀ b, b < 2 → D.now (b * (D.n / 2)) = noughts) :
  Calls Tryz.prog 38 #[.pointer (some ⟨m, 0, none⟩)] w fun e w' => e = .returned (.tuple #[.pointer none, .int .i64 30]) ∧ Off (fun _ => False) w w' := by
 have HL := Lib.hid hl
 clear hl
 obtain ⟨r0, hr0⟩ : ∃ r : Option Jn, r = none := ⟨_, rfl⟩
 obtain ⟨r1, hr1⟩ : ∃ r : Option Jn, r = none := ⟨_, rfl⟩
 rw [← hr0] at k0
 rw [← hr1] at k1
 have HSP := Lib.hid hsp
 clear hsp
 have HR := Lib.hid h
 have HLT := Lib.hid hlt
 have HLIVE := Lib.hid (And.intro ho harm)
 have HF := Lib.hid hf
 have HWR := Lib.hid hwr
 have HN := Lib.hid h4
 have HT := Lib.hid (And.intro t0 t1)
 have HK := Lib.hid (And.intro k0 k1)
 obtain ⟨hn16, _, sb, sl, inn, hm, hSm, hb, hbS, hl, hlS, ha⟩ := h
 obtain ⟨A0, cap0, hsb, hc0, _⟩ := str_slice hb
 rw [tellV_length] at hsb hc0
 subst hsb
 have c0 : w.cell? ⟨m, 0, none⟩ = some (.slice A0 D.n cap0) := cell_blk hm 0
 have c4 : w.cell? ⟨m, 4, none⟩ = some (.bool false) := by rw [← ho]; exact cell_blk hm 4
 have d4 : decide ((D.n : Int) < 4) = false := by simp; omega
 have d4b : decide (D.n < 4) = false := by simp; omega
 clear hm hSm hb hbS hl hlS ha hc0 hlt ho harm hf hwr h4 t0 t1 k0 k1
 go_enter Tryz.func38, Tryz.ntmps38
 go_wp2_with fail
 refine (rarea_is0 S m D r0 w HR.out HLIVE.out.1 HF.out HN.out HT.out.1 HK.out.1).mono ?_
 rintro e w0 ⟨p0, i01, i02, i03, i04, s0, A0, n0, c0, i07, i08, rfl, hb0, hj0⟩
 have HJ0 := Lib.hid hj0
 have HB0 := Lib.hid hb0
 clear hb0 hj0
 go_upto_region 6 with fail
 obtain ⟨v0, hv0⟩ : ∃ v, v = w0.alloc (.cells #[.pointer p0, .int .i64 i01, .int .i64 i02, .int .i64 i03, .int .i64 i04, .string s0, .slice A0 n0 c0, .int .i64 i07, .int .i64 i08] 101) := ⟨_, rfl⟩
 have HV0 : Hid (v0.heap[w0.heap.size]? = some (.cells #[.pointer p0, .int .i64 i01, .int .i64 i02, .int .i64 i03, .int .i64 i04, .string s0, .slice A0 n0 c0, .int .i64 i07, .int .i64 i08] 101) ∧ w0.grownBy v0 none ∧ w0.heap.size < v0.heap.size) := by rw [hv0]; exact ⟨(MapKept.heap_alloc w0 _).1, World.grownBy_alloc w0 _ none, by rw [World.size_alloc]; omega⟩
 rw [← hv0]
 clear hv0
 obtain ⟨ab0, hab0⟩ : ∃ a, a = w0.heap.size := ⟨_, rfl⟩
 rw [← hab0] at HV0 ⊢
 have HAB0 := Lib.hid hab0
 clear hab0
 have G0 : Hid (w.grownBy v0 none) := (Below.to_grown HB0.out).andThen HV0.out.2.1 (fun _ h => .inr h)
 go_wp2_with fail
 refine (rarea_is1 S m D r1 v0 (HR.out.grown G0.out) HLIVE.out.1 HF.out HN.out HT.out.2 HK.out.2).mono ?_
 rintro e w1 ⟨p1, i11, i12, i13, i14, s1, A1, n1, c1, i17, i18, rfl, hb1, hj1⟩
 have HJ1 := Lib.hid hj1
 have HB1 := Lib.hid hb1
 clear hb1 hj1
 go_upto_region 7 with fail
 obtain ⟨v1, hv1⟩ : ∃ v, v = w1.alloc (.cells #[.pointer p1, .int .i64 i11, .int .i64 i12, .int .i64 i13, .int .i64 i14, .string s1, .slice A1 n1 c1, .int .i64 i17, .int .i64 i18] 101) := ⟨_, rfl⟩
 have HV1 : Hid (v1.heap[w1.heap.size]? = some (.cells #[.pointer p1, .int .i64 i11, .int .i64 i12, .int .i64 i13, .int .i64 i14, .string s1, .slice A1 n1 c1, .int .i64 i17, .int .i64 i18] 101) ∧ w1.grownBy v1 none ∧ w1.heap.size < v1.heap.size) := by rw [hv1]; exact ⟨(MapKept.heap_alloc w1 _).1, World.grownBy_alloc w1 _ none, by rw [World.size_alloc]; omega⟩
 rw [← hv1]
 clear hv1
 obtain ⟨ab1, hab1⟩ : ∃ a, a = w1.heap.size := ⟨_, rfl⟩
 rw [← hab1] at HV1 ⊢
 have HAB1 := Lib.hid hab1
 clear hab1
 have G1 : Hid (w.grownBy v1 none) := G0.out.andThen ((Below.to_grown HB1.out).andThen HV1.out.2.1 (fun _ h => .inr h)) (fun _ h => .inr h)
 subst hr0 hr1
 clear HJ0 HJ1
 go_wp2_with fail
 refine (rempty_at S m D 0 v1 (HR.out.grown G1.out) HLIVE.out.1 HF.out (by decide) HN.out (HL.out 0 (by decide))).mono ?_
 rintro e u0 ⟨rfl, hb0⟩
 have GU0 : Hid (w.grownBy u0 none) := G1.out.andThen (Below.to_grown hb0) (fun _ h => .inr h)
 clear hb0
 by_cases z0 : D.now (0 * (D.n / 2)) = noughts
 ·rw [decide_eq_true z0]
  go_wp2_with fail
  refine (rempty_at S m D 1 u0 (HR.out.grown GU0.out) HLIVE.out.1 HF.out (by decide) HN.out (HL.out 1 (by decide))).mono ?_
  rintro e u1 ⟨rfl, hb1⟩
  have z1 : ¬ D.now (1 * (D.n / 2)) = noughts := fun z1 => HSP.out (fun b hb => by match b, hb with | 0, _ => exact z0 | 1, _ => exact z1)
  rw [decide_eq_false z1]
  have GU1 : Hid (w.grownBy u1 none) := GU0.out.andThen (Below.to_grown hb1) (fun _ h => .inr h)
  clear hb1 z0 z1
  go_wp2_with fail
  go_ret2
  exact ⟨rfl, Off.of_grown GU1.out (by simp)⟩
 ·rw [decide_eq_false z0]
  clear z0
  go_wp2_with fail
  go_ret2
  exact ⟨rfl, Off.of_grown GU0.out (by simp)⟩
theorem ropen_fresh (S : Nat → Prop) (m : Nat) (D : Dsk) (w : World) (h : RefAt w S m D) (hlt : ∀ b, S b → b < w.heap.size) (ho : D.off = false) (harm : D.armed = none) (hf : Full D) (hwr : D.wr.length + 10 < 1000000) (h4 : 4 ≤ D.n) (t0 : Tame D.now (0 * (D.n / 2)) (D.n / 2)) (t1 : Tame D.now (1 * (D.n / 2)) (D.n / 2)) (k0 : AreaIs D 0 none) (k1 : AreaIs D 1 none) (hl : ∀ b, b < 2 → (D.now (b * (D.n / 2))).length = 128) (hz : ∀ b, b < 2 → D.now (b * (D.n / 2)) = noughts) :
  Calls Tryz.prog 38 #[.pointer (some ⟨m, 0, none⟩)] w (ROpenEnd w S m D none) := by
 have HL := Lib.hid hl
 clear hl
 obtain ⟨r0, hr0⟩ : ∃ r : Option Jn, r = none := ⟨_, rfl⟩
 obtain ⟨r1, hr1⟩ : ∃ r : Option Jn, r = none := ⟨_, rfl⟩
 rw [← hr0] at k0
 rw [← hr1] at k1
 have HZ := Lib.hid hz
 clear hz
 have HR := Lib.hid h
 have HLT := Lib.hid hlt
 have HLIVE := Lib.hid (And.intro ho harm)
 have HF := Lib.hid hf
 have HWR := Lib.hid hwr
 have HN := Lib.hid h4
 have HT := Lib.hid (And.intro t0 t1)
 have HK := Lib.hid (And.intro k0 k1)
 obtain ⟨hn16, _, sb, sl, inn, hm, hSm, hb, hbS, hl, hlS, ha⟩ := h
 obtain ⟨A0, cap0, hsb, hc0, _⟩ := str_slice hb
 rw [tellV_length] at hsb hc0
 subst hsb
 have c0 : w.cell? ⟨m, 0, none⟩ = some (.slice A0 D.n cap0) := cell_blk hm 0
 have c4 : w.cell? ⟨m, 4, none⟩ = some (.bool false) := by rw [← ho]; exact cell_blk hm 4
 have d4 : decide ((D.n : Int) < 4) = false := by simp; omega
 have d4b : decide (D.n < 4) = false := by simp; omega
 clear hm hSm hb hbS hl hlS ha hc0 hlt ho harm hf hwr h4 t0 t1 k0 k1
 go_enter Tryz.func38, Tryz.ntmps38
 go_wp2_with fail
 refine (rarea_is0 S m D r0 w HR.out HLIVE.out.1 HF.out HN.out HT.out.1 HK.out.1).mono ?_
 rintro e w0 ⟨p0, i01, i02, i03, i04, s0, A0, n0, c0, i07, i08, rfl, hb0, hj0⟩
 have HJ0 := Lib.hid hj0
 have HB0 := Lib.hid hb0
 clear hb0 hj0
 go_upto_region 6 with fail
 obtain ⟨v0, hv0⟩ : ∃ v, v = w0.alloc (.cells #[.pointer p0, .int .i64 i01, .int .i64 i02, .int .i64 i03, .int .i64 i04, .string s0, .slice A0 n0 c0, .int .i64 i07, .int .i64 i08] 101) := ⟨_, rfl⟩
 have HV0 : Hid (v0.heap[w0.heap.size]? = some (.cells #[.pointer p0, .int .i64 i01, .int .i64 i02, .int .i64 i03, .int .i64 i04, .string s0, .slice A0 n0 c0, .int .i64 i07, .int .i64 i08] 101) ∧ w0.grownBy v0 none ∧ w0.heap.size < v0.heap.size) := by rw [hv0]; exact ⟨(MapKept.heap_alloc w0 _).1, World.grownBy_alloc w0 _ none, by rw [World.size_alloc]; omega⟩
 rw [← hv0]
 clear hv0
 obtain ⟨ab0, hab0⟩ : ∃ a, a = w0.heap.size := ⟨_, rfl⟩
 rw [← hab0] at HV0 ⊢
 have HAB0 := Lib.hid hab0
 clear hab0
 have G0 : Hid (w.grownBy v0 none) := (Below.to_grown HB0.out).andThen HV0.out.2.1 (fun _ h => .inr h)
 go_wp2_with fail
 refine (rarea_is1 S m D r1 v0 (HR.out.grown G0.out) HLIVE.out.1 HF.out HN.out HT.out.2 HK.out.2).mono ?_
 rintro e w1 ⟨p1, i11, i12, i13, i14, s1, A1, n1, c1, i17, i18, rfl, hb1, hj1⟩
 have HJ1 := Lib.hid hj1
 have HB1 := Lib.hid hb1
 clear hb1 hj1
 go_upto_region 7 with fail
 obtain ⟨v1, hv1⟩ : ∃ v, v = w1.alloc (.cells #[.pointer p1, .int .i64 i11, .int .i64 i12, .int .i64 i13, .int .i64 i14, .string s1, .slice A1 n1 c1, .int .i64 i17, .int .i64 i18] 101) := ⟨_, rfl⟩
 have HV1 : Hid (v1.heap[w1.heap.size]? = some (.cells #[.pointer p1, .int .i64 i11, .int .i64 i12, .int .i64 i13, .int .i64 i14, .string s1, .slice A1 n1 c1, .int .i64 i17, .int .i64 i18] 101) ∧ w1.grownBy v1 none ∧ w1.heap.size < v1.heap.size) := by rw [hv1]; exact ⟨(MapKept.heap_alloc w1 _).1, World.grownBy_alloc w1 _ none, by rw [World.size_alloc]; omega⟩
 rw [← hv1]
 clear hv1
 obtain ⟨ab1, hab1⟩ : ∃ a, a = w1.heap.size := ⟨_, rfl⟩
 rw [← hab1] at HV1 ⊢
 have HAB1 := Lib.hid hab1
 clear hab1
 have G1 : Hid (w.grownBy v1 none) := G0.out.andThen ((Below.to_grown HB1.out).andThen HV1.out.2.1 (fun _ h => .inr h)) (fun _ h => .inr h)
 subst hr0 hr1
 clear HJ0 HJ1
 go_wp2_with fail
 refine (rempty_at S m D 0 v1 (HR.out.grown G1.out) HLIVE.out.1 HF.out (by decide) HN.out (HL.out 0 (by decide))).mono ?_
 rintro e u0 ⟨rfl, hb0⟩
 have GU0 : Hid (w.grownBy u0 none) := G1.out.andThen (Below.to_grown hb0) (fun _ h => .inr h)
 clear hb0
 rw [decide_eq_true (HZ.out 0 (by decide))]
 go_wp2_with fail
 refine (rempty_at S m D 1 u0 (HR.out.grown GU0.out) HLIVE.out.1 HF.out (by decide) HN.out (HL.out 1 (by decide))).mono ?_
 rintro e u1 ⟨rfl, hb1⟩
 have GU1 : Hid (w.grownBy u1 none) := GU0.out.andThen (Below.to_grown hb1) (fun _ h => .inr h)
 clear hb1
 rw [decide_eq_true (HZ.out 1 (by decide))]
 go_wp2_with fail
 obtain ⟨v3, hv3⟩ : ∃ v, v = u1.alloc (.cells #[.pointer (some ⟨m, 0, none⟩), .int .i64 0, .int .i64 1, .int .i64 1, .int .i64 1, .string ⟨#[]⟩, .slice none 0 0, .int .i64 1, .int .i64 0] 101) := ⟨_, rfl⟩
 have HB3 : Hid (RJBlk v3 u1.heap.size m newJ (.slice none 0 0) 0) := by rw [hv3]; exact (MapKept.heap_alloc u1 _).1
 have HV3 : Hid (w.grownBy v3 none ∧ u1.heap.size < v3.heap.size) := by rw [hv3]; exact ⟨GU1.out.andThen (World.grownBy_alloc u1 _ none) (fun _ h => .inr h), by rw [World.size_alloc]; omega⟩
 rw [← hv3]
 clear hv3
 obtain ⟨jb, hjb⟩ : ∃ a, a = u1.heap.size := ⟨_, rfl⟩
 rw [← hjb] at HB3 HV3 ⊢
 have HJB : Hid (w.heap.size ≤ jb) := by rw [hjb]; exact GU1.out.size
 clear hjb
 refine (rsectors_at 67 1 0 [] (by decide) (by decide) (by decide) v3).mono ?_
 rintro e v4 ⟨rv, rfl, hrv, hb4⟩
 obtain ⟨Arv, crv, rfl, _, _⟩ := row_len hrv
 have HRV := Lib.hid hrv
 have HG4 : Hid (v3.grownBy v4 none) := Below.to_grown hb4
 clear hrv hb4
 go_wp2_with fail
 have HW4 : Hid (w.grownBy v4 none) := HV3.out.1.andThen HG4.out (fun _ h => .inr h)
 obtain ⟨S4, hS4⟩ : ∃ S4, S4 = Beside S w.heap.size v4.heap.size := ⟨_, rfl⟩
 have HS4 := Lib.hid hS4
 clear hS4
 have HD4 : Hid (RefAt v4 S4 m D) := by rw [HS4.out]; exact HR.out.next (Off.of_grown HW4.out (S := fun _ => False) (by simp)) (fun _ _ _ q => q)
 have HCL4 : Hid (∀ b, v4.heap.size ≤ b → S4 b) := by rw [HS4.out]; exact beside_new
 have HNB : Hid (∀ b, w.heap.size ≤ b → b < v4.heap.size → ¬ S4 b) := fun b h1 h2 => by rw [HS4.out]; exact beside_not h1 h2
 refine (rwrite_list S4 m D 0 1 (secL 67 1 0 [] (parts ([] : List UInt8).length)) _ v3.heap.size v4 HD4.out HCL4.out HRV.out (fun g hg => HNB.out g (Nat.le_trans HV3.out.1.size (World.ownsRow.lt HRV.out g hg).1) (World.ownsRow.lt HRV.out g hg).2) (by decide) (by decide) (fun x hx => by obtain ⟨i, _, rfl⟩ := List.mem_map.1 hx; rw [partB_length _ _ _ _ _ _ (chunk_le [] i)]; decide) (by have := HWR.out; have e : (secL 67 1 0 [] (parts ([] : List UInt8).length)).length = 1 := rfl; omega)).mono ?_
 rw [writes_put, putsE_live D _ (putF 67 1 0 []) HLIVE.out.1 HLIVE.out.2 _ (by have := HN.out; have e : parts ([] : List UInt8).length = 1 := rfl; omega) (fun i _ => partB_length _ _ _ _ _ _ (chunk_le [] i))]
 rintro e v5 ⟨rfl, hd5, ho5⟩
 obtain ⟨D1, hD1⟩ : ∃ D1, D1 = pushes D (0 * (D.n / 2) + 1) (putF 67 1 0 []) (upto (parts ([] : List UInt8).length)) := ⟨_, rfl⟩
 rw [← hD1] at hd5
 have HD1 := Lib.hid hD1
 clear hD1
 have HP1 : Hid (D1.n = D.n ∧ D1.off = false ∧ D1.armed = none ∧ D1.wr.length = D.wr.length + 1) := by rw [HD1.out]; obtain ⟨q1, q2, q3, q4⟩ := pushes_n D (0 * (D.n / 2) + 1) (putF 67 1 0 []) (upto (parts ([] : List UInt8).length)); exact ⟨q1, q2.trans HLIVE.out.1, q3.trans HLIVE.out.2, q4⟩
 have HD5 := Lib.hid hd5
 have HO5 := Lib.hid ho5
 clear hd5 ho5
 go_wp2_with fail
 refine (rhead_at 1 1 1 0 (by decide) (by decide) (by decide) (by decide) v5).mono ?_
 rintro e v6 ⟨rfl, hb6⟩
 obtain ⟨hd, hhd⟩ : ∃ x, x = headB 1 1 1 0 := ⟨_, rfl⟩
 rw [← hhd]
 have HHD := Lib.hid hhd
 clear hhd
 have HG6 : Hid (v5.grownBy v6 none) := Below.to_grown hb6
 clear hb6
 go_wp2_with fail
 obtain ⟨v7, hv7⟩ : ∃ v, v = v6.alloc (.cells #[strV hd] 9) := ⟨_, rfl⟩
 rw [← hv7]
 have HV7 : Hid (v6.grownBy v7 none ∧ v6.heap.size < v7.heap.size ∧ StrRow v7 v6.heap.size (.slice (some ⟨v6.heap.size, 0, none⟩) 1 1) [strV hd]) := by rw [hv7]; exact ⟨World.grownBy_alloc v6 _ none, by rw [World.size_alloc]; omega, str_one v6 hd⟩
 clear hv7
 have HG7 : Hid (v5.grownBy v7 none) := HG6.out.andThen HV7.out.1 (fun _ h => .inr h)
 refine (rwrite_list (Beside S4 v5.heap.size v7.heap.size) m D1 0 0 [hd] _ v6.heap.size v7 (HD5.out.next (Off.of_grown HG7.out (S := fun _ => False) (by simp)) (fun _ _ _ q => q)) beside_new HV7.out.2.2 (fun g hg => by have e : g = v6.heap.size := (Option.some.inj hg).symm; rw [e]; exact beside_not HG6.out.size HV7.out.2.1) (by decide) (by decide) (fun l hl => by rw [List.mem_singleton.1 hl, HHD.out, headB_length]; decide) (by rw [HP1.out.2.2.2]; have := HWR.out; simp; omega)).mono ?_
 rw [writes_one, HHD.out, wrote_live D1 HP1.out.2.1 HP1.out.2.2.1 (by rw [HP1.out.1]; have := HN.out; omega) (headB_length ..)]
 rintro e v8 ⟨rfl, hd8, ho8⟩
 have HD8 := Lib.hid hd8
 have HO8 := Lib.hid ho8
 clear hd8 ho8
 go_wp2_with fail
 go_ret2
 have hj4 : RJBlk v4 jb m newJ (.slice none 0 0) 0 := (HG4.out.block jb HV3.out.2 (by simp)).trans HB3.out
 have hlt4 : jb < v4.heap.size := (Array.getElem?_eq_some_iff.1 hj4).1
 have hn4 : ¬ S4 jb := HNB.out jb HJB.out hlt4
 have hj5 : RJBlk v5 jb m newJ (.slice none 0 0) 0 := (HO5.out.block jb hlt4 hn4).trans hj4
 have hlt5 : jb < v5.heap.size := Nat.lt_of_lt_of_le hlt4 HO5.out.size
 have hj7 : RJBlk v7 jb m newJ (.slice none 0 0) 0 := (HG7.out.block jb hlt5 (by simp)).trans hj5
 have hlt7 : jb < v7.heap.size := Nat.lt_of_lt_of_le hlt5 HG7.out.size
 have hn8 : ¬ Beside S4 v5.heap.size v7.heap.size jb := fun q => q.elim (fun q => hn4 q.1) (fun q => by omega)
 have hsub4 : ∀ b, S4 b → S b ∨ w.heap.size ≤ b := fun b hb => by rw [HS4.out] at hb; exact hb.elim (fun q => .inl q.1) (fun q => .inr (Nat.le_trans HW4.out.size q))
 refine ropen_new ((HO8.out.block jb hlt7 hn8).trans hj7) HJB.out HD8.out hn8 (fun b hb => hb.elim (fun q => hsub4 b q.1) (fun q => .inr (Nat.le_trans (Nat.le_trans (Nat.le_trans HW4.out.size HO5.out.size) HG7.out.size) q))) ?_ ?_
 ·have h5 : Off S w v5 := ⟨HO5.out.os.trans HW4.out.os, HO5.out.tape.trans HW4.out.tape, HO5.out.output.trans HW4.out.output, Nat.le_trans HW4.out.size HO5.out.size, fun k hk hs => (HO5.out.block k (Nat.lt_of_lt_of_le hk HW4.out.size) (fun q => (hsub4 k q).elim hs (fun q => by omega))).trans (HW4.out.block k hk (by simp))⟩
  have h7 : Off S w v7 := h5.trans (Off.of_grown HG7.out (by simp))
  exact ⟨HO8.out.os.trans h7.os, HO8.out.tape.trans h7.tape, HO8.out.output.trans h7.output, Nat.le_trans h7.size HO8.out.size, fun k hk hs => (HO8.out.block k (Nat.lt_of_lt_of_le hk h7.size) (fun q => q.elim (fun q => (hsub4 k q.1).elim hs (fun q => by omega)) (fun q => by have := h7.size; omega))).trans (h7.block k hk hs)⟩
 ·rw [HD1.out, show (pushes D (0 * (D.n / 2) + 1) (putF 67 1 0 []) (upto (parts ([] : List UInt8).length))).n = D.n from (pushes_n _ _ _ _).1]
  rfl
end Go.Proofs.YtgdedgfohjplmaaGreat.Jnl
