/- A part of the proof of JournalKnown: KApp KCk KCkB. -/
import Derived.Test.YtgdedgfohjplmaaGreatK00
import Derived.Test.YtgdedgfohjplmaaGreatK13
import Derived.Test.YtgdedgfohjplmaaGreatK06
set_option maxRecDepth 100000
set_option maxHeartbeats 40000000
namespace Go.Proofs.YtgdedgfohjplmaaGreat.Jnl
open Go.RowKit Go.Maps Sec
theorem wpList_append_str_own {ops : Array Oper} {rest : List Oper} {o : Oper} {a : Act} {w : World} {Q : Exit → Act → World → Prop} (hgd : o.guard = none) (s x : Operand) (ho : o.op = .call { callee := .builtin .append, args := #[s, x], argTypes := #[39, 39] })
  (B : Nat) (v : Value) (xs : List Value) (y : Value) (hy : y.oneCell' = true) (hs : a.eval s = v) (hown : StrRow w B v xs) (g : Nat) (hx : a.eval x = .slice (some ⟨g, 0, none⟩) 1 1) (hc : w.cell? ⟨g, 0, none⟩ = some y) (hb : xs.length < 100000) (hbase : B ≤ w.heap.size)
  (h : ∀ v' w', StrRow w' B v' (xs ++ [y]) → w.grownBy w' v.ownBlock → (v'.ownBlock = v.ownBlock ∨ v'.ownBlock = some w.heap.size) → wpList Tryz.prog ops Q rest (a.put o.dst v') w') : wpList Tryz.prog ops Q (o :: rest) a w := by
 obtain ⟨i0, hi0, he⟩ := Option.map_eq_some_iff.1 info_str
 simp only [Prod.mk.injEq] at he
 refine wpList_append_own_at _ hgd s x 39 ho B 9 i0 _ 1 16 Tryz.underlying39 hi0 he.1 he.2.1 he.2.2 rfl (by decide) v xs.length _ hs hown ⟨g, 0, none⟩ 1 1 [y] hx rfl ?_ ?_ (by unfold maxLen; omega) (by omega) hbase ?_
 ·intro j z hj
  match j, hj with
  | 0, hj =>
   simp at hj
   subst hj
   simpa [Addr.add] using hc
 ·intro z hz
  simp at hz
  subst hz
  exact hy
 ·intro v' w' h1 h2 _ h3
  refine h v' w' ?_ h2 h3
  unfold StrRow
  rw [List.length_append]
  exact h1
section
variable {w w5 w6 w8 w9 : World} {S T S4 : Nat → Prop} {rb m br : Nat} {D D' : Dsk} {J : Jn} {lv lv9 : Value} {l : List UInt8}
theorem rj_set (h : RJBlk w rb m J lv br) (x : Nat) : RJBlk (w.setCell ⟨rb, 8, none⟩ (.int .i64 (x : Int))) rb m J lv x := heap_setCell_same w rb 8 _ _ (.int .i64 (x : Int)) h
theorem rj_row {n : Nat} (h : RJBlk w rb m J lv br) (hr : StrRow w n lv (recV J)) (j : Nat) (x : Value) : StrRow (w.setCell ⟨rb, j, none⟩ x) n lv (recV J) := Sec.row_off hr (Off.of_grown (grown_set w rb j x) (S := fun b => b = rb) (fun k e => by cases e; rfl)) (fun g hg e => row_ne_blk hr h (by decide) (e ▸ hg))
def RBrk (w : World) (S T : Nat → Prop) (rb m : Nat) (J : Jn) (x : Nat) (D' : Dsk) (e : Ending) (w' : World) : Prop := e = .returned (.int .i64 (x : Int)) ∧ ∃ S', RJAt w' T rb m J x ∧ RefAt w' S' m D' ∧ (∀ b, T b → ¬ S' b) ∧ (∀ b, S' b → (S b ∨ w.heap.size ≤ b) ∧ b < w'.heap.size) ∧ Off (fun b => T b ∨ S b) w w'
def RDone (w : World) (S T : Nat → Prop) (rb m : Nat) (J : Jn) (D' : Dsk) (e : Ending) (w' : World) : Prop := e = .returned (.int .i64 0) ∧ ∃ T' S', RJAt w' T' rb m J 0 ∧ RefAt w' S' m D' ∧ (∀ b, T' b → ¬ S' b) ∧ (∀ b, T' b → T b ∨ w.heap.size ≤ b) ∧ (∀ b, S' b → (S b ∨ w.heap.size ≤ b) ∧ b < w'.heap.size) ∧ Off (fun b => T b ∨ S b) w w'
theorem beside_off (hg : w.grownBy w5 none) (ho : Off (Beside S w.heap.size w5.heap.size) w5 w6) : Off S w w6 :=
 ⟨ho.os.trans hg.os, ho.tape.trans hg.tape, ho.output.trans hg.output, Nat.le_trans hg.size ho.size, fun k hk hs => (ho.block k (Nat.lt_of_lt_of_le hk hg.size) (fun q => q.elim (fun q => hs q.1) (fun q => by have := hg.size; omega))).trans (hg.block k hk (by simp))⟩
theorem rbrk_done {x : Nat} (hT : ∀ b, T b → ¬ S b) (hj : RJIn w T rb m J lv br) (hg : w.grownBy w5 none) (hd : RefAt w6 (Beside S w.heap.size w5.heap.size) m D') (ho : Off (Beside S w.heap.size w5.heap.size) w5 w6) : RBrk w S T rb m J x D' (.returned (.int .i64 (x : Int))) (w6.setCell ⟨rb, 8, none⟩ (.int .i64 (x : Int))) := by
 have hrb := hj.lt _ hj.own.1
 have hn : ∀ b, T b → ¬ Beside S w.heap.size w5.heap.size b := fun b hb q => q.elim (fun q => hT b hb q.1) (fun q => by have := hj.lt b hb; have := hg.size; omega)
 have h5 := hj.off (Off.of_grown hg (S := fun _ => False) (by simp)) (fun _ _ q => q)
 have h6 := h5.off ho hn
 have hs := grown_set w6 rb 8 (.int .i64 (x : Int))
 have hos : Off (fun b => b = rb) w6 (w6.setCell ⟨rb, 8, none⟩ (.int .i64 (x : Int))) := Off.of_grown hs (fun k e => by cases e; rfl)
 refine ⟨rfl, fun b => Beside S w.heap.size w5.heap.size b ∧ b < (w6.setCell ⟨rb, 8, none⟩ (.int .i64 (x : Int))).heap.size, ⟨lv, ⟨rj_set h6.blk x, rj_row h6.blk h6.row 8 _, h6.own, fun b hb => Nat.lt_of_lt_of_le (h6.lt b hb) hos.size⟩⟩, ?_, fun b hb q => hn b hb q.1, fun b hb => ⟨hb.1.elim (fun q => .inl q.1) (fun q => .inr (Nat.le_trans hg.size q)), hb.2⟩, ?_⟩
 ·exact (hd.off hos (fun k _ hk e => hn rb hj.own.1 (e ▸ hk))).mono (fun k hk hs => ⟨hs, hk⟩)
 ·exact ((beside_off hg ho).mono (fun _ _ q => .inr q)).trans (hos.mono (fun _ _ e => .inl (e ▸ hj.own.1)))
theorem rapp_done (hT : ∀ b, T b → ¬ S b) (hj : RJIn w T rb m J lv br) (hg : w.grownBy w5 none) (hd : RefAt w6 (Beside S w.heap.size w5.heap.size) m D') (ho : Off (Beside S w.heap.size w5.heap.size) w5 w6)
  (h9 : StrRow w9 0 lv9 (recV J ++ [strV l])) (hgw : (((w6.setCell ⟨rb, 8, none⟩ (.int .i64 0))).alloc (.cells #[strV l] 9)).grownBy w9 lv.ownBlock) (hown : lv9.ownBlock = lv.ownBlock ∨ lv9.ownBlock = some ((w6.setCell ⟨rb, 8, none⟩ (.int .i64 0)).alloc (.cells #[strV l] 9)).heap.size) (k : Nat) : RDone w S T rb m (J.app l) D' (.returned (.int .i64 0)) (((w9.setCell ⟨rb, 6, none⟩ lv9).drewN k).setCell ⟨rb, 7, none⟩ (.int .i64 ((J.used + parts l.length : Nat) : Int))) := by
 have hrb := hj.lt _ hj.own.1
 have hn : ∀ b, T b → ¬ Beside S w.heap.size w5.heap.size b := fun b hb q => q.elim (fun q => hT b hb q.1) (fun q => by have := hj.lt b hb; have := hg.size; omega)
 have h6 := (hj.off (Off.of_grown hg (S := fun _ => False) (by simp)) (fun _ _ q => q)).off ho hn
 have hs := grown_set w6 rb 8 (.int .i64 0)
 have hos : Off (fun b => b = rb) w6 (w6.setCell ⟨rb, 8, none⟩ (.int .i64 0)) := Off.of_grown hs (fun k e => by cases e; rfl)
 have hb7 : RJBlk (w6.setCell ⟨rb, 8, none⟩ (.int .i64 0)) rb m J lv 0 := rj_set h6.blk 0
 have hr7 := rj_row h6.blk h6.row 8 (.int .i64 0)
 obtain ⟨w7, hw7⟩ : ∃ v, v = w6.setCell ⟨rb, 8, none⟩ (.int .i64 0) := ⟨_, rfl⟩
 rw [← hw7] at hos hb7 hr7 hgw hown
 have ga := World.grownBy_alloc w7 (.cells #[strV l] 9) none
 have hb8 : RJBlk (w7.alloc (.cells #[strV l] 9)) rb m J lv 0 := (ga.block rb (Array.getElem?_eq_some_iff.1 hb7).1 (by simp)).trans hb7
 have hr8 := Sec.row_off hr7 (Off.of_grown ga (S := fun _ => False) (by simp)) (fun _ _ q => q)
 have hb9 : RJBlk w9 rb m J lv 0 := (hgw.block rb (Array.getElem?_eq_some_iff.1 hb8).1 (fun e => row_ne_blk hr8 hb8 (by decide) e.symm)).trans hb8
 have hbA : RJBlk (w9.setCell ⟨rb, 6, none⟩ lv9) rb m { J with recs := J.recs ++ [l] } lv9 0 := heap_setCell_same w9 rb 6 _ _ lv9 hb9
 have hbB : RJBlk (((w9.setCell ⟨rb, 6, none⟩ lv9).drewN k).setCell ⟨rb, 7, none⟩ (.int .i64 ((J.used + parts l.length : Nat) : Int))) rb m (J.app l) lv9 0 := heap_setCell_same ((w9.setCell ⟨rb, 6, none⟩ lv9).drewN k) rb 7 _ _ _ hbA
 have e9 : recV (J.app l) = recV J ++ [strV l] := by simp [recV, Jn.app]
 have hrA := Sec.row_off h9 (Off.of_grown (grown_set w9 rb 6 lv9) (S := fun b => b = rb) (fun k e => by cases e; rfl)) (fun g hg e => row_ne_blk h9 hb9 (by decide) (e ▸ hg))
 have hrD : StrRow ((w9.setCell ⟨rb, 6, none⟩ lv9).drewN k) 0 lv9 (recV J ++ [strV l]) := Sec.row_off hrA (off_drew _ k) (fun _ _ q => q)
 have hrB := Sec.row_off hrD (Off.of_grown (grown_set ((w9.setCell ⟨rb, 6, none⟩ lv9).drewN k) rb 7 (.int .i64 ((J.used + parts l.length : Nat) : Int))) (S := fun b => b = rb) (fun k e => by cases e; rfl)) (fun g hg e => row_ne_blk hrD (show RJBlk ((w9.setCell ⟨rb, 6, none⟩ lv9).drewN k) rb m { J with recs := J.recs ++ [l] } lv9 0 from hbA) (by decide) (e ▸ hg))
 have hTR : Off (fun b => T b) w6 (((w9.setCell ⟨rb, 6, none⟩ lv9).drewN k).setCell ⟨rb, 7, none⟩ (.int .i64 ((J.used + parts l.length : Nat) : Int))) := by
  refine (((((hos.mono (fun _ _ e => e ▸ hj.own.1)).trans (Off.of_grown ga (by simp))).trans (Off.of_grown hgw (fun k e => hj.own.2 k e))).trans (Off.of_grown (grown_set w9 rb 6 lv9) (fun k e => by cases e; exact hj.own.1))).trans ((off_drew _ k).mono (fun _ _ q => q.elim))).trans (Off.of_grown (grown_set _ rb 7 _) (fun k e => by cases e; exact hj.own.1))
 obtain ⟨z, hz⟩ : ∃ v, v = ((w9.setCell ⟨rb, 6, none⟩ lv9).drewN k).setCell ⟨rb, 7, none⟩ (.int .i64 ((J.used + parts l.length : Nat) : Int)) := ⟨_, rfl⟩
 rw [← hz] at hbB hrB hTR ⊢
 have hz9 : w9.heap.size ≤ z.heap.size := by rw [hz]; simp
 have hw67 : w6.heap.size = w7.heap.size := by rw [hw7]; simp
 have hw78 : w7.heap.size < (w7.alloc (.cells #[strV l] 9)).heap.size := by rw [World.size_alloc]; omega
 have hnew : ∀ g, lv9.ownBlock = some g → T g ∨ (w6.heap.size ≤ g ∧ g < z.heap.size) := fun g hg9 => by
  rcases hown with e | e
  ·exact .inl (hj.own.2 g (e ▸ hg9))
  ·rw [e] at hg9
   have e2 := Option.some.inj hg9
   refine .inr ⟨by omega, ?_⟩
   have := (World.ownsRow.lt h9 g (by rw [e]; exact hg9)).2
   omega
 have h56 := ho.size
 refine ⟨rfl, fun b => T b ∨ (w6.heap.size ≤ b ∧ b < z.heap.size), fun b => Beside S w.heap.size w5.heap.size b ∧ b < w6.heap.size, ⟨lv9, ⟨hbB, by rw [e9]; exact hrB, ⟨.inl hj.own.1, hnew⟩, fun b hb => hb.elim (fun q => Nat.lt_of_lt_of_le (hj.lt b q) (Nat.le_trans hg.size (Nat.le_trans ho.size hTR.size))) (fun q => q.2)⟩⟩, ?_, fun b hb q => hb.elim (fun hb => hn b hb q.1) (fun hb => by have := q.2; omega), fun b hb => hb.imp id (fun q => Nat.le_trans (Nat.le_trans hg.size ho.size) q.1), fun b hb => ⟨hb.1.elim (fun q => .inl q.1) (fun q => .inr (Nat.le_trans hg.size q)), Nat.lt_of_lt_of_le hb.2 hTR.size⟩, ?_⟩
 ·exact (hd.mono (fun k hk hs => ⟨hs, hk⟩)).off hTR (fun k _ hk q => hn k q hk.1)
 ·exact ((beside_off hg ho).mono (fun _ _ q => .inr q)).trans (hTR.mono (fun _ _ q => .inl q))
end
theorem rapp_broken (br : Nat) (T : Nat → Prop) (rb m : Nat) (J : Jn) (l : List UInt8) (w : World) (hj : RJAt w T rb m J br) (hbr : br ≠ 0) :
  Calls Tryz.prog 77 #[.pointer (some ⟨rb, 0, none⟩), strV l] w fun e w' => e = .returned (.int .i64 (br : Int)) ∧ w = w' := by
 obtain ⟨lv, hj⟩ := hj
 have c8 : w.cell? ⟨rb, 8, none⟩ = some (.int .i64 (br : Int)) := hj.blk.cell 8
 have d1 : ((br : Int) != 0) = true := by simp; omega
 clear hj hbr
 go_enter Tryz.func77, Tryz.ntmps77
 go_wp2_with fail
 go_ret
 exact ⟨rfl, rfl⟩
theorem rapp_full (S T : Nat → Prop) (rb m : Nat) (D : Dsk) (J : Jn) (l : List UInt8) (w : World) (h : RefAt w S m D) (hj : RJAt w T rb m J 0) (h4 : 4 ≤ D.n) (hlim : l.length ≤ 1048576) (hu : J.used ≤ D.n / 2 - 1) (hno : D.n / 2 - 1 - J.used < parts l.length) :
  Calls Tryz.prog 77 #[.pointer (some ⟨rb, 0, none⟩), strV l] w fun e w' => e = .returned (.int .i64 31) ∧ ∃ k, w' = w.drewN k := by
 obtain ⟨lv, hj⟩ := hj
 have c8 : w.cell? ⟨rb, 8, none⟩ = some (.int .i64 0) := hj.blk.cell 8
 have d2 : decide ((1048576 : Int) < ((bs l).size : Int)) = false := by rw [bs_size]; simp; omega
 have d3 : decide (1048576 < (bs l).size) = false := by rw [bs_size]; simp; omega
 have b1 : ((bs l).size : Int) ≤ 9223372036854775807 := by rw [bs_size]; omega
 have HPT : Hid (∀ v, Calls Tryz.prog 35 #[.int .i64 ((bs l).size : Int)] v fun e w' => e = .returned (.int .i64 (parts l.length : Int)) ∧ v = w') := fun v => by rw [bs_size]; exact rparts_at l.length (by omega) v
 have d4 : decide (((D.n / 2 - 1 - J.used : Nat) : Int) < (parts l.length : Int)) = true := by simp; omega
 have d5 : decide (D.n / 2 - 1 - J.used < parts l.length) = true := by simp; omega
 have HR := Lib.hid h
 have HJ := Lib.hid hj
 have HU := Lib.hid hu
 have HN := Lib.hid h4
 clear h hj h4 hlim hu hno
 go_enter Tryz.func77, Tryz.ntmps77
 go_wp2_with fail
 refine (HPT.out w).mono ?_
 rintro e wq ⟨rfl, rfl⟩
 go_wp2_with fail
 refine (rfree_blk rb m S D J lv 0 w HR.out HJ.out.blk HU.out HN.out).mono ?_
 rintro e wq ⟨rfl, k, rfl⟩
 obtain ⟨fr, hfr⟩ : ∃ fr, fr = D.n / 2 - 1 - J.used := ⟨_, rfl⟩
 obtain ⟨pt, hpt⟩ : ∃ pt, pt = parts l.length := ⟨_, rfl⟩
 rw [← hfr, ← hpt] at d4 d5 ⊢
 clear hfr hpt
 go_wp2_with fail
 go_ret
 exact ⟨rfl, k, rfl⟩
theorem rapp_brk (S T : Nat → Prop) (rb m : Nat) (D : Dsk) (J : Jn) (l : List UInt8) (w : World) (h : RefAt w S m D) (hj : RJAt w T rb m J 0) (h4 : 4 ≤ D.n) (hlim : l.length ≤ 1048576) (hTS : ∀ b, T b → ¬ S b) (ha : J.area ≤ 1) (hu : J.used ≤ D.n / 2 - 1) (hok : parts l.length ≤ D.n / 2 - 1 - J.used) (hop : J.op ≤ 4611686018427387904 ∧ J.first + J.recs.length ≤ 4611686018427387904) (hwr : D.wr.length + 70000 < 1000000) (x : Nat) (hx : x ≠ 0) (D' : Dsk) (hput : putsE D (J.area * (D.n / 2) + (1 + J.used)) (putF 82 J.op (J.first + J.recs.length) l) (upto (parts l.length)) = ((x : Int), D')) :
  Calls Tryz.prog 77 #[.pointer (some ⟨rb, 0, none⟩), strV l] w (RBrk w S T rb m J x D') := by
 obtain ⟨lv, hj⟩ := hj
 have c8 : w.cell? ⟨rb, 8, none⟩ = some (.int .i64 0) := hj.blk.cell 8
 have d2 : decide ((1048576 : Int) < ((bs l).size : Int)) = false := by rw [bs_size]; simp; omega
 have d3 : decide (1048576 < (bs l).size) = false := by rw [bs_size]; simp; omega
 have b1 : ((bs l).size : Int) ≤ 9223372036854775807 := by rw [bs_size]; omega
 have HPT : Hid (∀ v, Calls Tryz.prog 35 #[.int .i64 ((bs l).size : Int)] v fun e w' => e = .returned (.int .i64 (parts l.length : Int)) ∧ v = w') := fun v => by rw [bs_size]; exact rparts_at l.length (by omega) v
 have dx : ((x : Int) == 0) = false := by simp; omega
 clear hx
 have d4 : decide (((D.n / 2 - 1 - J.used : Nat) : Int) < (parts l.length : Int)) = false := by simp; omega
 have d5 : decide (D.n / 2 - 1 - J.used < parts l.length) = false := by simp; omega
 have HR := Lib.hid h
 have HJ := Lib.hid hj
 have HU := Lib.hid hu
 have HN := Lib.hid h4
 have HN16 := Lib.hid h.1
 have HLM := Lib.hid hlim
 have HTS := Lib.hid hTS
 have HAR := Lib.hid ha
 have HOK := Lib.hid hok
 have HOP := Lib.hid hop
 have HWR := Lib.hid hwr
 have HPUT := Lib.hid hput
 have HWL : Hid (D.wr.length + (secL 82 J.op (J.first + J.recs.length) l (parts l.length)).length < 1000000) := by
  show _ < _
  rw [show (secL 82 J.op (J.first + J.recs.length) l (parts l.length)).length = parts l.length by simp [secL]]
  have := h.1
  omega
 have HW1 : Hid (IntKind.i64.wrap (1 + (J.used : Int)) = ((1 + J.used : Nat) : Int)) := by show _ = _; have := h.1; rw [IntKind.wrap_i64]; omega
 have HC : Hid (∀ v : World, RJBlk v rb m J lv 0 → v.cell? ⟨rb, 0, none⟩ = some (Value.pointer (some ⟨m, 0, none⟩)) ∧ v.cell? ⟨rb, 1, none⟩ = some (Value.int .i64 (J.area : Int)) ∧ v.cell? ⟨rb, 3, none⟩ = some (Value.int .i64 (J.op : Int)) ∧ v.cell? ⟨rb, 7, none⟩ = some (Value.int .i64 (J.used : Int))) := fun v hb => ⟨hb.cell 0, hb.cell 1, hb.cell 3, hb.cell 7⟩
 have HC2 : Hid (∀ v : World, RJBlk v rb m J lv x → v.cell? ⟨rb, 0, none⟩ = some (Value.pointer (some ⟨m, 0, none⟩)) ∧ v.cell? ⟨rb, 1, none⟩ = some (Value.int .i64 (J.area : Int)) ∧ v.cell? ⟨rb, 3, none⟩ = some (Value.int .i64 (J.op : Int)) ∧ v.cell? ⟨rb, 7, none⟩ = some (Value.int .i64 (J.used : Int))) := fun v hb => ⟨hb.cell 0, hb.cell 1, hb.cell 3, hb.cell 7⟩
 clear h hj h4 hlim hu hok hTS ha hop hwr hput
 go_enter Tryz.func77, Tryz.ntmps77
 go_wp2_with fail
 refine (HPT.out w).mono ?_
 rintro e wq ⟨rfl, rfl⟩
 go_wp2_with fail
 refine (rfree_blk rb m S D J lv 0 w HR.out HJ.out.blk HU.out HN.out).mono ?_
 rintro e wq ⟨rfl, k, rfl⟩
 obtain ⟨fr, hfr⟩ : ∃ fr, fr = D.n / 2 - 1 - J.used := ⟨_, rfl⟩
 have HFR := Lib.hid hfr
 obtain ⟨pt, hpt⟩ : ∃ pt, pt = parts l.length := ⟨_, rfl⟩
 have HPTE := Lib.hid hpt
 rw [← hfr, ← hpt] at d4 d5
 rw [← hfr, ← hpt]
 clear hfr hpt
 go_upto_region 7 with fail
 refine wp_region_noPanic ?_
 refine wp_region_held_drew (S := fun w' => w'.cell? ⟨rb, 0, none⟩ = some (Value.pointer (some ⟨m, 0, none⟩)) ∧ w'.cell? ⟨rb, 1, none⟩ = some (Value.int .i64 (J.area : Int)) ∧ w'.cell? ⟨rb, 3, none⟩ = some (Value.int .i64 (J.op : Int)) ∧ w'.cell? ⟨rb, 7, none⟩ = some (Value.int .i64 (J.used : Int))) (by kernel_rfl) ?hSp (fun hHeld => ?_)
 case hSp => exact HC.out _ HJ.out.blk
 refine ztk 0 rfl ?_
 refine ztk 1 rfl ?_
 refine ztk 2 rfl ?_
 refine ztk 3 rfl ?_
 refine ztk 4 rfl ?_
 refine ztk 5 rfl ?_
 refine ztk 6 rfl ?_
 refine ztk 7 rfl ?_
 refine ztk 8 rfl ?_
 refine ztk 9 rfl ?_
 refine ztk 10 rfl ?_
 refine ztk 11 rfl ?_
 refine ztk 12 rfl ?_
 refine ztk 13 rfl ?_ (v := Value.int .i64 ((1 + J.used : Nat) : Int)) (hy := ?hyp13)
 case hyp13 => (intro wS hSw; (try dsimp only at hSw); go_simp; rw [HW1.out]; omega)
 refine ztk 14 rfl ?_
 refine ztk 15 rfl ?_
 refine ztk 16 rfl ?_
 refine ztk 17 rfl ?_
 refine ztk 18 rfl ?_
 refine ztk 20 rfl ?_
 refine zrd 19 rfl (fun K hK => ?_)
 go_simp
 refine (rnext_blk rb m J lv 0 (w.drewN k).drew HJ.out.blk (Sec.row_off HJ.out.row ((off_drew w k).trans (off_drew _ 1)) (fun _ _ q => q)) (by have := HOP.out.2; omega)).mono ?_
 rintro e wq ⟨rfl, k2, rfl⟩
 go_wp2_with fail
 refine hK.out _ _ ?q (fun hHeld => ?_)
 case q => (try dsimp only); exact HC.out _ HJ.out.blk
 clear hK K
 try simp only [zpt]
 refine zrd 21 rfl (fun K hK => ?_)
 go_simp
 rw [show (J.first : Int) + (J.recs.length : Int) = ((J.first + J.recs.length : Nat) : Int) by omega]
 have hx := rsectors_at 82 J.op (J.first + J.recs.length) l (by have := HOP.out; omega) (by have := HOP.out; omega) (by have := HLM.out; omega) (w.drewN (k + 1 + k2))
 refine hx.mono ?_
 rintro e v4 ⟨rv, rfl, hrv, hb4⟩
 obtain ⟨Arv, crv, rfl, _, _⟩ := row_len hrv
 have HRV := Lib.hid hrv
 have HG4 : Hid (w.grownBy v4 none) := ⟨hb4.os, hb4.tape, hb4.output, hb4.size, fun q hq _ => hb4.block q hq⟩
 clear hx hrv hb4
 have HB4 : Hid (RJBlk v4 rb m J lv 0) := (HG4.out.block rb (Array.getElem?_eq_some_iff.1 HJ.out.blk).1 (by simp)).trans HJ.out.blk
 go_wp2_with fail
 refine hK.out _ _ ?q (fun hHeld => ?_)
 case q => (try dsimp only); exact HC.out _ HB4.out
 clear hK K
 try simp only [zpt]
 refine zrd 22 rfl (fun K hK => ?_)
 go_simp
 refine (rwrite_list (Beside S w.heap.size v4.heap.size) m D J.area (1 + J.used) (secL 82 J.op (J.first + J.recs.length) l (parts l.length)) _ w.heap.size v4 (HR.out.next (Off.of_grown HG4.out (S := fun _ => False) (by simp)) (fun _ _ _ q => q)) beside_new HRV.out (fun g hg => beside_not (World.ownsRow.lt HRV.out g hg).1 (World.ownsRow.lt HRV.out g hg).2) HAR.out (by have := HU.out; have := HN16.out; omega) (fun x hx => by obtain ⟨i, _, rfl⟩ := List.mem_map.1 hx; rw [partB_length _ _ _ _ _ _ (chunk_le l i)]; decide) HWL.out).mono ?_
 rw [writes_put, HPUT.out]
 rintro e v5 ⟨rfl, hd5, ho5⟩
 have HD5 := Lib.hid hd5
 have HO5 := Lib.hid ho5
 clear hd5 ho5
 have HNS : Hid (¬ Beside S w.heap.size v4.heap.size rb) := fun q => q.elim (fun q => HTS.out rb HJ.out.own.1 q.1) (fun q => by have h1 := HJ.out.lt rb HJ.out.own.1; have h2 := HG4.out.size; omega)
 have HB5 : Hid (RJBlk v5 rb m J lv 0) := (HO5.out.block rb (Array.getElem?_eq_some_iff.1 HB4.out).1 HNS.out).trans HB4.out
 go_wp2_with fail
 refine hK.out _ _ ?q (fun hHeld => ?_)
 case q => (try dsimp only); exact HC.out _ HB5.out
 clear hK K
 try simp only [zpt]
 refine ztk 23 rfl ?_
 refine ztk 24 rfl ?_
 refine zrd 25 rfl (fun K hK => ?_)
 have c8 : v5.cell? ⟨rb, 8, none⟩ = some (.int .i64 0) := HB5.out.cell 8
 have f8 : v5.frozen? ⟨rb, 8, none⟩ = false := frozen_blk HB5.out 8
 go_simp
 clear c8 f8
 have HB6 := Lib.hid (rj_set HB5.out x)
 refine hK.out _ _ ?q (fun hHeld => ?_)
 case q => (try dsimp only); exact HC2.out _ HB6.out
 clear hK K
 try simp only [zpt]
 refine wpAnyH_done (by kernel_rfl) ?_ _
 refine NoPanic.normal ?_
 clear hHeld
 have c8x : (v5.setCell ⟨rb, 8, none⟩ (.int .i64 (x : Int))).cell? ⟨rb, 8, none⟩ = some (.int .i64 (x : Int)) := HB6.out.cell 8
 obtain ⟨v6, hv6⟩ : ∃ v, v = v5.setCell ⟨rb, 8, none⟩ (.int .i64 (x : Int)) := ⟨_, rfl⟩
 rw [← hv6] at c8x ⊢
 have HV6 := Lib.hid hv6
 clear hv6 c8
 go_wp2_with fail
 go_ret
 rw [HV6.out]
 exact rbrk_done HTS.out HJ.out HG4.out HD5.out HO5.out
theorem rapp_yes (S T : Nat → Prop) (rb m : Nat) (D : Dsk) (J : Jn) (l : List UInt8) (w : World) (h : RefAt w S m D) (hj : RJAt w T rb m J 0) (h4 : 4 ≤ D.n) (hlim : l.length ≤ 1048576) (hTS : ∀ b, T b → ¬ S b) (ha : J.area ≤ 1) (hu : J.used ≤ D.n / 2 - 1) (hok : parts l.length ≤ D.n / 2 - 1 - J.used) (hop : J.op ≤ 4611686018427387904 ∧ J.first + J.recs.length ≤ 4611686018427387904) (hwr : D.wr.length + 70000 < 1000000) (D' : Dsk) (hput : putsE D (J.area * (D.n / 2) + (1 + J.used)) (putF 82 J.op (J.first + J.recs.length) l) (upto (parts l.length)) = (0, D')) (hrl : J.recs.length < 100000) :
  Calls Tryz.prog 77 #[.pointer (some ⟨rb, 0, none⟩), strV l] w (RDone w S T rb m (J.app l) D') := by
 obtain ⟨lv, hj⟩ := hj
 have c8 : w.cell? ⟨rb, 8, none⟩ = some (.int .i64 0) := hj.blk.cell 8
 have d2 : decide ((1048576 : Int) < ((bs l).size : Int)) = false := by rw [bs_size]; simp; omega
 have d3 : decide (1048576 < (bs l).size) = false := by rw [bs_size]; simp; omega
 have b1 : ((bs l).size : Int) ≤ 9223372036854775807 := by rw [bs_size]; omega
 have HPT : Hid (∀ v, Calls Tryz.prog 35 #[.int .i64 ((bs l).size : Int)] v fun e w' => e = .returned (.int .i64 (parts l.length : Int)) ∧ v = w') := fun v => by rw [bs_size]; exact rparts_at l.length (by omega) v
 have HRL := Lib.hid hrl
 have HW2 : Hid (IntKind.i64.wrap ((J.used : Int) + (parts l.length : Int)) = (J.used : Int) + (parts l.length : Int)) := by show _ = _; have := h.1; rw [IntKind.wrap_i64]; omega
 clear hrl
 have d4 : decide (((D.n / 2 - 1 - J.used : Nat) : Int) < (parts l.length : Int)) = false := by simp; omega
 have d5 : decide (D.n / 2 - 1 - J.used < parts l.length) = false := by simp; omega
 have HR := Lib.hid h
 have HJ := Lib.hid hj
 have HU := Lib.hid hu
 have HN := Lib.hid h4
 have HN16 := Lib.hid h.1
 have HLM := Lib.hid hlim
 have HTS := Lib.hid hTS
 have HAR := Lib.hid ha
 have HOK := Lib.hid hok
 have HOP := Lib.hid hop
 have HWR := Lib.hid hwr
 have HPUT := Lib.hid hput
 have HWL : Hid (D.wr.length + (secL 82 J.op (J.first + J.recs.length) l (parts l.length)).length < 1000000) := by
  show _ < _
  rw [show (secL 82 J.op (J.first + J.recs.length) l (parts l.length)).length = parts l.length by simp [secL]]
  have := h.1
  omega
 have HW1 : Hid (IntKind.i64.wrap (1 + (J.used : Int)) = ((1 + J.used : Nat) : Int)) := by show _ = _; have := h.1; rw [IntKind.wrap_i64]; omega
 have HC : Hid (∀ v : World, RJBlk v rb m J lv 0 → v.cell? ⟨rb, 0, none⟩ = some (Value.pointer (some ⟨m, 0, none⟩)) ∧ v.cell? ⟨rb, 1, none⟩ = some (Value.int .i64 (J.area : Int)) ∧ v.cell? ⟨rb, 3, none⟩ = some (Value.int .i64 (J.op : Int)) ∧ v.cell? ⟨rb, 7, none⟩ = some (Value.int .i64 (J.used : Int))) := fun v hb => ⟨hb.cell 0, hb.cell 1, hb.cell 3, hb.cell 7⟩
 have HC2 : Hid (∀ v : World, RJBlk v rb m J lv 0 → v.cell? ⟨rb, 0, none⟩ = some (Value.pointer (some ⟨m, 0, none⟩)) ∧ v.cell? ⟨rb, 1, none⟩ = some (Value.int .i64 (J.area : Int)) ∧ v.cell? ⟨rb, 3, none⟩ = some (Value.int .i64 (J.op : Int)) ∧ v.cell? ⟨rb, 7, none⟩ = some (Value.int .i64 (J.used : Int))) := fun v hb => ⟨hb.cell 0, hb.cell 1, hb.cell 3, hb.cell 7⟩
 clear h hj h4 hlim hu hok hTS ha hop hwr hput
 go_enter Tryz.func77, Tryz.ntmps77
 go_wp2_with fail
 refine (HPT.out w).mono ?_
 rintro e wq ⟨rfl, rfl⟩
 go_wp2_with fail
 refine (rfree_blk rb m S D J lv 0 w HR.out HJ.out.blk HU.out HN.out).mono ?_
 rintro e wq ⟨rfl, k, rfl⟩
 obtain ⟨fr, hfr⟩ : ∃ fr, fr = D.n / 2 - 1 - J.used := ⟨_, rfl⟩
 have HFR := Lib.hid hfr
 obtain ⟨pt, hpt⟩ : ∃ pt, pt = parts l.length := ⟨_, rfl⟩
 have HPTE := Lib.hid hpt
 rw [← hfr, ← hpt] at d4 d5
 rw [← hfr, ← hpt]
 clear hfr hpt
 go_upto_region 7 with fail
 refine wp_region_noPanic ?_
 refine wp_region_held_drew (S := fun w' => w'.cell? ⟨rb, 0, none⟩ = some (Value.pointer (some ⟨m, 0, none⟩)) ∧ w'.cell? ⟨rb, 1, none⟩ = some (Value.int .i64 (J.area : Int)) ∧ w'.cell? ⟨rb, 3, none⟩ = some (Value.int .i64 (J.op : Int)) ∧ w'.cell? ⟨rb, 7, none⟩ = some (Value.int .i64 (J.used : Int))) (by kernel_rfl) ?hSp (fun hHeld => ?_)
 case hSp => exact HC.out _ HJ.out.blk
 refine ztk 0 rfl ?_
 refine ztk 1 rfl ?_
 refine ztk 2 rfl ?_
 refine ztk 3 rfl ?_
 refine ztk 4 rfl ?_
 refine ztk 5 rfl ?_
 refine ztk 6 rfl ?_
 refine ztk 7 rfl ?_
 refine ztk 8 rfl ?_
 refine ztk 9 rfl ?_
 refine ztk 10 rfl ?_
 refine ztk 11 rfl ?_
 refine ztk 12 rfl ?_
 refine ztk 13 rfl ?_ (v := Value.int .i64 ((1 + J.used : Nat) : Int)) (hy := ?hyp13)
 case hyp13 => (intro wS hSw; (try dsimp only at hSw); go_simp; rw [HW1.out]; omega)
 refine ztk 14 rfl ?_
 refine ztk 15 rfl ?_
 refine ztk 16 rfl ?_
 refine ztk 17 rfl ?_
 refine ztk 18 rfl ?_
 refine ztk 20 rfl ?_
 refine zrd 19 rfl (fun K hK => ?_)
 go_simp
 refine (rnext_blk rb m J lv 0 (w.drewN k).drew HJ.out.blk (Sec.row_off HJ.out.row ((off_drew w k).trans (off_drew _ 1)) (fun _ _ q => q)) (by have := HOP.out.2; omega)).mono ?_
 rintro e wq ⟨rfl, k2, rfl⟩
 go_wp2_with fail
 refine hK.out _ _ ?q (fun hHeld => ?_)
 case q => (try dsimp only); exact HC.out _ HJ.out.blk
 clear hK K
 try simp only [zpt]
 refine zrd 21 rfl (fun K hK => ?_)
 go_simp
 rw [show (J.first : Int) + (J.recs.length : Int) = ((J.first + J.recs.length : Nat) : Int) by omega]
 have hx := rsectors_at 82 J.op (J.first + J.recs.length) l (by have := HOP.out; omega) (by have := HOP.out; omega) (by have := HLM.out; omega) (w.drewN (k + 1 + k2))
 refine hx.mono ?_
 rintro e v4 ⟨rv, rfl, hrv, hb4⟩
 obtain ⟨Arv, crv, rfl, _, _⟩ := row_len hrv
 have HRV := Lib.hid hrv
 have HG4 : Hid (w.grownBy v4 none) := ⟨hb4.os, hb4.tape, hb4.output, hb4.size, fun q hq _ => hb4.block q hq⟩
 clear hx hrv hb4
 have HB4 : Hid (RJBlk v4 rb m J lv 0) := (HG4.out.block rb (Array.getElem?_eq_some_iff.1 HJ.out.blk).1 (by simp)).trans HJ.out.blk
 go_wp2_with fail
 refine hK.out _ _ ?q (fun hHeld => ?_)
 case q => (try dsimp only); exact HC.out _ HB4.out
 clear hK K
 try simp only [zpt]
 refine zrd 22 rfl (fun K hK => ?_)
 go_simp
 refine (rwrite_list (Beside S w.heap.size v4.heap.size) m D J.area (1 + J.used) (secL 82 J.op (J.first + J.recs.length) l (parts l.length)) _ w.heap.size v4 (HR.out.next (Off.of_grown HG4.out (S := fun _ => False) (by simp)) (fun _ _ _ q => q)) beside_new HRV.out (fun g hg => beside_not (World.ownsRow.lt HRV.out g hg).1 (World.ownsRow.lt HRV.out g hg).2) HAR.out (by have := HU.out; have := HN16.out; omega) (fun x hx => by obtain ⟨i, _, rfl⟩ := List.mem_map.1 hx; rw [partB_length _ _ _ _ _ _ (chunk_le l i)]; decide) HWL.out).mono ?_
 rw [writes_put, HPUT.out]
 rintro e v5 ⟨rfl, hd5, ho5⟩
 have HD5 := Lib.hid hd5
 have HO5 := Lib.hid ho5
 clear hd5 ho5
 have HNS : Hid (¬ Beside S w.heap.size v4.heap.size rb) := fun q => q.elim (fun q => HTS.out rb HJ.out.own.1 q.1) (fun q => by have h1 := HJ.out.lt rb HJ.out.own.1; have h2 := HG4.out.size; omega)
 have HB5 : Hid (RJBlk v5 rb m J lv 0) := (HO5.out.block rb (Array.getElem?_eq_some_iff.1 HB4.out).1 HNS.out).trans HB4.out
 go_wp2_with fail
 refine hK.out _ _ ?q (fun hHeld => ?_)
 case q => (try dsimp only); exact HC.out _ HB5.out
 clear hK K
 try simp only [zpt]
 refine ztk 23 rfl ?_
 refine ztk 24 rfl ?_
 refine zrd 25 rfl (fun K hK => ?_)
 have c8 : v5.cell? ⟨rb, 8, none⟩ = some (.int .i64 0) := HB5.out.cell 8
 have f8 : v5.frozen? ⟨rb, 8, none⟩ = false := frozen_blk HB5.out 8
 go_simp
 clear c8 f8
 have HB6 := Lib.hid (rj_set HB5.out 0)
 refine hK.out _ _ ?q (fun hHeld => ?_)
 case q => (try dsimp only); exact HC2.out _ HB6.out
 clear hK K
 try simp only [zpt]
 refine wpAnyH_done (by kernel_rfl) ?_ _
 refine NoPanic.normal ?_
 clear hHeld
 have c8x : (v5.setCell ⟨rb, 8, none⟩ (.int .i64 0)).cell? ⟨rb, 8, none⟩ = some (.int .i64 0) := HB6.out.cell 8
 obtain ⟨Al, capl, hlv, _, _⟩ := row_len HJ.out.row
 rw [recV_length] at hlv
 have c6x : (v5.setCell ⟨rb, 8, none⟩ (.int .i64 0)).cell? ⟨rb, 6, none⟩ = some (.slice Al J.recs.length capl) := by rw [← hlv]; exact HB6.out.cell 6
 have HR6 : Hid (StrRow (v5.setCell ⟨rb, 8, none⟩ (.int .i64 0)) 0 lv (recV J)) := rj_row HB5.out (Sec.row_off (Sec.row_off HJ.out.row (Off.of_grown HG4.out (S := fun _ => False) (by simp)) (fun _ _ q => q)) HO5.out (fun g hg q => q.elim (fun q => HTS.out g (HJ.out.own.2 g hg) q.1) (fun q => by have h1 := HJ.out.lt g (HJ.out.own.2 g hg); have h2 := HG4.out.size; omega))) 8 _
 have HLV := Lib.hid hlv
 obtain ⟨v6, hv6⟩ : ∃ v, v = v5.setCell ⟨rb, 8, none⟩ (.int .i64 0) := ⟨_, rfl⟩
 rw [← hv6] at c8x c6x HR6 ⊢
 have HB6b : Hid (RJBlk v6 rb m J lv 0) := by rw [hv6]; exact HB6.out
 have HV6 := Lib.hid hv6
 clear hv6 c8 hlv HB6
 have HR7 : Hid (StrRow (v6.alloc (.cells #[strV l] 9)) 0 (.slice Al J.recs.length capl) (recV J)) := by show StrRow _ _ _ _; rw [← HLV.out]; exact Sec.row_off HR6.out (Off.of_grown (World.grownBy_alloc v6 _ none) (S := fun _ => False) (by simp)) (fun _ _ q => q)
 have HB7 : Hid (RJBlk (v6.alloc (.cells #[strV l] 9)) rb m J lv 0) := ((World.grownBy_alloc v6 _ none).block rb (Array.getElem?_eq_some_iff.1 HB6b.out).1 (by simp)).trans HB6b.out
 have HLEN : Hid ((recV J).length < 100000) := by show _ < _; rw [recV_length]; exact HRL.out
 have HQ9 : Hid (∀ w9 : World, (v6.alloc (.cells #[strV l] 9)).grownBy w9 (Value.slice Al J.recs.length capl).ownBlock → RJBlk w9 rb m J lv 0) := fun w9 hg9 => (hg9.block rb (Array.getElem?_eq_some_iff.1 HB7.out).1 (fun e => row_ne_blk HR7.out HB7.out (by decide) e.symm)).trans HB7.out
 go_upto_region 9 with fail
 skip
 go_wp2_with (first
  | (at_builtin; refine wpList_append_str_own rfl (.tmp 60) (.tmp 62) rfl 0 (.slice Al J.recs.length capl) (recV J) (strV l) rfl rfl HR7.out v6.heap.size rfl (cell_new v6 (strV l) 9) HLEN.out (Nat.zero_le _) ?_; intro v9 w9 h9 hg9 hown9; (obtain ⟨A9, cap9, rfl, _, _⟩ := row_len h9); (have HB9 := Lib.hid (HQ9.out w9 hg9)); (have p6 := cell_blk HB9.out 6); (have p7 : w9.cell? ⟨rb, 7, none⟩ = some (.int .i64 (J.used : Int)) := cell_blk HB9.out 7); (have p8 : w9.cell? ⟨rb, 8, none⟩ = some (.int .i64 0) := cell_blk HB9.out 8); (have f9 := fun j => frozen_blk HB9.out j); (have HR9 := Lib.hid h9); (have HG9 := Lib.hid hg9); (have HOWN9 := Lib.hid hown9); clear h9 hg9 hown9; go_frame)
  | fail)
 rw [recV_length]
 have HB9b := HB9.out
 obtain ⟨vA, hvA⟩ : ∃ v, v = w9.setCell ⟨rb, 6, none⟩ (.slice A9 (J.recs.length + 1) cap9) := ⟨_, rfl⟩
 rw [← hvA]
 have hbA : vA.heap[rb]? = some (.cells #[.pointer (some ⟨m, 0, none⟩), .int .i64 (J.area : Int), .int .i64 (J.gen : Int), .int .i64 (J.op : Int), .int .i64 (J.first : Int), strV J.st, .slice A9 (J.recs.length + 1) cap9, .int .i64 (J.used : Int), .int .i64 0] 101) := by rw [hvA]; exact heap_setCell_same w9 rb 6 _ _ _ HB9b
 have HBA := Lib.hid hbA
 have HVA := Lib.hid hvA
 clear hvA hbA HB9b p6 p7 p8 f9
 refine wp_region_noPanic ?_
 refine wp_region_held_drew (S := fun _ => True) (by kernel_rfl) ?hSz (fun hHeld => ?_)
 case hSz => trivial
 refine ztk 0 rfl ?_
 refine ztk 1 rfl ?_
 refine ztk 2 rfl ?_
 refine ztk 3 rfl ?_
 refine ztk 5 rfl ?_
 refine ztk 6 rfl ?_
 refine zrd2 4 7 rfl rfl (fun K hK => ?_) (fun K hK => ?_)
 have p7 : vA.drew.cell? ⟨rb, 7, none⟩ = some (.int .i64 (J.used : Int)) := cell_blk HBA.out 7
 have g7 : vA.cell? ⟨rb, 7, none⟩ = some (.int .i64 (J.used : Int)) := cell_blk HBA.out 7
 go_simp
 clear p7 g7
 refine hK.out _ _ ?q (fun hHeld => ?_)
 case q => (try dsimp only); (try trivial)
 clear hK K
 try simp only [zpt]
 refine zrd 7 rfl (fun K hK => ?_)
 go_simp
 refine (HPT.out _).mono ?_
 rintro e wq ⟨rfl, hwq⟩
 subst hwq
 go_wp2_with fail
 rotate_left
 go_simp
 refine (HPT.out _).mono ?_
 rintro e wq ⟨rfl, hwq⟩
 subst hwq
 go_wp2_with fail
 refine hK.out _ _ ?q (fun hHeld => ?_)
 case q => (try dsimp only); (try trivial)
 clear hK K
 try simp only [zpt]
 refine zrd 4 rfl (fun K hK => ?_)
 have p7 : vA.drew.cell? ⟨rb, 7, none⟩ = some (.int .i64 (J.used : Int)) := cell_blk HBA.out 7
 have g7 : vA.cell? ⟨rb, 7, none⟩ = some (.int .i64 (J.used : Int)) := cell_blk HBA.out 7
 go_simp
 clear p7 g7
 rotate_left
 all_goals
  refine hK.out _ _ ?q (fun hHeld => ?_)
  case q => (try dsimp only); (try trivial)
  clear hK K
  try simp only [zpt]
  refine ztk 8 rfl ?_ (v := Value.int .i64 ((J.used + parts l.length : Nat) : Int)) (hy := ?hyzx8)
  case hyzx8 => (intro wS hSw; (try dsimp only at hSw); go_simp; rw [HW2.out]; try omega)
  refine ztk 9 rfl ?_
  refine ztk 10 rfl ?_
  refine zrd 11 rfl (fun K hK => ?_)
  have p7 : vA.drew.cell? ⟨rb, 7, none⟩ = some (.int .i64 (J.used : Int)) := cell_blk HBA.out 7
  have f7 : vA.drew.frozen? ⟨rb, 7, none⟩ = false := frozen_blk HBA.out 7
  have g7 : vA.cell? ⟨rb, 7, none⟩ = some (.int .i64 (J.used : Int)) := cell_blk HBA.out 7
  have h7 : vA.frozen? ⟨rb, 7, none⟩ = false := frozen_blk HBA.out 7
  go_simp
  clear p7 f7 g7 h7
  refine hK.out _ _ ?q (fun hHeld => ?_)
  case q => (try dsimp only); (try trivial)
  clear hK K
  try simp only [zpt]
  refine wpAnyH_done (by kernel_rfl) ?_ _
  refine NoPanic.normal ?_
  clear hHeld
  have HZ2 : Hid ((vA.setCell ⟨rb, 7, none⟩ (.int .i64 ((J.used : Int) + (parts l.length : Int)))).drew = ((w9.setCell ⟨rb, 6, none⟩ (.slice A9 (J.recs.length + 1) cap9)).drewN 1).setCell ⟨rb, 7, none⟩ (.int .i64 ((J.used + parts l.length : Nat) : Int))) := by show _ = _; rw [HVA.out, Int.natCast_add]; rfl
  obtain ⟨vB, hvB⟩ : ∃ v, v = (vA.setCell ⟨rb, 7, none⟩ (.int .i64 ((J.used : Int) + (parts l.length : Int)))).drew := ⟨_, rfl⟩
  rw [← hvB] at HZ2
  have c8y : vB.cell? ⟨rb, 8, none⟩ = some (.int .i64 0) := by rw [HZ2.out, ← HVA.out]; exact cell_blk (heap_setCell_same (vA.drewN 1) rb 7 _ _ (.int .i64 ((J.used + parts l.length : Nat) : Int)) HBA.out) 8
  rw [← hvB]
  clear hvB
  go_wp2_with fail
  go_ret
  rw [HZ2.out]
  have hR9 := HR9.out
  have hO9 := HOWN9.out
  rw [show (recV J ++ [strV l]).length = J.recs.length + 1 by simp [recV]] at hR9 hO9
  exact rapp_done HTS.out HJ.out HG4.out HD5.out HO5.out hR9 (by rw [← HV6.out, HLV.out]; exact HG9.out) (by rw [← HV6.out, HLV.out]; exact hO9) 1
structure RMid (w v : World) (S T S' : Nat → Prop) (rb m : Nat) (J : Jn) (lv : Value) (br : Nat) (D' : Dsk) : Prop where
 j : RJIn v T rb m J lv br
 d : RefAt v S' m D'
 dis : ∀ b, T b → ¬ S' b
 sub : ∀ b, S' b → (S b ∨ w.heap.size ≤ b) ∧ b < v.heap.size
 off : Off (fun b => T b ∨ S b) w v
section
variable {w v v5 v6 : World} {S T S' : Nat → Prop} {rb m br : Nat} {D D' : Dsk} {J : Jn} {lv : Value} {l : List UInt8}
theorem RMid.start (hj : RJIn w T rb m J lv br) (hd : RefAt w S m D) (hT : ∀ b, T b → ¬ S b) : RMid w w S T (fun b => S b ∧ b < w.heap.size) rb m J lv br D :=
 ⟨hj, hd.mono (fun _ hk hs => ⟨hs, hk⟩), fun b hb q => hT b hb q.1, fun _ hb => ⟨.inl hb.1, hb.2⟩, Off.refl _ _⟩
theorem RMid.grown (h : RMid w v S T S' rb m J lv br D) (hg : v.grownBy v5 none) : RMid w v5 S T S' rb m J lv br D :=
 ⟨h.j.off (Off.of_grown hg (S := fun _ => False) (by simp)) (fun _ _ q => q), h.d.grown hg, h.dis, fun b hb => ⟨(h.sub b hb).1, Nat.lt_of_lt_of_le (h.sub b hb).2 hg.size⟩, h.off.trans (Off.of_grown hg (by simp))⟩
theorem RMid.set8 (h : RMid w v S T S' rb m J lv br D) (x : Nat) : RMid w (v.setCell ⟨rb, 8, none⟩ (.int .i64 (x : Int))) S T S' rb m J lv x D := by
 have hs := grown_set v rb 8 (.int .i64 (x : Int))
 have hos : Off (fun b => b = rb) v (v.setCell ⟨rb, 8, none⟩ (.int .i64 (x : Int))) := Off.of_grown hs (fun k e => by cases e; rfl)
 exact ⟨⟨rj_set h.j.blk x, rj_row h.j.blk h.j.row 8 _, h.j.own, fun b hb => Nat.lt_of_lt_of_le (h.j.lt b hb) hos.size⟩, h.d.off hos (fun k _ hk e => h.dis rb h.j.own.1 (e ▸ hk)), h.dis, fun b hb => ⟨(h.sub b hb).1, Nat.lt_of_lt_of_le (h.sub b hb).2 hos.size⟩, h.off.trans (hos.mono (fun _ _ e => .inl (e ▸ h.j.own.1)))⟩
theorem RMid.not (h : RMid w v S T S' rb m J lv br D) (hg : v.grownBy v5 none) : ∀ b, T b → ¬ Beside S' v.heap.size v5.heap.size b := fun b hb q => q.elim (fun q => h.dis b hb q.1) (fun q => by have := h.j.lt b hb; have := hg.size; omega)
theorem RMid.write (h : RMid w v S T S' rb m J lv br D) (hg : v.grownBy v5 none) (hd : RefAt v6 (Beside S' v.heap.size v5.heap.size) m D') (ho : Off (Beside S' v.heap.size v5.heap.size) v5 v6) : RMid w v6 S T (fun b => Beside S' v.heap.size v5.heap.size b ∧ b < v6.heap.size) rb m J lv br D' := by
 have h5 := h.grown hg
 refine ⟨h5.j.off ho (h.not hg), hd.mono (fun _ hk hs => ⟨hs, hk⟩), fun b hb q => h.not hg b hb q.1, fun b hb => ⟨hb.1.elim (fun q => (h.sub b q.1).1) (fun q => .inr (Nat.le_trans h5.off.size q)), hb.2⟩, ?_⟩
 refine ⟨ho.os.trans h5.off.os, ho.tape.trans h5.off.tape, ho.output.trans h5.off.output, Nat.le_trans h5.off.size ho.size, fun k hk hs => (ho.block k (Nat.lt_of_lt_of_le hk h5.off.size) (fun q => ?_)).trans (h5.off.block k hk hs)⟩
 rcases q with q | q
 ·exact (h.sub k q.1).1.elim (fun q => hs (.inr q)) (fun q => by omega)
 ·have := h5.off.size
  omega
theorem RMid.brk (h : RMid w v S T S' rb m J lv br D) (x : Nat) (e : Ending) (he : e = .returned (.int .i64 (x : Int))) : RBrk w S T rb m J x D e (v.setCell ⟨rb, 8, none⟩ (.int .i64 (x : Int))) :=
 let h2 := h.set8 x
 ⟨he, S', ⟨lv, h2.j⟩, h2.d, h2.dis, h2.sub, h2.off⟩
def putK (y : World) (rb : Nat) (f a g : Int) (s : Value) (u : Int) : World := (((((y.setCell ⟨rb, 4, none⟩ (.int .i64 f)).setCell ⟨rb, 1, none⟩ (.int .i64 a)).setCell ⟨rb, 2, none⟩ (.int .i64 g)).setCell ⟨rb, 5, none⟩ s).setCell ⟨rb, 6, none⟩ (.slice none 0 0)).setCell ⟨rb, 7, none⟩ (.int .i64 u)
theorem putK_blk {y : World} {t : TypeId} {c0 c1 c2 c3 c4 c5 c6 c7 c8 : Value} (h : y.heap[rb]? = some (.cells #[c0, c1, c2, c3, c4, c5, c6, c7, c8] t)) (f a g : Int) (s : Value) (u : Int) : (putK y rb f a g s u).heap[rb]? = some (.cells #[c0, .int .i64 a, .int .i64 g, c3, .int .i64 f, s, .slice none 0 0, .int .i64 u, c8] t) := by
 have f1 : (y.setCell ⟨rb, 4, none⟩ (.int .i64 f)).heap[rb]? = some (.cells #[c0, c1, c2, c3, .int .i64 f, c5, c6, c7, c8] t) := heap_setCell_same _ rb 4 _ _ _ h
 have f2 : ((y.setCell ⟨rb, 4, none⟩ (.int .i64 f)).setCell ⟨rb, 1, none⟩ (.int .i64 a)).heap[rb]? = some (.cells #[c0, .int .i64 a, c2, c3, .int .i64 f, c5, c6, c7, c8] t) := heap_setCell_same _ rb 1 _ _ _ f1
 have f3 : (((y.setCell ⟨rb, 4, none⟩ (.int .i64 f)).setCell ⟨rb, 1, none⟩ (.int .i64 a)).setCell ⟨rb, 2, none⟩ (.int .i64 g)).heap[rb]? = some (.cells #[c0, .int .i64 a, .int .i64 g, c3, .int .i64 f, c5, c6, c7, c8] t) := heap_setCell_same _ rb 2 _ _ _ f2
 have f4 : ((((y.setCell ⟨rb, 4, none⟩ (.int .i64 f)).setCell ⟨rb, 1, none⟩ (.int .i64 a)).setCell ⟨rb, 2, none⟩ (.int .i64 g)).setCell ⟨rb, 5, none⟩ s).heap[rb]? = some (.cells #[c0, .int .i64 a, .int .i64 g, c3, .int .i64 f, s, c6, c7, c8] t) := heap_setCell_same _ rb 5 _ _ _ f3
 have f5 : (((((y.setCell ⟨rb, 4, none⟩ (.int .i64 f)).setCell ⟨rb, 1, none⟩ (.int .i64 a)).setCell ⟨rb, 2, none⟩ (.int .i64 g)).setCell ⟨rb, 5, none⟩ s).setCell ⟨rb, 6, none⟩ (.slice none 0 0)).heap[rb]? = some (.cells #[c0, .int .i64 a, .int .i64 g, c3, .int .i64 f, s, .slice none 0 0, c7, c8] t) := heap_setCell_same _ rb 6 _ _ _ f4
 exact heap_setCell_same _ rb 7 _ _ _ f5
theorem putK_off (y : World) (rb : Nat) (f a g : Int) (s : Value) (u : Int) : Off (fun b => b = rb) y (putK y rb f a g s u) := by
 have k : ∀ (z : World) (j : Nat) (q : Value), Off (fun b => b = rb) z (z.setCell ⟨rb, j, none⟩ q) := fun z j q => Off.of_grown (grown_set z rb j q) (fun x hx => by cases hx; rfl)
 unfold putK
 exact (((((k _ _ _).trans (k _ _ _)).trans (k _ _ _)).trans (k _ _ _)).trans (k _ _ _)).trans (k _ _ _)
theorem RMid.done (h : RMid w v S T S' rb m J lv 0 D) (e : Ending) (he : e = .returned (.int .i64 0)) : RDone w S T rb m (J.ck l) D e (putK v rb ((J.first + J.recs.length : Nat) : Int) ((1 - J.area : Nat) : Int) ((J.gen + 1 : Nat) : Int) (strV l) (parts l.length : Int)) := by
 have ho := putK_off v rb ((J.first + J.recs.length : Nat) : Int) ((1 - J.area : Nat) : Int) ((J.gen + 1 : Nat) : Int) (strV l) (parts l.length : Int)
 refine ⟨he, fun b => b = rb, S', ⟨.slice none 0 0, ⟨putK_blk h.j.blk _ _ _ _ _, ⟨rfl, .inl ⟨rfl, rfl⟩⟩, ⟨rfl, fun g hg => by simp [Value.ownBlock] at hg⟩, fun b hb => by rw [hb]; exact Nat.lt_of_lt_of_le (h.j.lt rb h.j.own.1) ho.size⟩⟩, h.d.off ho (fun k _ hk e => h.dis rb h.j.own.1 (e ▸ hk)), fun b hb => hb ▸ h.dis rb h.j.own.1, fun b hb => .inl (hb ▸ h.j.own.1), fun b hb => ⟨(h.sub b hb).1, Nat.lt_of_lt_of_le (h.sub b hb).2 ho.size⟩, h.off.trans (ho.mono (fun _ _ e => .inl (e ▸ h.j.own.1)))⟩
end
theorem rck_broken (br : Nat) (T : Nat → Prop) (rb m : Nat) (J : Jn) (l : List UInt8) (w : World) (hj : RJAt w T rb m J br) (hbr : br ≠ 0) :
  Calls Tryz.prog 76 #[.pointer (some ⟨rb, 0, none⟩), strV l] w fun e w' => e = .returned (.int .i64 (br : Int)) ∧ w = w' := by
 obtain ⟨lv, hj⟩ := hj
 have c8 : w.cell? ⟨rb, 8, none⟩ = some (.int .i64 (br : Int)) := hj.blk.cell 8
 have d1 : ((br : Int) != 0) = true := by simp; omega
 clear hj hbr
 go_enter Tryz.func76, Tryz.ntmps76
 go_wp2_with fail
 go_ret
 exact ⟨rfl, rfl⟩
theorem rck_full (S T : Nat → Prop) (rb m : Nat) (D : Dsk) (J : Jn) (l : List UInt8) (w : World) (h : RefAt w S m D) (hj : RJAt w T rb m J 0) (h4 : 4 ≤ D.n) (hlim : l.length ≤ 1048576) (hno : D.n / 2 - 1 < parts l.length) :
  Calls Tryz.prog 76 #[.pointer (some ⟨rb, 0, none⟩), strV l] w fun e w' => e = .returned (.int .i64 31) ∧ ∃ k, w' = w.drewN k := by
 obtain ⟨lv, hj⟩ := hj
 have c8 : w.cell? ⟨rb, 8, none⟩ = some (.int .i64 0) := hj.blk.cell 8
 have d2 : decide ((1048576 : Int) < ((bs l).size : Int)) = false := by rw [bs_size]; simp; omega
 have d3 : decide (1048576 < (bs l).size) = false := by rw [bs_size]; simp; omega
 have b1 : ((bs l).size : Int) ≤ 9223372036854775807 := by rw [bs_size]; omega
 have HPT : Hid (∀ v, Calls Tryz.prog 35 #[.int .i64 ((bs l).size : Int)] v fun e w' => e = .returned (.int .i64 (parts l.length : Int)) ∧ v = w') := fun v => by rw [bs_size]; exact rparts_at l.length (by omega) v
 obtain ⟨hh, hhe⟩ : ∃ x, x = D.n / 2 := ⟨_, rfl⟩
 have HHE := Lib.hid hhe
 have HHALF : Hid (∀ k, Calls Tryz.prog 92 #[.pointer (some ⟨m, 0, none⟩)] (w.drewN k) fun e w' => e = .returned (.int .i64 (hh : Int)) ∧ w' = w.drewN k) := fun k => by
  rw [hhe]
  exact (rhalf_at S m D (w.drewN k) (h.grown ⟨rfl, rfl, rfl, Nat.le_refl _, fun _ _ _ => rfl⟩)).mono fun _ _ ⟨h1, h2⟩ => ⟨h1, h2.symm⟩
 have c0 : w.cell? ⟨rb, 0, none⟩ = some (.pointer (some ⟨m, 0, none⟩)) := hj.blk.cell 0
 have hs1 : IntKind.i64.wrap ((hh : Int) - 1) = (hh : Int) - 1 := by have := h.1; rw [IntKind.wrap_i64]; omega
 obtain ⟨pt, hpt⟩ : ∃ pt, pt = parts l.length := ⟨_, rfl⟩
 rw [← hpt] at HPT
 have HPTE := Lib.hid hpt
 have d4 : decide ((hh : Int) - 1 < (pt : Int)) = true := by rw [← hhe, ← hpt] at hno; simp; omega
 have d5 : decide ((hh : Int) ≤ (pt : Int)) = true := by rw [← hhe, ← hpt] at hno; simp; omega
 clear h hj h4 hlim hno hhe hpt
 go_enter Tryz.func76, Tryz.ntmps76
 go_wp2_with fail
 go_quiet ((first | (go_at_call 35; exact Calls.quiet_of_same ((HPT.out _).mono fun _ _ ⟨h1, h2⟩ => ⟨h1, h2.symm⟩)) | (go_at_call 92; exact Calls.quiet_of_same (HHALF.out _))))
 go_wp2_with fail
 go_ret
 exact ⟨rfl, nq, rfl⟩
theorem rck_brk1 (S T : Nat → Prop) (rb m : Nat) (D : Dsk) (J : Jn) (l : List UInt8) (w : World) (h : RefAt w S m D) (hj : RJAt w T rb m J 0) (h4 : 4 ≤ D.n) (hlim : l.length ≤ 1048576) (hTS : ∀ b, T b → ¬ S b) (ha : J.area ≤ 1) (hok : parts l.length ≤ D.n / 2 - 1) (hop : J.gen ≤ 4611686018427387904 ∧ J.op ≤ 4611686018427387904 ∧ J.first + J.recs.length ≤ 4611686018427387904) (hwr : D.wr.length + 70000 < 1000000) (x : Nat) (hx : x ≠ 0) (D1 : Dsk) (hput : putsE D ((1 - J.area) * (D.n / 2) + 1) (putF 67 (J.gen + 1) 0 l) (upto (parts l.length)) = ((x : Int), D1)) :
  Calls Tryz.prog 76 #[.pointer (some ⟨rb, 0, none⟩), strV l] w (RBrk w S T rb m J x D1) := by
 obtain ⟨lv, hj⟩ := hj
 have c8 : w.cell? ⟨rb, 8, none⟩ = some (.int .i64 0) := hj.blk.cell 8
 have d2 : decide ((1048576 : Int) < ((bs l).size : Int)) = false := by rw [bs_size]; simp; omega
 have d3 : decide (1048576 < (bs l).size) = false := by rw [bs_size]; simp; omega
 have b1 : ((bs l).size : Int) ≤ 9223372036854775807 := by rw [bs_size]; omega
 have HPT : Hid (∀ v, Calls Tryz.prog 35 #[.int .i64 ((bs l).size : Int)] v fun e w' => e = .returned (.int .i64 (parts l.length : Int)) ∧ v = w') := fun v => by rw [bs_size]; exact rparts_at l.length (by omega) v
 obtain ⟨hh, hhe⟩ : ∃ x, x = D.n / 2 := ⟨_, rfl⟩
 have HHE := Lib.hid hhe
 have HHALF : Hid (∀ k, Calls Tryz.prog 92 #[.pointer (some ⟨m, 0, none⟩)] (w.drewN k) fun e w' => e = .returned (.int .i64 (hh : Int)) ∧ w' = w.drewN k) := fun k => by
  rw [hhe]
  exact (rhalf_at S m D (w.drewN k) (h.grown ⟨rfl, rfl, rfl, Nat.le_refl _, fun _ _ _ => rfl⟩)).mono fun _ _ ⟨h1, h2⟩ => ⟨h1, h2.symm⟩
 have c0 : w.cell? ⟨rb, 0, none⟩ = some (.pointer (some ⟨m, 0, none⟩)) := hj.blk.cell 0
 have hs1 : IntKind.i64.wrap ((hh : Int) - 1) = (hh : Int) - 1 := by have := h.1; rw [IntKind.wrap_i64]; omega
 obtain ⟨pt, hpt⟩ : ∃ pt, pt = parts l.length := ⟨_, rfl⟩
 rw [← hpt] at HPT
 have HPTE := Lib.hid hpt
 have dx : ((x : Int) == 0) = false := by simp; omega
 clear hx
 have d4 : decide ((hh : Int) - 1 < (pt : Int)) = false := by rw [← hhe, ← hpt] at hok; simp; omega
 have d5 : decide ((hh : Int) ≤ (pt : Int)) = false := by rw [← hhe, ← hpt] at hok; simp; omega
 have HR := Lib.hid h
 have HJ := Lib.hid hj
 have HM0 := Lib.hid (RMid.start hj h hTS)
 have HN := Lib.hid h4
 have HN16 := Lib.hid h.1
 have HLM := Lib.hid hlim
 have HAR := Lib.hid ha
 have HOK := Lib.hid hok
 have HOP := Lib.hid hop
 have HWR := Lib.hid hwr
 have HPUT := Lib.hid hput
 have c1 : w.cell? ⟨rb, 1, none⟩ = some (.int .i64 (J.area : Int)) := hj.blk.cell 1
 have n0 : IntKind.i64.wrap (1 - (J.area : Int)) = 1 - (J.area : Int) := by rw [IntKind.wrap_i64]; omega
 have HW1 : Hid (IntKind.i64.wrap ((J.gen : Int) + 1) = ((J.gen + 1 : Nat) : Int)) := by show _ = _; rw [IntKind.wrap_i64]; omega
 have HWL : Hid (D.wr.length + (secL 67 (J.gen + 1) 0 l (parts l.length)).length < 1000000) := by
  show _ < _
  rw [show (secL 67 (J.gen + 1) 0 l (parts l.length)).length = parts l.length by simp [secL]]
  have := h.1
  omega
 have HC : Hid (∀ (v : World) (br : Nat), RJBlk v rb m J lv br → v.cell? ⟨rb, 0, none⟩ = some (Value.pointer (some ⟨m, 0, none⟩)) ∧ v.cell? ⟨rb, 2, none⟩ = some (Value.int .i64 (J.gen : Int)) ∧ v.cell? ⟨rb, 3, none⟩ = some (Value.int .i64 (J.op : Int))) := fun v br hb => ⟨hb.cell 0, hb.cell 2, hb.cell 3⟩
 clear h hj h4 hlim hok hTS ha hop hwr hput hhe hpt
 go_enter Tryz.func76, Tryz.ntmps76
 go_wp2_with fail
 go_quiet ((first | (go_at_call 35; exact Calls.quiet_of_same ((HPT.out _).mono fun _ _ ⟨h1, h2⟩ => ⟨h1, h2.symm⟩)) | (go_at_call 92; exact Calls.quiet_of_same (HHALF.out _))))
 go_wp2_with fail
 refine wp_region_noPanic ?_
 refine wp_region_held_drew (S := fun w' => w'.cell? ⟨rb, 0, none⟩ = some (Value.pointer (some ⟨m, 0, none⟩)) ∧ w'.cell? ⟨rb, 2, none⟩ = some (Value.int .i64 (J.gen : Int)) ∧ w'.cell? ⟨rb, 3, none⟩ = some (Value.int .i64 (J.op : Int))) (by kernel_rfl) ?hSp (fun hHeld => ?_)
 case hSp => exact HC.out _ _ HJ.out.blk
 refine ztk 0 rfl ?_
 refine ztk 1 rfl ?_
 refine ztk 2 rfl ?_
 refine ztk 3 rfl ?_
 refine ztk 4 rfl ?_
 refine ztk 5 rfl ?_
 refine ztk 6 rfl ?_
 refine ztk 7 rfl ?_
 refine ztk 8 rfl ?_
 refine ztk 9 rfl ?_
 refine ztk 10 rfl ?_ (v := Value.int .i64 ((J.gen + 1 : Nat) : Int)) (hy := ?hyp10)
 case hyp10 => (intro wS hSw; (try dsimp only at hSw); go_simp; rw [HW1.out]; try omega)
 refine ztk 11 rfl ?_
 refine zrd 12 rfl (fun K hK => ?_)
 go_simp
 rw [show (J.gen : Int) + 1 = ((J.gen + 1 : Nat) : Int) by omega]
 have hx := rsectors_at 67 (J.gen + 1) 0 l (by have := HOP.out; omega) (by decide) (by have := HLM.out; omega) (w.drewN nq).drew
 refine hx.mono ?_
 rintro e v4 ⟨rv, rfl, hrv, hb4⟩
 obtain ⟨Arv, crv, rfl, _, _⟩ := row_len hrv
 have HRV := Lib.hid hrv
 have HG4 : Hid (w.grownBy v4 none) := ⟨hb4.os, hb4.tape, hb4.output, hb4.size, fun q hq _ => hb4.block q hq⟩
 clear hx hrv hb4
 have HM4 := Lib.hid (HM0.out.grown HG4.out)
 go_wp2_with fail
 refine hK.out _ _ ?q (fun hHeld => ?_)
 case q => (try dsimp only); exact HC.out _ _ HM4.out.j.blk
 clear hK K
 try simp only [zpt]
 refine zrd 13 rfl (fun K hK => ?_)
 go_simp
 rw [show (1 : Int) - (J.area : Int) = ((1 - J.area : Nat) : Int) by have := HAR.out; omega]
 refine (rwrite_list (Beside (fun b => S b ∧ b < w.heap.size) w.heap.size v4.heap.size) m D (1 - J.area) 1 (secL 67 (J.gen + 1) 0 l (parts l.length)) _ w.heap.size v4 (HM0.out.d.next (Off.of_grown HG4.out (S := fun _ => False) (by simp)) (fun _ _ _ q => q)) beside_new HRV.out (fun g hg => beside_not (World.ownsRow.lt HRV.out g hg).1 (World.ownsRow.lt HRV.out g hg).2) (by omega) (by decide) (fun x hx => by obtain ⟨i, _, rfl⟩ := List.mem_map.1 hx; rw [partB_length _ _ _ _ _ _ (chunk_le l i)]; decide) HWL.out).mono ?_
 rw [writes_put, HPUT.out]
 rintro e v5 ⟨rfl, hd5, ho5⟩
 have HM5 := Lib.hid (HM0.out.write HG4.out hd5 ho5)
 clear hd5 ho5
 obtain ⟨S5, hS5⟩ : ∃ S5, S5 = (fun b => Beside (fun b => S b ∧ b < w.heap.size) w.heap.size v4.heap.size b ∧ b < v5.heap.size) := ⟨_, rfl⟩
 rw [← hS5] at HM5
 clear hS5
 go_wp2_with fail
 refine hK.out _ _ ?q (fun hHeld => ?_)
 case q => (try dsimp only); exact HC.out _ _ HM5.out.j.blk
 clear hK K
 try simp only [zpt]
 refine ztk 14 rfl ?_
 refine ztk 15 rfl ?_
 refine zrd 16 rfl (fun K hK => ?_)
 have c8 : v5.cell? ⟨rb, 8, none⟩ = some (.int .i64 0) := HM5.out.j.blk.cell 8
 have f8 : v5.frozen? ⟨rb, 8, none⟩ = false := frozen_blk HM5.out.j.blk 8
 go_simp
 clear c8 f8
 have HM6 := Lib.hid (HM5.out.set8 x)
 refine hK.out _ _ ?q (fun hHeld => ?_)
 case q => (try dsimp only); exact HC.out _ _ HM6.out.j.blk
 clear hK K
 try simp only [zpt]
 refine wpAnyH_done (by kernel_rfl) ?_ _
 refine NoPanic.normal ?_
 clear hHeld
 obtain ⟨v6, hv6⟩ : ∃ v, v = v5.setCell ⟨rb, 8, none⟩ (.int .i64 (x : Int)) := ⟨_, rfl⟩
 have HV6 := Lib.hid hv6
 rw [← hv6]
 have c8x : v6.cell? ⟨rb, 8, none⟩ = some (.int .i64 (x : Int)) := by rw [hv6]; exact HM6.out.j.blk.cell 8
 clear hv6 c8
 go_wp2_with fail
 go_ret
 rw [HV6.out]
 exact HM5.out.brk x _ rfl
theorem rck_brk2 (S T : Nat → Prop) (rb m : Nat) (D : Dsk) (J : Jn) (l : List UInt8) (w : World) (h : RefAt w S m D) (hj : RJAt w T rb m J 0) (h4 : 4 ≤ D.n) (hlim : l.length ≤ 1048576) (hTS : ∀ b, T b → ¬ S b) (ha : J.area ≤ 1) (hok : parts l.length ≤ D.n / 2 - 1) (hop : J.gen ≤ 4611686018427387904 ∧ J.op ≤ 4611686018427387904 ∧ J.first + J.recs.length ≤ 4611686018427387904) (hwr : D.wr.length + 70000 < 1000000) (x : Nat) (hx : x ≠ 0) (D1 : Dsk) (hput : putsE D ((1 - J.area) * (D.n / 2) + 1) (putF 67 (J.gen + 1) 0 l) (upto (parts l.length)) = (0, D1)) (D2 : Dsk) (hseal : wrote D1 (((1 - J.area) * (D1.n / 2) : Nat) : Int) (headB (J.gen + 1) J.op (J.first + J.recs.length) l.length) = ((x : Int), D2)) :
  Calls Tryz.prog 76 #[.pointer (some ⟨rb, 0, none⟩), strV l] w (RBrk w S T rb m J x D2) := by
 obtain ⟨lv, hj⟩ := hj
 have c8 : w.cell? ⟨rb, 8, none⟩ = some (.int .i64 0) := hj.blk.cell 8
 have d2 : decide ((1048576 : Int) < ((bs l).size : Int)) = false := by rw [bs_size]; simp; omega
 have d3 : decide (1048576 < (bs l).size) = false := by rw [bs_size]; simp; omega
 have b1 : ((bs l).size : Int) ≤ 9223372036854775807 := by rw [bs_size]; omega
 have HPT : Hid (∀ v, Calls Tryz.prog 35 #[.int .i64 ((bs l).size : Int)] v fun e w' => e = .returned (.int .i64 (parts l.length : Int)) ∧ v = w') := fun v => by rw [bs_size]; exact rparts_at l.length (by omega) v
 obtain ⟨hh, hhe⟩ : ∃ x, x = D.n / 2 := ⟨_, rfl⟩
 have HHE := Lib.hid hhe
 have HHALF : Hid (∀ k, Calls Tryz.prog 92 #[.pointer (some ⟨m, 0, none⟩)] (w.drewN k) fun e w' => e = .returned (.int .i64 (hh : Int)) ∧ w' = w.drewN k) := fun k => by
  rw [hhe]
  exact (rhalf_at S m D (w.drewN k) (h.grown ⟨rfl, rfl, rfl, Nat.le_refl _, fun _ _ _ => rfl⟩)).mono fun _ _ ⟨h1, h2⟩ => ⟨h1, h2.symm⟩
 have c0 : w.cell? ⟨rb, 0, none⟩ = some (.pointer (some ⟨m, 0, none⟩)) := hj.blk.cell 0
 have hs1 : IntKind.i64.wrap ((hh : Int) - 1) = (hh : Int) - 1 := by have := h.1; rw [IntKind.wrap_i64]; omega
 obtain ⟨pt, hpt⟩ : ∃ pt, pt = parts l.length := ⟨_, rfl⟩
 rw [← hpt] at HPT
 have HPTE := Lib.hid hpt
 have dx : ((x : Int) == 0) = false := by simp; omega
 clear hx
 have d4 : decide ((hh : Int) - 1 < (pt : Int)) = false := by rw [← hhe, ← hpt] at hok; simp; omega
 have d5 : decide ((hh : Int) ≤ (pt : Int)) = false := by rw [← hhe, ← hpt] at hok; simp; omega
 have HR := Lib.hid h
 have HJ := Lib.hid hj
 have HM0 := Lib.hid (RMid.start hj h hTS)
 have HN := Lib.hid h4
 have HN16 := Lib.hid h.1
 have HLM := Lib.hid hlim
 have HAR := Lib.hid ha
 have HOK := Lib.hid hok
 have HOP := Lib.hid hop
 have HWR := Lib.hid hwr
 have HPUT := Lib.hid hput
 have c1 : w.cell? ⟨rb, 1, none⟩ = some (.int .i64 (J.area : Int)) := hj.blk.cell 1
 have n0 : IntKind.i64.wrap (1 - (J.area : Int)) = 1 - (J.area : Int) := by rw [IntKind.wrap_i64]; omega
 have HW1 : Hid (IntKind.i64.wrap ((J.gen : Int) + 1) = ((J.gen + 1 : Nat) : Int)) := by show _ = _; rw [IntKind.wrap_i64]; omega
 have HWL : Hid (D.wr.length + (secL 67 (J.gen + 1) 0 l (parts l.length)).length < 1000000) := by
  show _ < _
  rw [show (secL 67 (J.gen + 1) 0 l (parts l.length)).length = parts l.length by simp [secL]]
  have := h.1
  omega
 have HC : Hid (∀ (v : World) (br : Nat), RJBlk v rb m J lv br → v.cell? ⟨rb, 0, none⟩ = some (Value.pointer (some ⟨m, 0, none⟩)) ∧ v.cell? ⟨rb, 2, none⟩ = some (Value.int .i64 (J.gen : Int)) ∧ v.cell? ⟨rb, 3, none⟩ = some (Value.int .i64 (J.op : Int))) := fun v br hb => ⟨hb.cell 0, hb.cell 2, hb.cell 3⟩
 have HWL2 : Hid (D1.wr.length + [headB (J.gen + 1) J.op (J.first + J.recs.length) l.length].length < 1000000) := by
  show _ < _
  have h1 := putsE_size D ((1 - J.area) * (D.n / 2) + 1) (putF 67 (J.gen + 1) 0 l) (upto (parts l.length))
  rw [hput, upto_length] at h1
  have h2 := h1.2
  have h3 := h.1
  show _ + 1 < _
  have h4 : D1.wr.length ≤ D.wr.length + parts l.length := h2
  omega
 have HSEAL := Lib.hid hseal
 have HDN : Hid (D1.n = D.n) := by
  have h1 := putsE_size D ((1 - J.area) * (D.n / 2) + 1) (putF 67 (J.gen + 1) 0 l) (upto (parts l.length))
  rw [hput] at h1
  exact h1.1
 clear h hj h4 hlim hok hTS ha hop hwr hput hseal hhe hpt
 go_enter Tryz.func76, Tryz.ntmps76
 go_wp2_with fail
 go_quiet ((first | (go_at_call 35; exact Calls.quiet_of_same ((HPT.out _).mono fun _ _ ⟨h1, h2⟩ => ⟨h1, h2.symm⟩)) | (go_at_call 92; exact Calls.quiet_of_same (HHALF.out _))))
 go_wp2_with fail
 refine wp_region_noPanic ?_
 refine wp_region_held_drew (S := fun w' => w'.cell? ⟨rb, 0, none⟩ = some (Value.pointer (some ⟨m, 0, none⟩)) ∧ w'.cell? ⟨rb, 2, none⟩ = some (Value.int .i64 (J.gen : Int)) ∧ w'.cell? ⟨rb, 3, none⟩ = some (Value.int .i64 (J.op : Int))) (by kernel_rfl) ?hSp (fun hHeld => ?_)
 case hSp => exact HC.out _ _ HJ.out.blk
 refine ztk 0 rfl ?_
 refine ztk 1 rfl ?_
 refine ztk 2 rfl ?_
 refine ztk 3 rfl ?_
 refine ztk 4 rfl ?_
 refine ztk 5 rfl ?_
 refine ztk 6 rfl ?_
 refine ztk 7 rfl ?_
 refine ztk 8 rfl ?_
 refine ztk 9 rfl ?_
 refine ztk 10 rfl ?_ (v := Value.int .i64 ((J.gen + 1 : Nat) : Int)) (hy := ?hyp10)
 case hyp10 => (intro wS hSw; (try dsimp only at hSw); go_simp; rw [HW1.out]; try omega)
 refine ztk 11 rfl ?_
 refine zrd 12 rfl (fun K hK => ?_)
 go_simp
 rw [show (J.gen : Int) + 1 = ((J.gen + 1 : Nat) : Int) by omega]
 have hx := rsectors_at 67 (J.gen + 1) 0 l (by have := HOP.out; omega) (by decide) (by have := HLM.out; omega) (w.drewN nq).drew
 refine hx.mono ?_
 rintro e v4 ⟨rv, rfl, hrv, hb4⟩
 obtain ⟨Arv, crv, rfl, _, _⟩ := row_len hrv
 have HRV := Lib.hid hrv
 have HG4 : Hid (w.grownBy v4 none) := ⟨hb4.os, hb4.tape, hb4.output, hb4.size, fun q hq _ => hb4.block q hq⟩
 clear hx hrv hb4
 have HM4 := Lib.hid (HM0.out.grown HG4.out)
 go_wp2_with fail
 refine hK.out _ _ ?q (fun hHeld => ?_)
 case q => (try dsimp only); exact HC.out _ _ HM4.out.j.blk
 clear hK K
 try simp only [zpt]
 refine zrd 13 rfl (fun K hK => ?_)
 go_simp
 rw [show (1 : Int) - (J.area : Int) = ((1 - J.area : Nat) : Int) by have := HAR.out; omega]
 refine (rwrite_list (Beside (fun b => S b ∧ b < w.heap.size) w.heap.size v4.heap.size) m D (1 - J.area) 1 (secL 67 (J.gen + 1) 0 l (parts l.length)) _ w.heap.size v4 (HM0.out.d.next (Off.of_grown HG4.out (S := fun _ => False) (by simp)) (fun _ _ _ q => q)) beside_new HRV.out (fun g hg => beside_not (World.ownsRow.lt HRV.out g hg).1 (World.ownsRow.lt HRV.out g hg).2) (by omega) (by decide) (fun x hx => by obtain ⟨i, _, rfl⟩ := List.mem_map.1 hx; rw [partB_length _ _ _ _ _ _ (chunk_le l i)]; decide) HWL.out).mono ?_
 rw [writes_put, HPUT.out]
 rintro e v5 ⟨rfl, hd5, ho5⟩
 have HM5 := Lib.hid (HM0.out.write HG4.out hd5 ho5)
 clear hd5 ho5
 obtain ⟨S5, hS5⟩ : ∃ S5, S5 = (fun b => Beside (fun b => S b ∧ b < w.heap.size) w.heap.size v4.heap.size b ∧ b < v5.heap.size) := ⟨_, rfl⟩
 rw [← hS5] at HM5
 clear hS5
 go_wp2_with fail
 refine hK.out _ _ ?q (fun hHeld => ?_)
 case q => (try dsimp only); exact HC.out _ _ HM5.out.j.blk
 clear hK K
 try simp only [zpt]
 refine ztk 14 rfl ?_
 refine ztk 15 rfl ?_
 refine zrd 16 rfl (fun K hK => ?_)
 have c8 : v5.cell? ⟨rb, 8, none⟩ = some (.int .i64 0) := HM5.out.j.blk.cell 8
 have f8 : v5.frozen? ⟨rb, 8, none⟩ = false := frozen_blk HM5.out.j.blk 8
 go_simp
 clear c8 f8
 have HM6 := Lib.hid (HM5.out.set8 0)
 refine hK.out _ _ ?q (fun hHeld => ?_)
 case q => (try dsimp only); exact HC.out _ _ HM6.out.j.blk
 clear hK K
 try simp only [zpt]
 refine wpAnyH_done (by kernel_rfl) ?_ _
 refine NoPanic.normal ?_
 clear hHeld
 obtain ⟨v6, hv6⟩ : ∃ v, v = v5.setCell ⟨rb, 8, none⟩ (.int .i64 0) := ⟨_, rfl⟩
 have HV6 := Lib.hid hv6
 rw [← hv6]
 have HM6b : Hid (RMid w v6 S T S5 rb m J lv 0 D1) := by rw [hv6]; exact HM6.out
 have c8x : v6.cell? ⟨rb, 8, none⟩ = some (.int .i64 0) := HM6b.out.j.blk.cell 8
 clear hv6 c8 HM6
 go_upto_region 10 with fail
 refine wp_region_noPanic ?_
 refine wp_region_held_drew (S := fun w' => w'.cell? ⟨rb, 0, none⟩ = some (Value.pointer (some ⟨m, 0, none⟩)) ∧ w'.cell? ⟨rb, 2, none⟩ = some (Value.int .i64 (J.gen : Int)) ∧ w'.cell? ⟨rb, 3, none⟩ = some (Value.int .i64 (J.op : Int))) (by kernel_rfl) ?hSr (fun hHeld => ?_)
 case hSr => exact HC.out _ _ HM6b.out.j.blk
 refine ztk 0 rfl ?_
 refine ztk 1 rfl ?_
 refine ztk 2 rfl ?_
 refine ztk 3 rfl ?_
 refine ztk 4 rfl ?_
 refine ztk 5 rfl ?_
 refine ztk 6 rfl ?_
 refine ztk 7 rfl ?_
 refine ztk 8 rfl ?_
 refine ztk 9 rfl ?_
 refine ztk 10 rfl ?_ (v := Value.int .i64 ((J.gen + 1 : Nat) : Int)) (hy := ?hyr10)
 case hyr10 => (intro wS hSw; (try dsimp only at hSw); go_simp; rw [HW1.out]; try omega)
 refine ztk 11 rfl ?_
 refine ztk 12 rfl ?_
 refine ztk 13 rfl ?_
 refine ztk 14 rfl ?_
 refine ztk 15 rfl ?_
 refine ztk 17 rfl ?_
 refine ztk 18 rfl ?_
 refine zrd 16 rfl (fun K hK => ?_)
 go_simp
 refine (rnext_blk rb m J lv 0 v6.drew HM6b.out.j.blk (Sec.row_off HM6b.out.j.row (off_drew v6 1) (fun _ _ q => q)) (by have := HOP.out.2.2; omega)).mono ?_
 rintro e wq ⟨rfl, k2, rfl⟩
 go_wp2_with fail
 refine hK.out _ _ ?q (fun hHeld => ?_)
 case q => (try dsimp only); exact HC.out _ _ HM6b.out.j.blk
 clear hK K
 try simp only [zpt]
 refine zrd 19 rfl (fun K hK => ?_)
 go_simp
 rw [show (J.gen : Int) + 1 = ((J.gen + 1 : Nat) : Int) by omega, show (J.first : Int) + (J.recs.length : Int) = ((J.first + J.recs.length : Nat) : Int) by omega, bs_size]
 refine (rhead_at (J.gen + 1) J.op (J.first + J.recs.length) l.length (by have := HOP.out; omega) (by have := HOP.out; omega) (by have := HOP.out; omega) (by have := HLM.out; omega) _).mono ?_
 rintro e v7 ⟨rfl, hb7⟩
 obtain ⟨hd, hhd⟩ : ∃ x, x = headB (J.gen + 1) J.op (J.first + J.recs.length) l.length := ⟨_, rfl⟩
 rw [← hhd]
 have HHD := Lib.hid hhd
 clear hhd
 have HG7 : Hid (v6.grownBy v7 none) := ⟨hb7.os, hb7.tape, hb7.output, hb7.size, fun q hq _ => hb7.block q hq⟩
 clear hb7
 go_wp2_with fail
 refine hK.out _ _ ?q (fun hHeld => ?_)
 case q => (try dsimp only); exact HC.out _ _ (HM6b.out.grown HG7.out).j.blk
 clear hK K
 try simp only [zpt]
 refine zrd 20 rfl (fun K hK => ?_)
 go_simp
 obtain ⟨v8, hv8⟩ : ∃ v, v = v7.alloc (.cells #[strV hd] 9) := ⟨_, rfl⟩
 rw [← hv8]
 have HV8 : Hid (v7.grownBy v8 none ∧ v7.heap.size < v8.heap.size ∧ StrRow v8 v7.heap.size (.slice (some ⟨v7.heap.size, 0, none⟩) 1 1) [strV hd]) := by rw [hv8]; exact ⟨World.grownBy_alloc v7 _ none, by rw [World.size_alloc]; omega, str_one v7 hd⟩
 clear hv8
 have HG8 : Hid (v6.grownBy v8 none) := HG7.out.andThen HV8.out.1 (fun _ h => .inr h)
 refine hK.out _ _ ?q (fun hHeld => ?_)
 case q => (try dsimp only); exact HC.out _ _ (HM6b.out.grown HG8.out).j.blk
 clear hK K
 try simp only [zpt]
 refine zrd 21 rfl (fun K hK => ?_)
 go_simp
 refine (rwrite_list (Beside S5 v6.heap.size v8.heap.size) m D1 (1 - J.area) 0 [hd] _ v7.heap.size v8 (HM6b.out.d.next (Off.of_grown HG8.out (S := fun _ => False) (by simp)) (fun _ _ _ q => q)) beside_new HV8.out.2.2 (fun g hg => by have e : g = v7.heap.size := (Option.some.inj hg).symm; rw [e]; exact beside_not HG7.out.size HV8.out.2.1) (by omega) (by decide) (fun l hl => by rw [List.mem_singleton.1 hl, HHD.out, headB_length]; decide) HWL2.out).mono ?_
 rw [writes_one, Nat.add_zero, HHD.out, HSEAL.out]
 rintro e v9 ⟨rfl, hd9, ho9⟩
 have HM9 := Lib.hid (HM6b.out.write HG8.out hd9 ho9)
 clear hd9 ho9
 obtain ⟨S9, hS9⟩ : ∃ S9, S9 = (fun b => Beside S5 v6.heap.size v8.heap.size b ∧ b < v9.heap.size) := ⟨_, rfl⟩
 rw [← hS9] at HM9
 clear hS9
 go_wp2_with fail
 refine hK.out _ _ ?q (fun hHeld => ?_)
 case q => (try dsimp only); exact HC.out _ _ HM9.out.j.blk
 clear hK K
 try simp only [zpt]
 refine ztk 22 rfl ?_
 refine ztk 23 rfl ?_
 refine zrd 24 rfl (fun K hK => ?_)
 have c8 : v9.cell? ⟨rb, 8, none⟩ = some (.int .i64 0) := HM9.out.j.blk.cell 8
 have f8 : v9.frozen? ⟨rb, 8, none⟩ = false := frozen_blk HM9.out.j.blk 8
 go_simp
 clear c8 f8
 have HMA := Lib.hid (HM9.out.set8 x)
 refine hK.out _ _ ?q (fun hHeld => ?_)
 case q => (try dsimp only); exact HC.out _ _ HMA.out.j.blk
 clear hK K
 try simp only [zpt]
 refine wpAnyH_done (by kernel_rfl) ?_ _
 refine NoPanic.normal ?_
 clear hHeld
 obtain ⟨vA, hvA⟩ : ∃ v, v = v9.setCell ⟨rb, 8, none⟩ (.int .i64 (x : Int)) := ⟨_, rfl⟩
 have HVA := Lib.hid hvA
 rw [← hvA]
 have c8y : vA.cell? ⟨rb, 8, none⟩ = some (.int .i64 (x : Int)) := by rw [hvA]; exact HMA.out.j.blk.cell 8
 clear hvA c8x
 go_wp2_with fail
 go_ret
 rw [HVA.out]
 exact HM9.out.brk x _ rfl
theorem rck_yes (S T : Nat → Prop) (rb m : Nat) (D : Dsk) (J : Jn) (l : List UInt8) (w : World) (h : RefAt w S m D) (hj : RJAt w T rb m J 0) (h4 : 4 ≤ D.n) (hlim : l.length ≤ 1048576) (hTS : ∀ b, T b → ¬ S b) (ha : J.area ≤ 1) (hok : parts l.length ≤ D.n / 2 - 1) (hop : J.gen ≤ 4611686018427387904 ∧ J.op ≤ 4611686018427387904 ∧ J.first + J.recs.length ≤ 4611686018427387904) (hwr : D.wr.length + 70000 < 1000000) (D1 : Dsk) (hput : putsE D ((1 - J.area) * (D.n / 2) + 1) (putF 67 (J.gen + 1) 0 l) (upto (parts l.length)) = (0, D1)) (D2 : Dsk) (hseal : wrote D1 (((1 - J.area) * (D1.n / 2) : Nat) : Int) (headB (J.gen + 1) J.op (J.first + J.recs.length) l.length) = (0, D2)) :
  Calls Tryz.prog 76 #[.pointer (some ⟨rb, 0, none⟩), strV l] w (RDone w S T rb m (J.ck l) D2) := by
 obtain ⟨lv, hj⟩ := hj
 have c8 : w.cell? ⟨rb, 8, none⟩ = some (.int .i64 0) := hj.blk.cell 8
 have d2 : decide ((1048576 : Int) < ((bs l).size : Int)) = false := by rw [bs_size]; simp; omega
 have d3 : decide (1048576 < (bs l).size) = false := by rw [bs_size]; simp; omega
 have b1 : ((bs l).size : Int) ≤ 9223372036854775807 := by rw [bs_size]; omega
 have HPT : Hid (∀ v, Calls Tryz.prog 35 #[.int .i64 ((bs l).size : Int)] v fun e w' => e = .returned (.int .i64 (parts l.length : Int)) ∧ v = w') := fun v => by rw [bs_size]; exact rparts_at l.length (by omega) v
 obtain ⟨hh, hhe⟩ : ∃ x, x = D.n / 2 := ⟨_, rfl⟩
 have HHE := Lib.hid hhe
 have HHALF : Hid (∀ k, Calls Tryz.prog 92 #[.pointer (some ⟨m, 0, none⟩)] (w.drewN k) fun e w' => e = .returned (.int .i64 (hh : Int)) ∧ w' = w.drewN k) := fun k => by
  rw [hhe]
  exact (rhalf_at S m D (w.drewN k) (h.grown ⟨rfl, rfl, rfl, Nat.le_refl _, fun _ _ _ => rfl⟩)).mono fun _ _ ⟨h1, h2⟩ => ⟨h1, h2.symm⟩
 have c0 : w.cell? ⟨rb, 0, none⟩ = some (.pointer (some ⟨m, 0, none⟩)) := hj.blk.cell 0
 have hs1 : IntKind.i64.wrap ((hh : Int) - 1) = (hh : Int) - 1 := by have := h.1; rw [IntKind.wrap_i64]; omega
 obtain ⟨pt, hpt⟩ : ∃ pt, pt = parts l.length := ⟨_, rfl⟩
 rw [← hpt] at HPT
 have HPTE := Lib.hid hpt
 have d4 : decide ((hh : Int) - 1 < (pt : Int)) = false := by rw [← hhe, ← hpt] at hok; simp; omega
 have d5 : decide ((hh : Int) ≤ (pt : Int)) = false := by rw [← hhe, ← hpt] at hok; simp; omega
 have HR := Lib.hid h
 have HJ := Lib.hid hj
 have HM0 := Lib.hid (RMid.start hj h hTS)
 have HN := Lib.hid h4
 have HN16 := Lib.hid h.1
 have HLM := Lib.hid hlim
 have HAR := Lib.hid ha
 have HOK := Lib.hid hok
 have HOP := Lib.hid hop
 have HWR := Lib.hid hwr
 have HPUT := Lib.hid hput
 have c1 : w.cell? ⟨rb, 1, none⟩ = some (.int .i64 (J.area : Int)) := hj.blk.cell 1
 have n0 : IntKind.i64.wrap (1 - (J.area : Int)) = 1 - (J.area : Int) := by rw [IntKind.wrap_i64]; omega
 have HW1 : Hid (IntKind.i64.wrap ((J.gen : Int) + 1) = ((J.gen + 1 : Nat) : Int)) := by show _ = _; rw [IntKind.wrap_i64]; omega
 have HWL : Hid (D.wr.length + (secL 67 (J.gen + 1) 0 l (parts l.length)).length < 1000000) := by
  show _ < _
  rw [show (secL 67 (J.gen + 1) 0 l (parts l.length)).length = parts l.length by simp [secL]]
  have := h.1
  omega
 have HC : Hid (∀ (v : World) (br : Nat), RJBlk v rb m J lv br → v.cell? ⟨rb, 0, none⟩ = some (Value.pointer (some ⟨m, 0, none⟩)) ∧ v.cell? ⟨rb, 2, none⟩ = some (Value.int .i64 (J.gen : Int)) ∧ v.cell? ⟨rb, 3, none⟩ = some (Value.int .i64 (J.op : Int))) := fun v br hb => ⟨hb.cell 0, hb.cell 2, hb.cell 3⟩
 have HWL2 : Hid (D1.wr.length + [headB (J.gen + 1) J.op (J.first + J.recs.length) l.length].length < 1000000) := by
  show _ < _
  have h1 := putsE_size D ((1 - J.area) * (D.n / 2) + 1) (putF 67 (J.gen + 1) 0 l) (upto (parts l.length))
  rw [hput, upto_length] at h1
  have h2 := h1.2
  have h3 := h.1
  show _ + 1 < _
  have h4 : D1.wr.length ≤ D.wr.length + parts l.length := h2
  omega
 have HSEAL := Lib.hid hseal
 have HDN : Hid (D1.n = D.n) := by
  have h1 := putsE_size D ((1 - J.area) * (D.n / 2) + 1) (putF 67 (J.gen + 1) 0 l) (upto (parts l.length))
  rw [hput] at h1
  exact h1.1
 have HW3 : Hid (IntKind.i64.wrap ((J.gen : Int) + 1) = (J.gen : Int) + 1) := by show _ = _; rw [IntKind.wrap_i64]; omega
 clear h hj h4 hlim hok hTS ha hop hwr hput hseal hhe hpt
 go_enter Tryz.func76, Tryz.ntmps76
 go_wp2_with fail
 go_quiet ((first | (go_at_call 35; exact Calls.quiet_of_same ((HPT.out _).mono fun _ _ ⟨h1, h2⟩ => ⟨h1, h2.symm⟩)) | (go_at_call 92; exact Calls.quiet_of_same (HHALF.out _))))
 go_wp2_with fail
 refine wp_region_noPanic ?_
 refine wp_region_held_drew (S := fun w' => w'.cell? ⟨rb, 0, none⟩ = some (Value.pointer (some ⟨m, 0, none⟩)) ∧ w'.cell? ⟨rb, 2, none⟩ = some (Value.int .i64 (J.gen : Int)) ∧ w'.cell? ⟨rb, 3, none⟩ = some (Value.int .i64 (J.op : Int))) (by kernel_rfl) ?hSp (fun hHeld => ?_)
 case hSp => exact HC.out _ _ HJ.out.blk
 refine ztk 0 rfl ?_
 refine ztk 1 rfl ?_
 refine ztk 2 rfl ?_
 refine ztk 3 rfl ?_
 refine ztk 4 rfl ?_
 refine ztk 5 rfl ?_
 refine ztk 6 rfl ?_
 refine ztk 7 rfl ?_
 refine ztk 8 rfl ?_
 refine ztk 9 rfl ?_
 refine ztk 10 rfl ?_ (v := Value.int .i64 ((J.gen + 1 : Nat) : Int)) (hy := ?hyp10)
 case hyp10 => (intro wS hSw; (try dsimp only at hSw); go_simp; rw [HW1.out]; try omega)
 refine ztk 11 rfl ?_
 refine zrd 12 rfl (fun K hK => ?_)
 go_simp
 rw [show (J.gen : Int) + 1 = ((J.gen + 1 : Nat) : Int) by omega]
 have hx := rsectors_at 67 (J.gen + 1) 0 l (by have := HOP.out; omega) (by decide) (by have := HLM.out; omega) (w.drewN nq).drew
 refine hx.mono ?_
 rintro e v4 ⟨rv, rfl, hrv, hb4⟩
 obtain ⟨Arv, crv, rfl, _, _⟩ := row_len hrv
 have HRV := Lib.hid hrv
 have HG4 : Hid (w.grownBy v4 none) := ⟨hb4.os, hb4.tape, hb4.output, hb4.size, fun q hq _ => hb4.block q hq⟩
 clear hx hrv hb4
 have HM4 := Lib.hid (HM0.out.grown HG4.out)
 go_wp2_with fail
 refine hK.out _ _ ?q (fun hHeld => ?_)
 case q => (try dsimp only); exact HC.out _ _ HM4.out.j.blk
 clear hK K
 try simp only [zpt]
 refine zrd 13 rfl (fun K hK => ?_)
 go_simp
 rw [show (1 : Int) - (J.area : Int) = ((1 - J.area : Nat) : Int) by have := HAR.out; omega]
 refine (rwrite_list (Beside (fun b => S b ∧ b < w.heap.size) w.heap.size v4.heap.size) m D (1 - J.area) 1 (secL 67 (J.gen + 1) 0 l (parts l.length)) _ w.heap.size v4 (HM0.out.d.next (Off.of_grown HG4.out (S := fun _ => False) (by simp)) (fun _ _ _ q => q)) beside_new HRV.out (fun g hg => beside_not (World.ownsRow.lt HRV.out g hg).1 (World.ownsRow.lt HRV.out g hg).2) (by omega) (by decide) (fun x hx => by obtain ⟨i, _, rfl⟩ := List.mem_map.1 hx; rw [partB_length _ _ _ _ _ _ (chunk_le l i)]; decide) HWL.out).mono ?_
 rw [writes_put, HPUT.out]
 rintro e v5 ⟨rfl, hd5, ho5⟩
 have HM5 := Lib.hid (HM0.out.write HG4.out hd5 ho5)
 clear hd5 ho5
 obtain ⟨S5, hS5⟩ : ∃ S5, S5 = (fun b => Beside (fun b => S b ∧ b < w.heap.size) w.heap.size v4.heap.size b ∧ b < v5.heap.size) := ⟨_, rfl⟩
 rw [← hS5] at HM5
 clear hS5
 go_wp2_with fail
 refine hK.out _ _ ?q (fun hHeld => ?_)
 case q => (try dsimp only); exact HC.out _ _ HM5.out.j.blk
 clear hK K
 try simp only [zpt]
 refine ztk 14 rfl ?_
 refine ztk 15 rfl ?_
 refine zrd 16 rfl (fun K hK => ?_)
 have c8 : v5.cell? ⟨rb, 8, none⟩ = some (.int .i64 0) := HM5.out.j.blk.cell 8
 have f8 : v5.frozen? ⟨rb, 8, none⟩ = false := frozen_blk HM5.out.j.blk 8
 go_simp
 clear c8 f8
 have HM6 := Lib.hid (HM5.out.set8 0)
 refine hK.out _ _ ?q (fun hHeld => ?_)
 case q => (try dsimp only); exact HC.out _ _ HM6.out.j.blk
 clear hK K
 try simp only [zpt]
 refine wpAnyH_done (by kernel_rfl) ?_ _
 refine NoPanic.normal ?_
 clear hHeld
 obtain ⟨v6, hv6⟩ : ∃ v, v = v5.setCell ⟨rb, 8, none⟩ (.int .i64 0) := ⟨_, rfl⟩
 have HV6 := Lib.hid hv6
 rw [← hv6]
 have HM6b : Hid (RMid w v6 S T S5 rb m J lv 0 D1) := by rw [hv6]; exact HM6.out
 have c8x : v6.cell? ⟨rb, 8, none⟩ = some (.int .i64 0) := HM6b.out.j.blk.cell 8
 clear hv6 c8 HM6
 go_upto_region 10 with fail
 refine wp_region_noPanic ?_
 refine wp_region_held_drew (S := fun w' => w'.cell? ⟨rb, 0, none⟩ = some (Value.pointer (some ⟨m, 0, none⟩)) ∧ w'.cell? ⟨rb, 2, none⟩ = some (Value.int .i64 (J.gen : Int)) ∧ w'.cell? ⟨rb, 3, none⟩ = some (Value.int .i64 (J.op : Int))) (by kernel_rfl) ?hSr (fun hHeld => ?_)
 case hSr => exact HC.out _ _ HM6b.out.j.blk
 refine ztk 0 rfl ?_
 refine ztk 1 rfl ?_
 refine ztk 2 rfl ?_
 refine ztk 3 rfl ?_
 refine ztk 4 rfl ?_
 refine ztk 5 rfl ?_
 refine ztk 6 rfl ?_
 refine ztk 7 rfl ?_
 refine ztk 8 rfl ?_
 refine ztk 9 rfl ?_
 refine ztk 10 rfl ?_ (v := Value.int .i64 ((J.gen + 1 : Nat) : Int)) (hy := ?hyr10)
 case hyr10 => (intro wS hSw; (try dsimp only at hSw); go_simp; rw [HW1.out]; try omega)
 refine ztk 11 rfl ?_
 refine ztk 12 rfl ?_
 refine ztk 13 rfl ?_
 refine ztk 14 rfl ?_
 refine ztk 15 rfl ?_
 refine ztk 17 rfl ?_
 refine ztk 18 rfl ?_
 refine zrd 16 rfl (fun K hK => ?_)
 go_simp
 refine (rnext_blk rb m J lv 0 v6.drew HM6b.out.j.blk (Sec.row_off HM6b.out.j.row (off_drew v6 1) (fun _ _ q => q)) (by have := HOP.out.2.2; omega)).mono ?_
 rintro e wq ⟨rfl, k2, rfl⟩
 go_wp2_with fail
 refine hK.out _ _ ?q (fun hHeld => ?_)
 case q => (try dsimp only); exact HC.out _ _ HM6b.out.j.blk
 clear hK K
 try simp only [zpt]
 refine zrd 19 rfl (fun K hK => ?_)
 go_simp
 rw [show (J.gen : Int) + 1 = ((J.gen + 1 : Nat) : Int) by omega, show (J.first : Int) + (J.recs.length : Int) = ((J.first + J.recs.length : Nat) : Int) by omega, bs_size]
 refine (rhead_at (J.gen + 1) J.op (J.first + J.recs.length) l.length (by have := HOP.out; omega) (by have := HOP.out; omega) (by have := HOP.out; omega) (by have := HLM.out; omega) _).mono ?_
 rintro e v7 ⟨rfl, hb7⟩
 obtain ⟨hd, hhd⟩ : ∃ x, x = headB (J.gen + 1) J.op (J.first + J.recs.length) l.length := ⟨_, rfl⟩
 rw [← hhd]
 have HHD := Lib.hid hhd
 clear hhd
 have HG7 : Hid (v6.grownBy v7 none) := ⟨hb7.os, hb7.tape, hb7.output, hb7.size, fun q hq _ => hb7.block q hq⟩
 clear hb7
 go_wp2_with fail
 refine hK.out _ _ ?q (fun hHeld => ?_)
 case q => (try dsimp only); exact HC.out _ _ (HM6b.out.grown HG7.out).j.blk
 clear hK K
 try simp only [zpt]
 refine zrd 20 rfl (fun K hK => ?_)
 go_simp
 obtain ⟨v8, hv8⟩ : ∃ v, v = v7.alloc (.cells #[strV hd] 9) := ⟨_, rfl⟩
 rw [← hv8]
 have HV8 : Hid (v7.grownBy v8 none ∧ v7.heap.size < v8.heap.size ∧ StrRow v8 v7.heap.size (.slice (some ⟨v7.heap.size, 0, none⟩) 1 1) [strV hd]) := by rw [hv8]; exact ⟨World.grownBy_alloc v7 _ none, by rw [World.size_alloc]; omega, str_one v7 hd⟩
 clear hv8
 have HG8 : Hid (v6.grownBy v8 none) := HG7.out.andThen HV8.out.1 (fun _ h => .inr h)
 refine hK.out _ _ ?q (fun hHeld => ?_)
 case q => (try dsimp only); exact HC.out _ _ (HM6b.out.grown HG8.out).j.blk
 clear hK K
 try simp only [zpt]
 refine zrd 21 rfl (fun K hK => ?_)
 go_simp
 refine (rwrite_list (Beside S5 v6.heap.size v8.heap.size) m D1 (1 - J.area) 0 [hd] _ v7.heap.size v8 (HM6b.out.d.next (Off.of_grown HG8.out (S := fun _ => False) (by simp)) (fun _ _ _ q => q)) beside_new HV8.out.2.2 (fun g hg => by have e : g = v7.heap.size := (Option.some.inj hg).symm; rw [e]; exact beside_not HG7.out.size HV8.out.2.1) (by omega) (by decide) (fun l hl => by rw [List.mem_singleton.1 hl, HHD.out, headB_length]; decide) HWL2.out).mono ?_
 rw [writes_one, Nat.add_zero, HHD.out, HSEAL.out]
 rintro e v9 ⟨rfl, hd9, ho9⟩
 have HM9 := Lib.hid (HM6b.out.write HG8.out hd9 ho9)
 clear hd9 ho9
 obtain ⟨S9, hS9⟩ : ∃ S9, S9 = (fun b => Beside S5 v6.heap.size v8.heap.size b ∧ b < v9.heap.size) := ⟨_, rfl⟩
 rw [← hS9] at HM9
 clear hS9
 go_wp2_with fail
 refine hK.out _ _ ?q (fun hHeld => ?_)
 case q => (try dsimp only); exact HC.out _ _ HM9.out.j.blk
 clear hK K
 try simp only [zpt]
 refine ztk 22 rfl ?_
 refine ztk 23 rfl ?_
 refine zrd 24 rfl (fun K hK => ?_)
 have c8 : v9.cell? ⟨rb, 8, none⟩ = some (.int .i64 0) := HM9.out.j.blk.cell 8
 have f8 : v9.frozen? ⟨rb, 8, none⟩ = false := frozen_blk HM9.out.j.blk 8
 go_simp
 clear c8 f8
 have HMA := Lib.hid (HM9.out.set8 0)
 refine hK.out _ _ ?q (fun hHeld => ?_)
 case q => (try dsimp only); exact HC.out _ _ HMA.out.j.blk
 clear hK K
 try simp only [zpt]
 refine wpAnyH_done (by kernel_rfl) ?_ _
 refine NoPanic.normal ?_
 clear hHeld
 obtain ⟨vA, hvA⟩ : ∃ v, v = v9.setCell ⟨rb, 8, none⟩ (.int .i64 0) := ⟨_, rfl⟩
 have HMB : Hid (RMid w vA S T S9 rb m J lv 0 D2) := by rw [hvA]; exact HMA.out
 rw [← hvA]
 have c8y : vA.cell? ⟨rb, 8, none⟩ = some (.int .i64 0) := HMB.out.j.blk.cell 8
 clear hvA c8x HMA
 go_wp2_with fail
 refine (rnext_blk rb m J lv 0 vA HMB.out.j.blk HMB.out.j.row (by have := HOP.out.2.2; omega)).mono ?_
 rintro e wq ⟨rfl, k3, hwq⟩
 have HMC : Hid (RMid w wq S T S9 rb m J lv 0 D2) := by rw [hwq]; exact HMB.out.grown ⟨rfl, rfl, rfl, Nat.le_refl _, fun _ _ _ => rfl⟩
 clear hwq c8y
 have y0 : wq.cell? ⟨rb, 0, none⟩ = some (.pointer (some ⟨m, 0, none⟩)) := HMC.out.j.blk.cell 0
 have y1 : wq.cell? ⟨rb, 1, none⟩ = some (.int .i64 (J.area : Int)) := HMC.out.j.blk.cell 1
 have y2 : wq.cell? ⟨rb, 2, none⟩ = some (.int .i64 (J.gen : Int)) := HMC.out.j.blk.cell 2
 have y3 : wq.cell? ⟨rb, 3, none⟩ = some (.int .i64 (J.op : Int)) := HMC.out.j.blk.cell 3
 have y4 : wq.cell? ⟨rb, 4, none⟩ = some (.int .i64 (J.first : Int)) := HMC.out.j.blk.cell 4
 have y5 : wq.cell? ⟨rb, 5, none⟩ = some (strV J.st) := HMC.out.j.blk.cell 5
 have y6 : wq.cell? ⟨rb, 6, none⟩ = some (lv) := HMC.out.j.blk.cell 6
 have y7 : wq.cell? ⟨rb, 7, none⟩ = some (.int .i64 (J.used : Int)) := HMC.out.j.blk.cell 7
 have y8 : wq.cell? ⟨rb, 8, none⟩ = some (.int .i64 0) := HMC.out.j.blk.cell 8
 have yf := fun j => frozen_blk HMC.out.j.blk j
 have hw3 := HW3.out
 go_wp2_with fail
 refine (HPT.out _).mono ?_
 rintro e wr ⟨rfl, rfl⟩
 go_wp2_with fail
 go_ret
 have hend := HMC.out.done (l := l) (.returned (.int .i64 0)) rfl
 rw [← HPTE.out, Int.natCast_add, Int.natCast_add] at hend
 exact hend
end Go.Proofs.YtgdedgfohjplmaaGreat.Jnl
