/- A part of the proof of JournalKnown: JnlCk JnlPutOk JnlAppY JnlCkY JnlFit JnlFitOp. -/
import Derived.Test.YtgdedgfohjplmaaGreatK06
import Derived.Test.YtgdedgfohjplmaaGreatK04
import Derived.Test.YtgdedgfohjplmaaGreatK00
set_option maxRecDepth 100000
set_option maxHeartbeats 40000000
namespace Go.Proofs.YtgdedgfohjplmaaGreat.Jnl
open Go.RowKit Go.Maps Sec
def Jn.ck (J : Jn) (l : List UInt8) : Jn := ⟨1 - J.area, J.gen + 1, J.op, J.first + J.recs.length, l.length, l, [], parts l.length⟩
def ckP (D : Dsk) (J : Jn) (l : List UInt8) : Dsk := pushes D ((1 - J.area) * (D.n / 2) + 1) (fun i => partB 67 (J.gen + 1) 0 i (parts l.length) (chunk l i)) (upto (parts l.length))
def ckD (D : Dsk) (J : Jn) (l : List UInt8) : Dsk := (ckP D J l).push ((1 - J.area) * (D.n / 2)) (headB (J.gen + 1) J.op (J.first + J.recs.length) l.length)
theorem JBlk.putH {y : World} {hb jb d : Nat} {J : Jn} {sv rv : Value} {a b c e : Int} (h : JBlk y jb d J sv rv) (hne : hb ≠ jb) : JBlk (putH y hb a b c e) jb d J sv rv := by
 have hg : y.grownBy (Jnl.putH y hb a b c e) (some hb) := grown_trans (grown_trans (grown_trans (grown_set _ _ _ _) (grown_set _ _ _ _)) (grown_set _ _ _ _)) (grown_set _ _ _ _)
 exact (hg.block jb h.lt (fun e => hne (Option.some.inj e).symm)).trans h
theorem alloc_drew (w : World) (o : Obj) : w.grownBy (w.alloc o).drew none := let h := World.grownBy_alloc w o none; ⟨h.os, h.tape, h.output, h.size, fun k hk hn => h.block k hk hn⟩
abbrev H0 : Obj := .cells #[.int .i64 0, .int .i64 0, .int .i64 0, .int .i64 0] 47
def HC4 (a b c e : Int) : Array Value := #[.int .i64 a, .int .i64 b, .int .i64 c, .int .i64 e]
theorem six {w y : World} {k : Nat} {a b c e : Int} (hy : y = putH ((w.alloc H0).drewN k) w.heap.size a b c e) : y.heap[w.heap.size]? = some (.cells (HC4 a b c e) 47) ∧ w.grownBy y none ∧ w.heap.size < y.heap.size := by
 subst hy
 have h0 : ((w.alloc H0).drewN k).heap[w.heap.size]? = some H0 := (MapKept.heap_alloc w H0).1
 have f1 := heap_setCell_same _ w.heap.size 0 _ _ (.int .i64 a) h0
 have f2 := heap_setCell_same _ w.heap.size 1 _ _ (.int .i64 b) f1
 have f3 := heap_setCell_same _ w.heap.size 2 _ _ (.int .i64 c) f2
 have f4 := heap_setCell_same _ w.heap.size 3 _ _ (.int .i64 e) f3
 have hg0 : w.grownBy ((w.alloc H0).drewN k) none := let h := World.grownBy_alloc w H0 none; ⟨h.os, h.tape, h.output, h.size, fun k hk hn => h.block k hk hn⟩
 have hg : ((w.alloc H0).drewN k).grownBy (putH ((w.alloc H0).drewN k) w.heap.size a b c e) (some w.heap.size) := grown_trans (grown_trans (grown_trans (grown_set _ _ _ _) (grown_set _ _ _ _)) (grown_set _ _ _ _)) (grown_set _ _ _ _)
 exact ⟨f4, ⟨hg.os.trans hg0.os, hg.tape.trans hg0.tape, hg.output.trans hg0.output, Nat.le_trans hg0.size hg.size, fun j hj hn => (hg.block j (Nat.lt_of_lt_of_le hj hg0.size) (fun e => by cases e; omega)).trans (hg0.block j hj hn)⟩, (Array.getElem?_eq_some_iff.1 f4).1⟩
theorem ck_arg {w w' : World} {T : Nat → Prop} {A : Option Addr} {l : List UInt8} {cap : Nat} (h : (A = none ∧ l = [] ∧ cap = 0) ∨ ∃ g off, A = some ⟨g, off, none⟩ ∧ g < w.heap.size ∧ w.rangeAt g off (u8s l)) (ho : Off T w w') (hT : ∀ g off, A = some ⟨g, off, none⟩ → ¬ T g) : (A = none ∧ l = [] ∧ cap = 0) ∨ ∃ g off, A = some ⟨g, off, none⟩ ∧ g < w'.heap.size ∧ w'.rangeAt g off (u8s l) := by
 rcases h with h | ⟨g, off, h1, h2, h3⟩
 ·exact .inl h
 ·exact .inr ⟨g, off, h1, Nat.lt_of_lt_of_le h2 ho.size, range_keep h3 ho h2 (hT g off h1)⟩
theorem ck_arg2 {w6 w7 w8 : World} {T U : Nat → Prop} {A : Option Addr} {l : List UInt8} {cap : Nat} (h : (A = none ∧ l = [] ∧ cap = 0) ∨ ∃ g off, A = some ⟨g, off, none⟩ ∧ g < w6.heap.size ∧ w6.rangeAt g off (u8s l)) (ho : Off T w6 w7) (hT : ∀ g off, A = some ⟨g, off, none⟩ → ¬ T g) (ho2 : Off U w7 w8) (hU : ∀ g off, A = some ⟨g, off, none⟩ → ¬ U g) : (A = none ∧ l = [] ∧ cap = 0) ∨ ∃ g off, A = some ⟨g, off, none⟩ ∧ w8.rangeAt g off (u8s l) := by
 rcases ck_arg (ck_arg h ho hT) ho2 hU with h | ⟨g, off, h1, h2, h3⟩
 ·exact .inl h
 ·exact .inr ⟨g, off, h1, h3⟩
theorem ck_lt {w : World} {A : Option Addr} {l : List UInt8} {cap g off : Nat} (h : (A = none ∧ l = [] ∧ cap = 0) ∨ ∃ g off, A = some ⟨g, off, none⟩ ∧ g < w.heap.size ∧ w.rangeAt g off (u8s l)) (e : A = some ⟨g, off, none⟩) : g < w.heap.size := by
 rcases h with ⟨h, _⟩ | ⟨g2, off2, h1, h2, _⟩
 ·rw [h] at e; cases e
 ·rw [h1] at e; cases e; exact h2
theorem keepH {y : World} {hb jb j : Nat} {C : Array Value} {t : TypeId} {v : Value} (h : y.heap[hb]? = some (.cells C t)) (hne : hb ≠ jb) : (y.setCell ⟨jb, j, none⟩ v).heap[hb]? = some (.cells C t) := ((grown_set y jb j v).block hb (Array.getElem?_eq_some_iff.1 h).1 (fun e => hne (Option.some.inj e))).trans h
theorem ck_room {a n p : Nat} (ha : a ≤ 1) (hn : 4 ≤ n) (hp : p ≤ n / 2 - 1) : (1 - a) * (n / 2) + 1 + p ≤ n := by
 obtain h1 | h1 : a = 0 ∨ a = 1 := by omega
 ·rw [h1]; omega
 ·rw [h1]; omega
theorem ckP_n (D : Dsk) (J : Jn) (l : List UInt8) : (ckP D J l).n = D.n ∧ (ckP D J l).off = D.off ∧ (ckP D J l).armed = D.armed ∧ (ckP D J l).wr.length = D.wr.length + parts l.length := by
 have h := pushes_n D ((1 - J.area) * (D.n / 2) + 1) (fun i => partB 67 (J.gen + 1) 0 i (parts l.length) (chunk l i)) (upto (parts l.length))
 rw [upto_length] at h
 exact h
def putC (y : World) (jb : Nat) (a g o f n : Int) (v : Value) (u : Int) : World := (((((((y.setCell ⟨jb, 1, none⟩ (.int .i64 a)).setCell ⟨jb, 2, none⟩ (.int .i64 g)).setCell ⟨jb, 3, none⟩ (.int .i64 o)).setCell ⟨jb, 4, none⟩ (.int .i64 f)).setCell ⟨jb, 5, none⟩ (.int .i64 n)).setCell ⟨jb, 6, none⟩ v).setCell ⟨jb, 7, none⟩ (.slice none 0 0)).setCell ⟨jb, 8, none⟩ (.int .i64 u)
theorem putC_blk {y : World} {jb : Nat} {t : TypeId} {c0 c1 c2 c3 c4 c5 c6 c7 c8 c9 : Value} (h : y.heap[jb]? = some (.cells #[c0, c1, c2, c3, c4, c5, c6, c7, c8, c9] t)) (a g o f n : Int) (v : Value) (u : Int) : (putC y jb a g o f n v u).heap[jb]? = some (.cells #[c0, .int .i64 a, .int .i64 g, .int .i64 o, .int .i64 f, .int .i64 n, v, .slice none 0 0, .int .i64 u, c9] t) := by
 have f1 := heap_setCell_same _ jb 1 _ _ (.int .i64 a) h
 have f2 := heap_setCell_same _ jb 2 _ _ (.int .i64 g) f1
 have f3 := heap_setCell_same _ jb 3 _ _ (.int .i64 o) f2
 have f4 := heap_setCell_same _ jb 4 _ _ (.int .i64 f) f3
 have f5 := heap_setCell_same _ jb 5 _ _ (.int .i64 n) f4
 have f6 := heap_setCell_same _ jb 6 _ _ v f5
 have f7 := heap_setCell_same _ jb 7 _ _ (.slice none 0 0) f6
 have f8 := heap_setCell_same _ jb 8 _ _ (.int .i64 u) f7
 simp only [List.setIfInBounds_toArray, List.set_cons_zero, List.set_cons_succ] at f8
 exact f8
theorem ck_end {w w6 w7 w8 w9 x : World} {Sd S Sd7 Sd8 : Nat → Prop} {d jb : Nat} {D8 : Dsk} {J : Jn} {sv rv v : Value} {vs : List Value} {l : List UInt8} (hI : JIn w S jb d J sv rv vs) (g6 : w.grownBy w6 none) (o7 : Off Sd w6 w7) (o8 : Off Sd7 w7 w8) (b9 : Below w8.heap.size w8 w9) (hr : BRow w9 w8.heap.size v l) (hSS : ∀ b, S b → ¬ Sd b) (hs7 : ∀ b, Sd7 b → (Sd b ∨ w6.heap.size ≤ b) ∧ b < w7.heap.size) (hs8 : ∀ b, Sd8 b → (Sd7 b ∨ w7.heap.size ≤ b) ∧ b < w8.heap.size) (hd8 : DiskAt w8 Sd8 d D8)
  (hx : Off (fun _ => False) (putC w9 jb ((1 - J.area : Nat) : Int) ((J.gen + 1 : Nat) : Int) (J.op : Int) ((J.first + J.recs.length : Nat) : Int) (l.length : Int) v (parts l.length : Int)) x) :
  ∃ S' Sd', JAt x S' jb d (J.ck l) ∧ DiskAt x Sd' d D8 ∧ (∀ b, S' b → ¬ Sd' b) ∧ (∀ b, S' b → S b ∨ w.heap.size ≤ b) ∧ (∀ b, Sd' b → (Sd b ∨ w.heap.size ≤ b) ∧ b < x.heap.size) ∧ Off (fun b => S b ∨ Sd b) w x := by
 have s6 := g6.size
 have s7 := o7.size
 have s8 := o8.size
 have s9 := b9.size
 have hj0 : jb < w.heap.size := hI.blk.lt
 have hjS : ¬ Sd jb := hSS jb hI.own.1
 have hjS7 : ¬ Sd7 jb := fun h => by
  rcases (hs7 jb h).1 with h1 | h1
  ·exact hjS h1
  ·omega
 have hj9 : JBlk w9 jb d J sv rv := (b9.block jb (by omega)).trans (((hI.blk.grown g6).off o7 hjS).off o8 hjS7)
 have hgC : w9.grownBy (putC w9 jb ((1 - J.area : Nat) : Int) ((J.gen + 1 : Nat) : Int) (J.op : Int) ((J.first + J.recs.length : Nat) : Int) (l.length : Int) v (parts l.length : Int)) (some jb) :=
  grown_trans (grown_trans (grown_trans (grown_trans (grown_trans (grown_trans (grown_trans (grown_set _ _ _ _) (grown_set _ _ _ _)) (grown_set _ _ _ _)) (grown_set _ _ _ _)) (grown_set _ _ _ _)) (grown_set _ _ _ _)) (grown_set _ _ _ _)) (grown_set _ _ _ _)
 obtain ⟨y, hy⟩ : ∃ y, y = putC w9 jb ((1 - J.area : Nat) : Int) ((J.gen + 1 : Nat) : Int) (J.op : Int) ((J.first + J.recs.length : Nat) : Int) (l.length : Int) v (parts l.length : Int) := ⟨_, rfl⟩
 rw [← hy] at hx hgC
 have f9 : JBlk y jb d (J.ck l) v (.slice none 0 0) := by rw [hy]; exact putC_blk hj9 ..
 have o9y : Off (fun b => b = jb) w9 y := Off.of_grown hgC (fun k e => by cases e; rfl)
 have sy := o9y.size
 have sx := hx.size
 have hr9 : BRow y w8.heap.size v l := Sec.row_off hr o9y (fun g hg e => by have := hr.own g hg; omega)
 have o69 : Off (fun b => S b ∨ Sd b ∨ w6.heap.size ≤ b) w6 x := ((((o7.mono (fun _ _ h => .inr (.inl h))).trans (o8.mono (fun k _ h => by
  rcases (hs7 k h).1 with h1 | h1
  ·exact .inr (.inl h1)
  ·exact .inr (.inr h1)))).trans ⟨b9.os, b9.tape, b9.output, b9.size, fun k hk _ => b9.block k hk⟩).trans (o9y.mono (fun k _ e => .inl (e ▸ hI.own.1)))).trans (hx.mono (fun _ _ h => h.elim))
 have hot : Off (fun b => S b ∨ Sd b) w x := ⟨o69.os.trans g6.os, o69.tape.trans g6.tape, o69.output.trans g6.output, Nat.le_trans s6 o69.size, fun k hk hn => (o69.block k (by omega) (fun h => by
  rcases h with h | h | h
  ·exact hn (.inl h)
  ·exact hn (.inr h)
  ·omega)).trans (g6.block k hk (by simp))⟩
 have hS8 : ∀ b, Sd8 b → Sd b ∨ w.heap.size ≤ b := fun b hb => by
  rcases (hs8 b hb).1 with h1 | h1
  ·rcases (hs7 b h1).1 with h2 | h2
   ·exact .inl h2
   ·exact .inr (by omega)
  ·exact .inr (by omega)
 have hdis : ∀ b, S b → ¬ Sd8 b := fun b hb h => by
  have := hI.lt b hb
  rcases hS8 b h with h1 | h1
  ·exact hSS b hb h1
  ·omega
 have hv : ∀ g, v.ownBlock = some g → w8.heap.size ≤ g ∧ g < y.heap.size := fun g hg => by have := hr.own g hg; have := World.ownsRow.lt hr g hg; omega
 refine ⟨fun b => (S b ∨ w8.heap.size ≤ b) ∧ b < x.heap.size, Sd8, ⟨v, .slice none 0 0, [], ?_⟩, ?_, fun b hb h => ?_, fun b hb => ?_, fun b hb => ⟨hS8 b hb, by have := (hs8 b hb).2; omega⟩, hot⟩
 ·have hJy : JIn y (fun b => (S b ∨ w8.heap.size ≤ b) ∧ b < y.heap.size) jb d (J.ck l) v (.slice none 0 0) [] :=
   ⟨f9, brow_less hr9 (Nat.zero_le _), ⟨rfl, .inl ⟨rfl, rfl⟩⟩, fun i l2 hi => by simp [Jn.ck] at hi, ⟨⟨.inl hI.own.1, by omega⟩, fun g hg => ⟨.inr (hv g hg).1, (hv g hg).2⟩, fun g hg => (by cases hg), fun v hv => (by cases hv)⟩, fun b hb => hb.2⟩
  have h2 := hJy.off hx (fun _ _ h => h)
  exact ⟨h2.blk, h2.st, h2.rows, h2.recs, ⟨⟨h2.own.1.1, by omega⟩, fun g hg => ⟨(h2.own.2.1 g hg).1, by have := (h2.own.2.1 g hg).2; omega⟩, fun g hg => (by cases hg), fun v hv => (by cases hv)⟩, fun b hb => hb.2⟩
 ·have o8x : Off (fun b => b = jb) w8 x := ((⟨b9.os, b9.tape, b9.output, b9.size, fun k hk _ => b9.block k hk⟩ : Off (fun b => b = jb) w8 w9).trans o9y).trans (hx.mono (fun _ _ h => h.elim))
  exact hd8.off o8x (fun k _ hk e => hdis jb hI.own.1 (e ▸ hk))
 ·rcases hb.1 with h1 | h1
  ·exact hdis b h1 h
  ·have := (hs8 b h).2
   omega
 ·rcases hb.1 with h1 | h1
  ·exact .inl h1
  ·exact .inr (by omega)
theorem half_wrap {n : Nat} (h : n ≤ 16384) (h4 : 4 ≤ n) : wrap64 ((n : Int) / 2 - 1) = ((n / 2 - 1 : Nat) : Int) := by unfold wrap64; omega
theorem ck_no (Sd S : Nat → Prop) (d jb : Nat) (D : Dsk) (J : Jn) (l : List UInt8) (A : Option Addr) (cap : Nat) (w : World) (h : DiskAt w Sd d D) (hj : JAt w S jb d J) (h4 : 4 ≤ D.n) (hl : l.length ≤ 1048576) (hcap : l.length ≤ cap) (_ : cap ≤ maxLen) (hno : D.n / 2 - 1 < parts l.length) :
  Calls Tryz.prog 14 #[.pointer (some ⟨jb, 0, none⟩), .slice A l.length cap] w fun e w' => e = .returned (.int .i64 31) ∧ ∃ m, w' = w.drewN m := by
 have HD := Lib.hid h
 have HJ := Lib.hid hj
 have HN := Lib.hid h4
 have HE : Hid (askedJ l.length 1048576 (D.n / 2 - 1) = 31) := by
  show _ = _
  unfold askedJ
  rw [if_neg (by omega), if_pos hno]
 have HLL : Hid (l.length < 1000000000000) := by show _ < _; omega
 have HW : Hid (wrap64 ((D.n : Int) / 2 - 1) = ((D.n / 2 - 1 : Nat) : Int)) := half_wrap h.1 h4
 obtain ⟨n, hn⟩ : ∃ n, n = l.length := ⟨_, rfl⟩
 rw [← hn] at hcap ⊢
 have HNL := Lib.hid hn
 have c1 : (n : Int) ≤ (cap : Int) := by omega
 obtain ⟨sv, rv, vs, hj⟩ := HJ.out
 have HB := Lib.hid hj.blk
 clear h hj h4 hl hno hn
 go_enter Tryz.func14, Tryz.ntmps14
 go_wp2_with fail
 refine (half_at Sd d D jb J sv rv w HD.out HB.out).mono ?_
 rintro e wq ⟨rfl, hwq⟩
 have hwq := hwq.symm
 subst hwq
 go_wp2_with fail
 rw [HW.out, HNL.out]
 refine (asked_at jb d J sv rv l.length 1048576 (D.n / 2 - 1) HLL.out w HB.out).mono ?_
 rintro e wq ⟨rfl, hwq⟩
 have hwq := hwq.symm
 subst hwq
 rw [HE.out]
 go_wp2_with fail
 go_ret
 exact ⟨rfl, 0, rfl⟩
structure JEIn (w : World) (S : Nat → Prop) (jb d : Nat) (J : Jn) (sv rv : Value) (vs : List Value) (br : Int) : Prop where
 blk : JBE w jb d J sv rv br
 st : BRow w 0 sv J.st
 rows : w.ownsRow 0 28 1 rv J.recs.length vs
 recs : ∀ (i : Nat) (l : List UInt8), J.recs[i]? = some l → ∃ v, vs[i]? = some v ∧ BRow w 0 v l
 own : S jb ∧ (∀ g, sv.ownBlock = some g → S g) ∧ (∀ g, rv.ownBlock = some g → S g) ∧ ∀ v ∈ vs, ∀ g, v.ownBlock = some g → S g
 lt : ∀ b, S b → b < w.heap.size
def JE (w : World) (S : Nat → Prop) (jb d : Nat) (J : Jn) (br : Int) : Prop := ∃ sv rv vs, JEIn w S jb d J sv rv vs br
section
variable {w w' : World} {S T Sd : Nat → Prop} {jb d : Nat} {J : Jn} {sv rv : Value} {vs : List Value} {br x : Int}
theorem JEIn.ok (h : JEIn w S jb d J sv rv vs 0) : JIn w S jb d J sv rv vs := ⟨h.blk, h.st, h.rows, h.recs, h.own, h.lt⟩
theorem JIn.e (h : JIn w S jb d J sv rv vs) : JEIn w S jb d J sv rv vs 0 := ⟨h.blk, h.st, h.rows, h.recs, h.own, h.lt⟩
theorem JE.ok (h : JE w S jb d J 0) : JAt w S jb d J := by
 obtain ⟨sv, rv, vs, h⟩ := h
 exact ⟨sv, rv, vs, h.ok⟩
theorem JAt.e (h : JAt w S jb d J) : JE w S jb d J 0 := by
 obtain ⟨sv, rv, vs, h⟩ := h
 exact ⟨sv, rv, vs, h.e⟩
theorem JEIn.off (h : JEIn w S jb d J sv rv vs br) (ho : Off T w w') (hST : ∀ b, S b → ¬ T b) : JEIn w' S jb d J sv rv vs br :=
 ⟨h.blk.off ho (hST _ h.own.1), Sec.row_off h.st ho (fun g hg => hST g (h.own.2.1 g hg)), Sec.row_off h.rows ho (fun g hg => hST g (h.own.2.2.1 g hg)), fun i l hi => by
  obtain ⟨v, hv, hr⟩ := h.recs i l hi
  exact ⟨v, hv, Sec.row_off hr ho (fun g hg => hST g (h.own.2.2.2 v (List.mem_of_getElem? hv) g hg))⟩, h.own, fun b hb => Nat.lt_of_lt_of_le (h.lt b hb) ho.size⟩
theorem JE.off (h : JE w S jb d J br) (ho : Off T w w') (hST : ∀ b, S b → ¬ T b) : JE w' S jb d J br := by
 obtain ⟨sv, rv, vs, h⟩ := h
 exact ⟨sv, rv, vs, h.off ho hST⟩
theorem JEIn.broke (h : JEIn w S jb d J sv rv vs br) (hb : JBE w' jb d J sv rv x) (ho : Off (fun b => Sd b ∨ b = jb) w w') (hS : ∀ b, S b → ¬ Sd b) : JEIn w' S jb d J sv rv vs x :=
 have hne : ∀ {n : Nat} {e : TypeId} {v : Value} {xs : List Value} {B : Nat}, w.ownsRow B e 1 v n xs → e ≠ 50 → (∀ g, v.ownBlock = some g → S g) → ∀ g, v.ownBlock = some g → ¬ (Sd g ∨ g = jb) := fun hr he hs g hg q => q.elim (hS g (hs g hg)) (fun q => row_ne_blk hr h.blk he (q ▸ hg))
 ⟨hb, Sec.row_off h.st ho (hne h.st (by decide) h.own.2.1), Sec.row_off h.rows ho (hne h.rows (by decide) h.own.2.2.1), fun i l hi => by
  obtain ⟨v, hv, hr⟩ := h.recs i l hi
  exact ⟨v, hv, Sec.row_off hr ho (hne hr (by decide) (h.own.2.2.2 v (List.mem_of_getElem? hv)))⟩, h.own, fun b hb => Nat.lt_of_lt_of_le (h.lt b hb) ho.size⟩
end
theorem append_ok (D' : Dsk) (Sd S : Nat → Prop) (d jb : Nat) (D : Dsk) (J : Jn) (l : List UInt8) (A : Option Addr) (cap : Nat) (w : World) (h : DiskAt w Sd d D) (hlt : ∀ b, Sd b → b < w.heap.size) (hj : JAt w S jb d J) (hSS : ∀ b, S b → ¬ Sd b) (hwr : D.wr.length + 70000 < 1000000) (h4 : 4 ≤ D.n) (ha : J.area ≤ 1) (hu : J.used ≤ D.n / 2 - 1) (hl : l.length ≤ 1048576) (hcap : l.length ≤ cap) (hcm : cap ≤ maxLen) (hok : parts l.length ≤ D.n / 2 - 1 - J.used) (hput : putsE D (J.area * (D.n / 2) + (1 + J.used)) (putF 82 J.op (J.first + J.recs.length) l) (upto (parts l.length)) = (0, D'))
  (hop : J.op ≤ 4611686018427387904 ∧ J.first + J.recs.length ≤ 4611686018427387904) (hrl : J.recs.length < 10000000)
  (hA : (l = [] ∧ cap = 0) ∨ ∃ g off, A = some ⟨g, off, none⟩ ∧ g < w.heap.size ∧ ¬ (Sd g ∨ g = jb) ∧ w.rangeAt g off (u8s l)) :
  Calls Tryz.prog 13 #[.pointer (some ⟨jb, 0, none⟩), .slice A l.length cap] w fun e w' => e = .returned (.int .i64 0) ∧ ∃ S' Sd', JAt w' S' jb d (J.app l) ∧ DiskAt w' Sd' d D' ∧ (∀ b, S' b → ¬ Sd' b) ∧ (∀ b, S' b → S b ∨ w.heap.size ≤ b) ∧ (∀ b, Sd' b → (Sd b ∨ w.heap.size ≤ b) ∧ b < w'.heap.size) ∧ Off (fun b => S b ∨ Sd b) w w' := by
 have HD := Lib.hid h
 have HLT := Lib.hid hlt
 have HSS := Lib.hid hSS
 have HPUT := Lib.hid hput
 have HWR := Lib.hid hwr
 have HAR := Lib.hid ha
 have HJ := Lib.hid hj
 have HU := Lib.hid hu
 have HN := Lib.hid h4
 have HOP := Lib.hid hop
 have HRL := Lib.hid hrl
 have HA := Lib.hid hA
 have HE : Hid (askedJ l.length 1048576 (D.n / 2 - 1 - J.used) = 0) := by
  show _ = _
  unfold askedJ
  rw [if_neg (by omega), if_neg (by omega)]
 have HOK := Lib.hid hok
 have HLL : Hid (l.length < 1000000000000) := by show _ < _; omega
 have HLM := Lib.hid hl
 have HCM := Lib.hid hcm
 have HDN := Lib.hid h.1
 obtain ⟨n, hn⟩ : ∃ n, n = l.length := ⟨_, rfl⟩
 rw [← hn] at hcap ⊢
 have HNL := Lib.hid hn
 have HCAP := Lib.hid hcap
 have c1 : (n : Int) ≤ (cap : Int) := by omega
 clear h hlt hSS hput hwr ha hj hu h4 hl hn hop hrl hA hok hcm
 go_enter Tryz.func13, Tryz.ntmps13
 go_wp2_with fail
 refine (free_at Sd S d jb D J w HD.out HJ.out HU.out HN.out).mono ?_
 rintro e wq ⟨rfl, m, rfl⟩
 go_wp2_with fail
 obtain ⟨sv, rv, vs, hj⟩ := HJ.out
 obtain ⟨Ar, capr, hrv, hcr, hmr⟩ := row_len hj.rows
 subst hrv
 have HI := Lib.hid hj
 have HB := Lib.hid hj.blk
 have HJS : Hid (¬ Sd jb) := HSS.out jb hj.own.1
 clear hj hcr hmr
 rw [HNL.out]
 refine (asked_at jb d J sv _ l.length 1048576 (D.n / 2 - 1 - J.used) HLL.out (w.drewN m) HB.out).mono ?_
 rintro e wq ⟨rfl, rfl⟩
 rw [HE.out, ← HNL.out]
 have HC : Hid (∀ k, (w.drewN k).cell? ⟨jb, 1, none⟩ = some (.int .i64 (J.area : Int)) ∧ (w.drewN k).cell? ⟨jb, 8, none⟩ = some (.int .i64 (J.used : Int)) ∧ (w.drewN k).cell? ⟨jb, 3, none⟩ = some (.int .i64 (J.op : Int))) := fun k => ⟨HB.out.cell 1, HB.out.cell 8, HB.out.cell 3⟩
 have HW2 : Hid (IntKind.i64.wrap ((J.used : Int) + (parts n : Int)) = ((J.used + parts n : Nat) : Int)) := by
  show _ = _
  have h1 := HU.out
  have h2 := HDN.out
  have h3 := HOK.out
  rw [← HNL.out] at h3
  rw [IntKind.wrap_i64]
  omega
 have HW1 : Hid (IntKind.i64.wrap (1 + (J.used : Int)) = 1 + (J.used : Int)) := by show _ = _; have h1 := HU.out; have h2 := HDN.out; rw [IntKind.wrap_i64]; omega
 go_wp2_with fail
 refine wp_region_noPanic ?_
 refine wp_region_held_drew (S := fun w' => w'.cell? ⟨jb, 1, none⟩ = some (Value.int .i64 (J.area : Int)) ∧ w'.cell? ⟨jb, 8, none⟩ = some (Value.int .i64 (J.used : Int)) ∧ w'.cell? ⟨jb, 3, none⟩ = some (Value.int .i64 (J.op : Int))) (by kernel_rfl) ?hSp (fun hHeld => ?_)
 case hSp => exact HC.out (m + 1)
 refine ztk 0 rfl ?_
 refine ztk 1 rfl ?_
 refine ztk 2 rfl ?_
 refine ztk 3 rfl ?_
 refine ztk 4 rfl ?_
 refine ztk 5 rfl ?_
 refine ztk 6 rfl ?_
 refine ztk 7 rfl ?_
 refine ztk 8 rfl ?_
 refine ztk 9 rfl ?_ (v := Value.int .i64 (1 + (J.used : Int))) (hy := ?hyp9)
 case hyp9 => (intro wS hSw; (try dsimp only at hSw); go_simp; rw [HW1.out])
 refine ztk 10 rfl ?_
 refine ztk 11 rfl ?_
 refine ztk 12 rfl ?_
 refine ztk 13 rfl ?_
 refine ztk 14 rfl ?_
 refine ztk 15 rfl ?_
 refine ztk 17 rfl ?_
 refine zrd 16 rfl (fun K hK => ?_)
 go_simp
 refine (next_blk jb d J sv _ Ar J.recs.length capr rfl (by have := HOP.out; omega) (w.drewN m).drew HB.out).mono ?_
 rintro e wq ⟨rfl, m2, rfl⟩
 go_wp2_with fail
 refine hK.out _ _ ?q (fun hHeld => ?_)
 case q => (try dsimp only); exact HC.out (m + 1 + m2)
 clear hK K
 try simp only [zpt]
 refine zrd 18 rfl (fun K hK => ?_)
 go_simp
 rw [show (1 : Int) + (J.used : Int) = ((1 + J.used : Nat) : Int) by omega, show (J.first : Int) + (J.recs.length : Int) = ((J.first + J.recs.length : Nat) : Int) by omega, HNL.out]
 refine (put_ok 0 D' Sd d D jb J sv _ J.area (1 + J.used) 82 J.op (J.first + J.recs.length) l A cap (by have := HOP.out; omega) (by have := HOP.out; omega) (by have := HLM.out; omega) (by rw [← HNL.out]; exact HCAP.out) HCM.out (w.drewN (m + 1 + m2)) (HD.out.grown ⟨rfl, rfl, rfl, Nat.le_refl _, fun _ _ _ => rfl⟩) HLT.out HB.out HJS.out (app_room HAR.out HN.out HU.out HOK.out) (by have := HWR.out; omega) HPUT.out HA.out).mono ?_
 rw [← HNL.out]
 rintro e w5 ⟨rfl, Sd5, hd5, hj5, hs5, hjn5, ho5⟩
 have HD5 := Lib.hid hd5
 have HS5 := Lib.hid hs5
 have HO5 : Hid (Off Sd w w5) := off_same HB.out.e hj5 ⟨ho5.os, ho5.tape, ho5.output, ho5.size, ho5.block⟩
 have HB5 : Hid (JBlk w5 jb d J sv (.slice Ar J.recs.length capr)) := hj5
 clear hd5 hs5 ho5 hj5 hjn5
 go_wp2_with fail
 refine hK.out _ _ ?q (fun hHeld => ?_)
 case q => (try dsimp only); exact ⟨HB5.out.cell 1, HB5.out.cell 8, HB5.out.cell 3⟩
 clear hK K
 try simp only [zpt]
 refine wpAnyH_done (by kernel_rfl) ?_ _
 refine NoPanic.normal ?_
 clear hHeld
 have c9 : w5.cell? ⟨jb, 9, none⟩ = some (.int .i64 0) := HB5.out.cell 9
 have HI5 : Hid (JIn w5 S jb d J sv (.slice Ar J.recs.length capr) vs) := HI.out.off HO5.out HSS.out
 have HA5 : Hid ((l = [] ∧ cap = 0) ∨ ∃ g off, A = some ⟨g, off, none⟩ ∧ w5.rangeAt g off (u8s l)) := by
  show _
  rcases HA.out with h1 | ⟨g, off, h1, h2, h4, h3⟩
  ·exact .inl h1
  ·exact .inr ⟨g, off, h1, range_keep h3 HO5.out h2 (fun q => h4 (.inl q))⟩
 have HC7 : Hid (w5.cell? ⟨jb, 7, none⟩ = some (.slice Ar J.recs.length capr)) := HB5.out.cell 7
 go_upto_region 6 with fail
 refine wp_region_noPanic ?_
 refine wp_region_held_drew (S := fun _ => True) (by kernel_rfl) ?hSq (fun hHeld => ?_)
 case hSq => trivial
 refine ztk 0 rfl ?_
 refine ztk 1 rfl ?_
 refine ztk 2 rfl ?_
 refine ztk 3 rfl ?_
 refine ztk 5 rfl ?_
 refine zrd2 4 6 rfl rfl (fun K hK => ?_) (fun K hK => ?_)
 ·have c7 := HC7.out
  go_simp
  clear c7
  refine hK.out _ _ ?q (fun hHeld => ?_)
  case q => (try dsimp only); (try trivial)
  clear hK K
  try simp only [zpt]
  refine zrd 6 rfl (fun K hK => ?_)
  go_simp
  refine (clone_row A l n cap _ HNL.out.symm (by exact HA5.out) (by have := HLM.out; have := HNL.out; omega)).mono ?_
  rintro e w6 ⟨y, rfl, hr6, hb6⟩
  obtain ⟨Ay, capy, rfl, _, _⟩ := row_len hr6
  have HR6 := Lib.hid hr6
  have HB6 : Hid (Below w5.heap.size w5 w6) := ⟨hb6.os, hb6.tape, hb6.output, hb6.size, hb6.block⟩
  clear hr6 hb6
  have HC7b : Hid (w6.cell? ⟨jb, 7, none⟩ = some (.slice Ar J.recs.length capr)) := JBlk.cell ((HB6.out.block jb HI5.out.blk.lt).trans HI5.out.blk) 7
  have HM7 := Lib.hid (app_mid7 HI5.out HB6.out (World.grownBy_alloc w6 (.cells #[.slice Ay l.length capy] 28) none))
  go_wp2_with fail
  refine hK.out _ _ ?q (fun hHeld => ?_)
  case q => (try dsimp only); (try trivial)
  clear hK K
  try simp only [zpt]
  refine zrd 7 rfl (fun K hK => ?_)
  go_simp
  refine hK.out _ _ ?q (fun hHeld => ?_)
  case q => (try dsimp only); (try trivial)
  clear hK K
  try simp only [zpt]
  refine zrd 8 rfl (fun K hK => ?_)
  refine step_append_rec rfl (.tmp 43) (.tmp 46) rfl 0 (.slice Ar J.recs.length capr) (.slice Ay l.length capy) J.recs.length vs rfl HM7.out.2 w6.heap.size rfl (cell_new w6 _ _) rfl (by have := HRL.out; omega) (Nat.zero_le _) ?_
  intro v8 w8 h8 hg8 hob8
  obtain ⟨A8, cap8, rfl, _, _⟩ := row_len h8
  have HM8 := Lib.hid (app_mid8 HM7.out hg8)
  have H8 := Lib.hid h8
  have HG8 := Lib.hid hg8
  have HOB8 := Lib.hid hob8
  clear h8 hg8 hob8
  refine hK.out _ _ ?q (fun hHeld => ?_)
  case q => (try dsimp only); (try trivial)
  clear hK K
  try simp only [zpt]
  refine ztk 9 rfl ?_
  refine ztk 10 rfl ?_
  refine zrd 11 rfl (fun K hK => ?_)
  have c8 : w8.cell? ⟨jb, 7, none⟩ = some (.slice Ar J.recs.length capr) := HM8.out.cell 7
  have z8 := frozen_blk HM8.out 7
  go_simp
  clear c8 z8
  refine hK.out _ _ ?q (fun hHeld => ?_)
  case q => (try dsimp only); (try trivial)
  clear hK K
  try simp only [zpt]
  refine wpAnyH_done (by kernel_rfl) ?_ _
  refine NoPanic.normal ?_
  clear hHeld
  have HB9 := Lib.hid (heap_setCell_same w8 jb 7 _ _ (.slice A8 (J.recs.length + 1) cap8) HM8.out)
  obtain ⟨w9, hw9⟩ : ∃ x, x = w8.setCell ⟨jb, 7, none⟩ (.slice A8 (J.recs.length + 1) cap8) := ⟨_, rfl⟩
  rw [← hw9] at HB9 ⊢
  have HW9 := Lib.hid hw9
  clear hw9
  have c8 : w9.cell? ⟨jb, 8, none⟩ = some (.int .i64 (J.used : Int)) := cell_blk HB9.out 8
  have z8 : w9.frozen? ⟨jb, 8, none⟩ = false := frozen_blk HB9.out 8
  have c9 : w9.cell? ⟨jb, 9, none⟩ = some (.int .i64 0) := cell_blk HB9.out 9
  go_upto_region 7 with fail
  refine wp_region_noPanic ?_
  refine wp_region_held_drew (S := fun _ => True) (by kernel_rfl) ?hSqa7 (fun hHeld => ?_)
  case hSqa7 => trivial
  refine ztk 0 rfl ?_
  refine ztk 1 rfl ?_
  refine ztk 2 rfl ?_
  refine ztk 4 rfl ?_
  refine ztk 5 rfl ?_
  refine zrd2 3 6 rfl rfl (fun K hK => ?_) (fun K hK => ?_)
  go_simp
  refine hK.out _ _ ?q (fun hHeld => ?_)
  case q => (try dsimp only); (try trivial)
  clear hK K
  try simp only [zpt]
  refine zrd 6 rfl (fun K hK => ?_)
  go_simp
  refine (count_at n (by have h1 := HLM.out; have h2 := HNL.out; omega) _).mono ?_
  rintro e wq ⟨rfl, rfl⟩
  go_wp2_with fail
  rotate_left
  go_simp
  refine (count_at n (by have h1 := HLM.out; have h2 := HNL.out; omega) _).mono ?_
  rintro e wq ⟨rfl, rfl⟩
  go_wp2_with fail
  refine hK.out _ _ ?q (fun hHeld => ?_)
  case q => (try dsimp only); (try trivial)
  clear hK K
  try simp only [zpt]
  refine zrd 3 rfl (fun K hK => ?_)
  go_simp
  rotate_left
  all_goals
   refine hK.out _ _ ?q (fun hHeld => ?_)
   case q => (try dsimp only); (try trivial)
   clear hK K
   try simp only [zpt]
   refine zrd 7 rfl (fun K hK => ?_)
   go_simp
   rw [HW2.out]
   refine hK.out _ _ ?q (fun hHeld => ?_)
   case q => (try dsimp only); (try trivial)
   clear hK K
   try simp only [zpt]
   refine ztk 8 rfl ?_
   refine ztk 9 rfl ?_
   refine zrd 10 rfl (fun K hK => ?_)
   go_simp
   refine hK.out _ _ ?q (fun hHeld => ?_)
   case q => (try dsimp only); (try trivial)
   clear hK K
   try simp only [zpt]
   refine wpAnyH_done (by kernel_rfl) ?_ _
   refine NoPanic.normal ?_
   clear hHeld
   go_wp2_with fail
   go_ret
   refine ⟨rfl, ?_⟩
   have ho5 := HO5.out
   have h5 := HI5.out
   have hb6 := HB6.out
   have hr := HR6.out
   have h8 := H8.out
   have hg8 := HG8.out
   have hob := HOB8.out
   have hd5 := HD5.out
   have hs5 := HS5.out
   have hjw := HI.out.lt
   have hlast := app_end (x := (w9.setCell ⟨jb, 8, none⟩ (.int .i64 ((J.used : Int) + (parts n : Int)))).drew) (D5 := D') (Sd5 := Sd5) ho5 (by exact hjw) h5 hb6 (by exact hr) (World.grownBy_alloc w6 _ none) (by exact h8) (by exact hg8) (by exact hob) (by rw [HW9.out, HNL.out, Int.natCast_add]; exact ⟨rfl, rfl, rfl, Nat.le_refl _, fun _ _ _ => rfl⟩) HSS.out (by exact hs5) (by exact hd5)
   exact hlast
 ·go_simp
  refine (clone_row A l n cap _ HNL.out.symm (by exact HA5.out) (by have := HLM.out; have := HNL.out; omega)).mono ?_
  rintro e w6 ⟨y, rfl, hr6, hb6⟩
  obtain ⟨Ay, capy, rfl, _, _⟩ := row_len hr6
  have HR6 := Lib.hid hr6
  have HB6 : Hid (Below w5.heap.size w5 w6) := ⟨hb6.os, hb6.tape, hb6.output, hb6.size, hb6.block⟩
  clear hr6 hb6
  have HC7b : Hid (w6.cell? ⟨jb, 7, none⟩ = some (.slice Ar J.recs.length capr)) := JBlk.cell ((HB6.out.block jb HI5.out.blk.lt).trans HI5.out.blk) 7
  have HM7 := Lib.hid (app_mid7 HI5.out HB6.out (World.grownBy_alloc w6 (.cells #[.slice Ay l.length capy] 28) none))
  go_wp2_with fail
  refine hK.out _ _ ?q (fun hHeld => ?_)
  case q => (try dsimp only); (try trivial)
  clear hK K
  try simp only [zpt]
  refine zrd2 4 7 rfl rfl (fun K hK => ?_) (fun K hK => ?_)
  have c7 := HC7b.out
  go_simp
  clear c7
  refine hK.out _ _ ?q (fun hHeld => ?_)
  case q => (try dsimp only); (try trivial)
  clear hK K
  try simp only [zpt]
  refine zrd 7 rfl (fun K hK => ?_)
  go_simp
  rotate_left
  go_simp
  refine hK.out _ _ ?q (fun hHeld => ?_)
  case q => (try dsimp only); (try trivial)
  clear hK K
  try simp only [zpt]
  refine zrd 4 rfl (fun K hK => ?_)
  have c7 : (w6.alloc (.cells #[.slice Ay l.length capy] 28)).cell? ⟨jb, 7, none⟩ = some (.slice Ar J.recs.length capr) := HM7.out.1.cell 7
  go_simp
  clear c7
  rotate_left
  all_goals
   refine hK.out _ _ ?q (fun hHeld => ?_)
   case q => (try dsimp only); (try trivial)
   clear hK K
   try simp only [zpt]
   refine zrd 8 rfl (fun K hK => ?_)
   refine step_append_rec rfl (.tmp 43) (.tmp 46) rfl 0 (.slice Ar J.recs.length capr) (.slice Ay l.length capy) J.recs.length vs rfl HM7.out.2 w6.heap.size rfl (cell_new w6 _ _) rfl (by have := HRL.out; omega) (Nat.zero_le _) ?_
   intro v8 w8 h8 hg8 hob8
   obtain ⟨A8, cap8, rfl, _, _⟩ := row_len h8
   have HM8 := Lib.hid (app_mid8 HM7.out hg8)
   have H8 := Lib.hid h8
   have HG8 := Lib.hid hg8
   have HOB8 := Lib.hid hob8
   clear h8 hg8 hob8
   refine hK.out _ _ ?q (fun hHeld => ?_)
   case q => (try dsimp only); (try trivial)
   clear hK K
   try simp only [zpt]
   refine ztk 9 rfl ?_
   refine ztk 10 rfl ?_
   refine zrd 11 rfl (fun K hK => ?_)
   have c8 : w8.cell? ⟨jb, 7, none⟩ = some (.slice Ar J.recs.length capr) := HM8.out.cell 7
   have z8 := frozen_blk HM8.out 7
   go_simp
   clear c8 z8
   refine hK.out _ _ ?q (fun hHeld => ?_)
   case q => (try dsimp only); (try trivial)
   clear hK K
   try simp only [zpt]
   refine wpAnyH_done (by kernel_rfl) ?_ _
   refine NoPanic.normal ?_
   clear hHeld
   have HB9 := Lib.hid (heap_setCell_same w8 jb 7 _ _ (.slice A8 (J.recs.length + 1) cap8) HM8.out)
   obtain ⟨w9, hw9⟩ : ∃ x, x = w8.setCell ⟨jb, 7, none⟩ (.slice A8 (J.recs.length + 1) cap8) := ⟨_, rfl⟩
   rw [← hw9] at HB9 ⊢
   have HW9 := Lib.hid hw9
   clear hw9
   have c8 : w9.cell? ⟨jb, 8, none⟩ = some (.int .i64 (J.used : Int)) := cell_blk HB9.out 8
   have z8 : w9.frozen? ⟨jb, 8, none⟩ = false := frozen_blk HB9.out 8
   have c9 : w9.cell? ⟨jb, 9, none⟩ = some (.int .i64 0) := cell_blk HB9.out 9
   go_upto_region 7 with fail
   refine wp_region_noPanic ?_
   refine wp_region_held_drew (S := fun _ => True) (by kernel_rfl) ?hSqb7 (fun hHeld => ?_)
   case hSqb7 => trivial
   refine ztk 0 rfl ?_
   refine ztk 1 rfl ?_
   refine ztk 2 rfl ?_
   refine ztk 4 rfl ?_
   refine ztk 5 rfl ?_
   refine zrd2 3 6 rfl rfl (fun K hK => ?_) (fun K hK => ?_)
   go_simp
   refine hK.out _ _ ?q (fun hHeld => ?_)
   case q => (try dsimp only); (try trivial)
   clear hK K
   try simp only [zpt]
   refine zrd 6 rfl (fun K hK => ?_)
   go_simp
   refine (count_at n (by have h1 := HLM.out; have h2 := HNL.out; omega) _).mono ?_
   rintro e wq ⟨rfl, rfl⟩
   go_wp2_with fail
   rotate_left
   go_simp
   refine (count_at n (by have h1 := HLM.out; have h2 := HNL.out; omega) _).mono ?_
   rintro e wq ⟨rfl, rfl⟩
   go_wp2_with fail
   refine hK.out _ _ ?q (fun hHeld => ?_)
   case q => (try dsimp only); (try trivial)
   clear hK K
   try simp only [zpt]
   refine zrd 3 rfl (fun K hK => ?_)
   go_simp
   rotate_left
   all_goals
    refine hK.out _ _ ?q (fun hHeld => ?_)
    case q => (try dsimp only); (try trivial)
    clear hK K
    try simp only [zpt]
    refine zrd 7 rfl (fun K hK => ?_)
    go_simp
    rw [HW2.out]
    refine hK.out _ _ ?q (fun hHeld => ?_)
    case q => (try dsimp only); (try trivial)
    clear hK K
    try simp only [zpt]
    refine ztk 8 rfl ?_
    refine ztk 9 rfl ?_
    refine zrd 10 rfl (fun K hK => ?_)
    go_simp
    refine hK.out _ _ ?q (fun hHeld => ?_)
    case q => (try dsimp only); (try trivial)
    clear hK K
    try simp only [zpt]
    refine wpAnyH_done (by kernel_rfl) ?_ _
    refine NoPanic.normal ?_
    clear hHeld
    go_wp2_with fail
    go_ret
    refine ⟨rfl, ?_⟩
    have ho5 := HO5.out
    have h5 := HI5.out
    have hb6 := HB6.out
    have hr := HR6.out
    have h8 := H8.out
    have hg8 := HG8.out
    have hob := HOB8.out
    have hd5 := HD5.out
    have hs5 := HS5.out
    have hjw := HI.out.lt
    have hlast := app_end (x := (w9.setCell ⟨jb, 8, none⟩ (.int .i64 ((J.used : Int) + (parts n : Int)))).drew) (D5 := D') (Sd5 := Sd5) ho5 (by exact hjw) h5 hb6 (by exact hr) (World.grownBy_alloc w6 _ none) (by exact h8) (by exact hg8) (by exact hob) (by rw [HW9.out, HNL.out, Int.natCast_add]; exact ⟨rfl, rfl, rfl, Nat.le_refl _, fun _ _ _ => rfl⟩) HSS.out (by exact hs5) (by exact hd5)
    exact hlast
theorem ck_ok (D1 D2 : Dsk) (Sd S : Nat → Prop) (d jb : Nat) (D : Dsk) (J : Jn) (l : List UInt8) (A : Option Addr) (cap : Nat) (w : World) (h : DiskAt w Sd d D) (hlt : ∀ b, Sd b → b < w.heap.size) (hj : JAt w S jb d J) (hSS : ∀ b, S b → ¬ Sd b) (hwr : D.wr.length + 70000 < 1000000) (h4 : 4 ≤ D.n) (ha : J.area ≤ 1) (hl : l.length ≤ 1048576) (hcap : l.length ≤ cap) (hcm : cap ≤ maxLen) (hok : parts l.length ≤ D.n / 2 - 1) (hput : putsE D ((1 - J.area) * (D.n / 2) + 1) (putF 67 (J.gen + 1) 0 l) (upto (parts l.length)) = (0, D1)) (hseal : wrote D1 (((1 - J.area) * (D1.n / 2) : Nat) : Int) (headB (J.gen + 1) J.op (J.first + J.recs.length) l.length) = (0, D2))
  (hop : J.gen ≤ 4611686018427387904 ∧ J.op ≤ 4611686018427387904 ∧ J.first + J.recs.length ≤ 4611686018427387904)
  (hA : (A = none ∧ l = [] ∧ cap = 0) ∨ ∃ g off, A = some ⟨g, off, none⟩ ∧ g < w.heap.size ∧ w.rangeAt g off (u8s l)) (hAS : ∀ g off, A = some ⟨g, off, none⟩ → ¬ (Sd g ∨ g = jb)) :
  Calls Tryz.prog 14 #[.pointer (some ⟨jb, 0, none⟩), .slice A l.length cap] w fun e w' => e = .returned (.int .i64 0) ∧ ∃ S' Sd', JAt w' S' jb d (J.ck l) ∧ DiskAt w' Sd' d D2 ∧ (∀ b, S' b → ¬ Sd' b) ∧ (∀ b, S' b → S b ∨ w.heap.size ≤ b) ∧ (∀ b, Sd' b → (Sd b ∨ w.heap.size ≤ b) ∧ b < w'.heap.size) ∧ Off (fun b => S b ∨ Sd b) w w' := by
 have HD := Lib.hid h
 have HLT := Lib.hid hlt
 have HSS := Lib.hid hSS
 have HPUT := Lib.hid hput
 have HSEAL := Lib.hid hseal
 have HDX : Hid (D1.n = D.n ∧ D1.wr.length ≤ D.wr.length + parts l.length) := by
  have := putsE_size D ((1 - J.area) * (D.n / 2) + 1) (putF 67 (J.gen + 1) 0 l) (upto (parts l.length))
  rw [hput, upto_length] at this
  exact this
 have HWR := Lib.hid hwr
 have HAR := Lib.hid ha
 have HN := Lib.hid h4
 have HOP := Lib.hid hop
 have HA := Lib.hid hA
 have HAS := Lib.hid hAS
 have HE : Hid (askedJ l.length 1048576 (D.n / 2 - 1) = 0) := by
  show _ = _
  unfold askedJ
  rw [if_neg (by omega), if_neg (by omega)]
 have HOK := Lib.hid hok
 have HLL : Hid (l.length < 1000000000000) := by show _ < _; omega
 have HLM := Lib.hid hl
 have HCM := Lib.hid hcm
 have HDN := Lib.hid h.1
 have HW : Hid (wrap64 ((D.n : Int) / 2 - 1) = ((D.n / 2 - 1 : Nat) : Int)) := half_wrap h.1 h4
 obtain ⟨n, hn⟩ : ∃ n, n = l.length := ⟨_, rfl⟩
 rw [← hn] at hcap ⊢
 have HNL := Lib.hid hn
 have HCAP := Lib.hid hcap
 have c1 : (n : Int) ≤ (cap : Int) := by omega
 obtain ⟨sv, rv, vs, hj⟩ := hj
 obtain ⟨Ar, capr, hrv, hcr, hmr⟩ := row_len hj.rows
 subst hrv
 have HI := Lib.hid hj
 have HB := Lib.hid hj.blk
 have HJS : Hid (¬ Sd jb) := hSS jb hj.own.1
 have HW1 : Hid (IntKind.i64.wrap ((J.gen : Int) + 1) = (J.gen : Int) + 1) := by show _ = _; rw [IntKind.wrap_i64]; omega
 have HW2 : Hid (IntKind.i64.wrap (1 - (J.area : Int)) = 1 - (J.area : Int)) := by show _ = _; rw [IntKind.wrap_i64]; omega
 have HC : Hid (∀ k, (w.drewN k).cell? ⟨jb, 2, none⟩ = some (.int .i64 (J.gen : Int)) ∧ (w.drewN k).cell? ⟨jb, 3, none⟩ = some (.int .i64 (J.op : Int))) := fun k => ⟨HB.out.cell 2, HB.out.cell 3⟩
 obtain ⟨hb, hhb⟩ : ∃ hb, hb = w.heap.size := ⟨_, rfl⟩
 have HHB := Lib.hid hhb
 have HHB2 : Hid (hb ≠ jb) := by show _ ≠ _; have := HB.out.lt; omega
 have HHJ : Hid (w.heap.size ≠ jb) := by show _ ≠ _; have := HB.out.lt; omega
 clear h hlt hSS hput hseal hwr ha hj h4 hl hn hop hA hAS hok hcm hcr hmr hhb
 go_enter Tryz.func14, Tryz.ntmps14
 go_wp2_with fail
 refine (half_at Sd d D jb J sv _ w HD.out HB.out).mono ?_
 rintro e wq ⟨rfl, hwq⟩
 have hwq := hwq.symm
 subst hwq
 go_wp2_with fail
 rw [HW.out, HNL.out]
 refine (asked_at jb d J sv _ l.length 1048576 (D.n / 2 - 1) HLL.out w HB.out).mono ?_
 rintro e wq ⟨rfl, hwq⟩
 have hwq := hwq.symm
 subst hwq
 rw [HE.out, ← HNL.out]
 go_upto_region 6 with fail
 refine wp_region_noPanic ?_
 refine wp_region_held_drew (S := fun w' => w'.cell? ⟨jb, 2, none⟩ = some (Value.int .i64 (J.gen : Int)) ∧ w'.cell? ⟨jb, 3, none⟩ = some (Value.int .i64 (J.op : Int))) (by kernel_rfl) ?hSp (fun hHeld => ?_)
 case hSp => exact HC.out _
 refine ztk 0 rfl ?_
 refine ztk 1 rfl ?_
 refine ztk 2 rfl ?_
 refine ztk 3 rfl ?_
 refine ztk 4 rfl ?_
 refine ztk 5 rfl ?_ (v := Value.int .i64 ((J.gen : Int) + 1)) (hy := ?hyp5)
 case hyp5 => (intro wS hSw; (try dsimp only at hSw); go_simp; rw [HW1.out])
 refine ztk 6 rfl ?_
 refine ztk 7 rfl ?_
 refine ztk 8 rfl ?_
 refine ztk 9 rfl ?_
 refine ztk 10 rfl ?_
 refine ztk 11 rfl ?_
 refine ztk 13 rfl ?_
 refine ztk 14 rfl ?_
 refine zrd2 12 16 rfl rfl (fun K hK => ?_) (fun K hK => ?_)
 go_simp
 refine (next_blk jb d J sv _ Ar J.recs.length capr rfl (by have := HOP.out; omega) _ (by exact HB.out)).mono ?_
 rintro e wq ⟨rfl, m2, rfl⟩
 go_wp2_with fail
 refine hK.out _ _ ?q (fun hHeld => ?_)
 case q => (try dsimp only); exact HC.out _
 clear hK K
 try simp only [zpt]
 refine ztk 15 rfl ?_
 refine zrd 16 rfl (fun K hK => ?_)
 go_simp
 refine hK.out _ ((w.alloc (.cells #[.int .i64 0, .int .i64 0, .int .i64 0, .int .i64 0] 47)).drewN (1 + m2)) ?q (fun hHeld => ?_)
 case q => (try dsimp only); exact ⟨(HB.out.grown (drew_then (World.grownBy_alloc _ _ none))).cell 2, (HB.out.grown (drew_then (World.grownBy_alloc _ _ none))).cell 3⟩
 clear hK K
 try simp only [zpt]
 rotate_left
 go_simp
 refine hK.out _ _ ?q (fun hHeld => ?_)
 case q => (try dsimp only); exact ⟨(HB.out.grown (World.grownBy_alloc _ _ none)).cell 2, (HB.out.grown (World.grownBy_alloc _ _ none)).cell 3⟩
 clear hK K
 try simp only [zpt]
 refine zrd 12 rfl (fun K hK => ?_)
 go_simp
 refine (next_blk jb d J sv _ Ar J.recs.length capr rfl (by have := HOP.out; omega) _ (by exact HB.out.grown (alloc_drew _ _))).mono ?_
 rintro e wq ⟨rfl, m2, rfl⟩
 go_wp2_with fail
 refine hK.out _ _ ?q (fun hHeld => ?_)
 case q => (try dsimp only); exact ⟨(HB.out.grown (World.grownBy_alloc _ _ none)).cell 2, (HB.out.grown (World.grownBy_alloc _ _ none)).cell 3⟩
 clear hK K
 try simp only [zpt]
 refine ztk 15 rfl ?_
 rotate_left
 all_goals
  refine zrd 17 rfl (fun K hK => ?_)
  go_simp
  refine hK.out _ _ ?q (fun hHeld => ?_)
  case q => (try dsimp only); exact ⟨(JBlk.putH (HB.out.grown (drew_then (World.grownBy_alloc _ _ none))) HHJ.out).cell 2, (JBlk.putH (HB.out.grown (drew_then (World.grownBy_alloc _ _ none))) HHJ.out).cell 3⟩
  clear hK K
  try simp only [zpt]
  refine wpAnyH_done (by kernel_rfl) ?_ _
  refine NoPanic.normal ?_
  clear hHeld
  obtain ⟨w6, hw6⟩ : ∃ x, x = putH ((w.alloc H0).drewN (1 + m2)) w.heap.size ((J.gen : Int) + 1) (J.op : Int) ((J.first : Int) + (J.recs.length : Int)) (n : Int) := ⟨_, rfl⟩
  obtain ⟨h6, g6, s6⟩ := six hw6
  unfold putH at hw6
  rw [← hw6, ← HHB.out]
  rw [← HHB.out] at h6 s6
  clear hw6
  have HH6 := Lib.hid h6
  have HG6 := Lib.hid g6
  have HS6 := Lib.hid s6
  have HD6 := Lib.hid (HD.out.grown g6)
  have HB6 := Lib.hid (HB.out.grown g6)
  have HA6 : Hid ((A = none ∧ l = [] ∧ cap = 0) ∨ ∃ g off, A = some ⟨g, off, none⟩ ∧ g < w6.heap.size ∧ w6.rangeAt g off (u8s l)) := ck_arg HA.out (Off.of_grown g6 (S := fun _ => False) (by simp)) (fun _ _ _ h => h)
  clear h6 g6 s6
  go_upto_region 7 with fail
  refine wp_region_noPanic ?_
  refine wp_region_held_drew (S := fun w' => w'.cell? ⟨jb, 1, none⟩ = some (Value.int .i64 (J.area : Int)) ∧ w'.cell? ⟨hb, 0, none⟩ = some (Value.int .i64 ((J.gen : Int) + 1))) (by kernel_rfl) ?hSpx7 (fun hHeld => ?_)
  case hSpx7 => exact ⟨HB6.out.cell 1, cell_blk HH6.out 0⟩
  refine ztk 0 rfl ?_
  refine ztk 1 rfl ?_
  refine ztk 2 rfl ?_
  refine ztk 3 rfl ?_
  refine ztk 4 rfl ?_
  refine ztk 5 rfl ?_ (v := Value.int .i64 (1 - (J.area : Int))) (hy := ?hypx75)
  case hypx75 => (intro wS hSw; (try dsimp only at hSw); go_simp; rw [HW2.out])
  refine ztk 6 rfl ?_
  refine ztk 7 rfl ?_
  refine ztk 8 rfl ?_
  refine zrd 9 rfl (fun K hK => ?_)
  go_simp
  rw [show (1 : Int) - (J.area : Int) = ((1 - J.area : Nat) : Int) by have := HAR.out; omega, show (J.gen : Int) + 1 = ((J.gen + 1 : Nat) : Int) by omega, HNL.out]
  refine (put_ok 0 D1 Sd d D jb J sv _ (1 - J.area) 1 67 (J.gen + 1) 0 l A cap (by have := HOP.out; omega) (by decide) (by have := HLM.out; omega) (by rw [← HNL.out]; exact HCAP.out) HCM.out w6.drew (HD6.out.grown ⟨rfl, rfl, rfl, Nat.le_refl _, fun _ _ _ => rfl⟩) (fun b hb => Nat.lt_of_lt_of_le (HLT.out b hb) HG6.out.size) HB6.out HJS.out (ck_room HAR.out HN.out HOK.out) (by have := HWR.out; omega) HPUT.out (HA6.out.imp (fun h => h.2) (fun ⟨g, off, e, h1, h2⟩ => ⟨g, off, e, h1, HAS.out g off e, h2⟩))).mono ?_
  rw [← HNL.out]
  rintro e w7 ⟨rfl, Sd7, hd7, hj7, hs7, hjn7, ho7⟩
  have HD7 := Lib.hid hd7
  have HS7 := Lib.hid hs7
  have HO7 : Hid (Off Sd w6 w7) := off_same HB6.out.e hj7 ⟨ho7.os, ho7.tape, ho7.output, ho7.size, ho7.block⟩
  have HB7 : Hid (JBlk w7 jb d J sv (.slice Ar J.recs.length capr)) := hj7
  have HHN : Hid (¬ Sd hb) := fun h => by have h1 := HLT.out _ h; have h2 := HHB.out; omega
  have HH7 : Hid (w7.heap[hb]? = _) := (HO7.out.block hb HS6.out HHN.out).trans HH6.out
  have HJ7 : Hid (¬ Sd7 jb) := fun h => by
   rcases (HS7.out _ h).1 with h1 | h1
   ·exact HJS.out h1
   ·have h2 := HB6.out.lt
    have h3 : w6.heap.size ≤ jb := h1
    omega
  have HH7N : Hid (¬ Sd7 hb) := fun h => by
   rcases (HS7.out _ h).1 with h1 | h1
   ·exact HHN.out h1
   ·have h2 := HS6.out
    have h3 : w6.heap.size ≤ hb := h1
    omega
  have HAS7 : Hid (∀ g off, A = some ⟨g, off, none⟩ → ¬ Sd7 g) := fun g off e h => by
   rcases (HS7.out _ h).1 with h1 | h1
   ·exact HAS.out g off e (.inl h1)
   ·have h2 := HG6.out.size
    have h3 : w6.heap.size ≤ g := h1
    have h4 := ck_lt HA.out e
    omega
  clear hd7 hs7 ho7 hj7 hjn7
  go_wp2_with fail
  refine hK.out _ _ ?q (fun hHeld => ?_)
  case q => (try dsimp only); exact ⟨HB7.out.cell 1, cell_blk HH7.out 0⟩
  clear hK K
  try simp only [zpt]
  refine wpAnyH_done (by kernel_rfl) ?_ _
  refine NoPanic.normal ?_
  clear hHeld
  go_upto_region 8 with fail
  refine wp_region_noPanic ?_
  refine wp_region_held_drew (S := fun w' => w'.cell? ⟨jb, 1, none⟩ = some (Value.int .i64 (J.area : Int)) ∧ w'.cell? ⟨hb, 0, none⟩ = some (Value.int .i64 ((J.gen : Int) + 1)) ∧ w'.cell? ⟨hb, 1, none⟩ = some (Value.int .i64 (J.op : Int)) ∧ w'.cell? ⟨hb, 2, none⟩ = some (Value.int .i64 ((J.first : Int) + (J.recs.length : Int))) ∧ w'.cell? ⟨hb, 3, none⟩ = some (Value.int .i64 (n : Int))) (by kernel_rfl) ?hSpx8 (fun hHeld => ?_)
  case hSpx8 => exact ⟨HB7.out.cell 1, cell_blk HH7.out 0, cell_blk HH7.out 1, cell_blk HH7.out 2, cell_blk HH7.out 3⟩
  refine ztk 0 rfl ?_
  refine ztk 1 rfl ?_
  refine ztk 2 rfl ?_
  refine ztk 3 rfl ?_
  refine ztk 4 rfl ?_
  refine ztk 5 rfl ?_ (v := Value.int .i64 (1 - (J.area : Int))) (hy := ?hypx85)
  case hypx85 => (intro wS hSw; (try dsimp only at hSw); go_simp; rw [HW2.out])
  refine ztk 6 rfl ?_
  refine zrd 7 rfl (fun K hK => ?_)
  go_simp
  rw [show (1 : Int) - (J.area : Int) = ((1 - J.area : Nat) : Int) by have := HAR.out; omega, show (J.gen : Int) + 1 = ((J.gen + 1 : Nat) : Int) by omega, show (J.first : Int) + (J.recs.length : Int) = ((J.first + J.recs.length : Nat) : Int) by omega, HNL.out]
  refine (seal_ok 0 D2 Sd7 d D1 jb J sv _ (1 - J.area) (J.gen + 1) J.op (J.first + J.recs.length) l.length (by have := HOP.out; omega) (by have := HOP.out; omega) (by have := HOP.out; omega) (by have := HLM.out; omega) w7.drew (HD7.out.grown ⟨rfl, rfl, rfl, Nat.le_refl _, fun _ _ _ => rfl⟩) (fun b hb => (HS7.out b hb).2) HB7.out HJ7.out (by rw [HDX.out.1]; exact Nat.lt_of_lt_of_le (by have := parts_one l.length; omega) (ck_room HAR.out HN.out HOK.out)) (by have h1 := HDX.out.2; have := HWR.out; have := HOK.out; have := HDN.out; omega) HSEAL.out).mono ?_
  rw [← HNL.out]
  rintro e w8 ⟨rfl, Sd8, hd8, hj8, hs8, hjn8, ho8⟩
  have HD8 := Lib.hid hd8
  have HS8 := Lib.hid hs8
  have HO8 : Hid (Off Sd7 w7 w8) := off_same HB7.out.e hj8 ⟨ho8.os, ho8.tape, ho8.output, ho8.size, ho8.block⟩
  have HB8 : Hid (JBlk w8 jb d J sv (.slice Ar J.recs.length capr)) := hj8
  have HH8 : Hid (w8.heap[hb]? = _) := (HO8.out.block hb (Nat.lt_of_lt_of_le HS6.out HO7.out.size) HH7N.out).trans HH7.out
  have HA8 := Lib.hid (ck_arg2 HA6.out HO7.out (fun g off e q => HAS.out g off e (.inl q)) HO8.out HAS7.out)
  clear hd8 hs8 ho8 hj8 hjn8
  go_wp2_with fail
  refine hK.out _ _ ?q (fun hHeld => ?_)
  case q => (try dsimp only); exact ⟨HB8.out.cell 1, cell_blk HH8.out 0, cell_blk HH8.out 1, cell_blk HH8.out 2, cell_blk HH8.out 3⟩
  clear hK K
  try simp only [zpt]
  refine wpAnyH_done (by kernel_rfl) ?_ _
  refine NoPanic.normal ?_
  clear hHeld
  have c9 : w8.cell? ⟨jb, 9, none⟩ = some (.int .i64 0) := HB8.out.cell 9
  go_upto_region 10 with fail
  refine wp_region_noPanic ?_
  refine wp_region_held_drew (S := fun w' => w'.cell? ⟨hb, 0, none⟩ = some (Value.int .i64 ((J.gen : Int) + 1)) ∧ w'.cell? ⟨hb, 1, none⟩ = some (Value.int .i64 (J.op : Int)) ∧ w'.cell? ⟨hb, 2, none⟩ = some (Value.int .i64 ((J.first : Int) + (J.recs.length : Int))) ∧ w'.cell? ⟨hb, 3, none⟩ = some (Value.int .i64 (n : Int))) (by kernel_rfl) ?hSpx10 (fun hHeld => ?_)
  case hSpx10 => exact zc4 HH8.out
  refine ztk 0 rfl ?_
  refine ztk 1 rfl ?_
  refine ztk 2 rfl ?_
  refine ztk 3 rfl ?_
  refine ztk 4 rfl ?_
  refine ztk 5 rfl ?_
  refine ztk 6 rfl ?_
  refine ztk 7 rfl ?_
  refine ztk 10 rfl ?_
  refine ztk 11 rfl ?_
  refine ztk 13 rfl ?_
  refine ztk 14 rfl ?_
  refine zrd2 8 12 rfl rfl (fun K hK => ?_) (fun K hK => ?_)
  ·have c1 : w8.cell? ⟨jb, 1, none⟩ = some (.int .i64 (J.area : Int)) := HB8.out.cell 1
   go_simp
   clear c1
   refine hK.out _ _ ?q (fun hHeld => ?_)
   case q => (try dsimp only); exact zc4 HH8.out
   clear hK K
   try simp only [zpt]
   refine ztk 9 rfl ?_ (v := Value.int .i64 (1 - (J.area : Int))) (hy := ?hypx10a9)
   case hypx10a9 => (intro wS hSw; (try dsimp only at hSw); go_simp; rw [HW2.out])
   refine zrd 12 rfl (fun K hK => ?_)
   go_simp
   refine (clone_row A l n cap _ HNL.out.symm (by exact HA8.out.imp (fun h => h.2) id) (by have := HLM.out; have := HNL.out; omega)).mono ?_
   rintro e w9 ⟨y, rfl, hr9, hb9⟩
   obtain ⟨Ay, capy, rfl, _, _⟩ := row_len hr9
   have HR9 := Lib.hid hr9
   have HB9 : Hid (Below w8.heap.size w8 w9) := ⟨hb9.os, hb9.tape, hb9.output, hb9.size, hb9.block⟩
   clear hr9 hb9
   have HJ9 : Hid (JBlk w9 jb d J sv (.slice Ar J.recs.length capr)) := (HB9.out.block jb HB8.out.lt).trans HB8.out
   have HH9 : Hid (w9.heap[hb]? = _) := (HB9.out.block hb (Array.getElem?_eq_some_iff.1 HH8.out).1).trans HH8.out
   go_wp2_with fail
   refine hK.out _ _ ?q (fun hHeld => ?_)
   case q => (try dsimp only); exact zc4 HH9.out
   clear hK K
   try simp only [zpt]
   refine zrd 15 rfl (fun K hK => ?_)
   go_simp
   refine (count_at n (by have h1 := HLM.out; have h2 := HNL.out; omega) _).mono ?_
   rintro e wq ⟨rfl, hwq⟩
   have hwq := hwq.symm
   subst hwq
   go_wp2_with fail
   refine hK.out _ _ ?q (fun hHeld => ?_)
   case q => (try dsimp only); exact zc4 HH9.out
   clear hK K
   try simp only [zpt]
   have k1 : w9.cell? ⟨jb, 1, none⟩ = some (.int .i64 (J.area : Int)) := HJ9.out.cell 1
   have k2 : w9.cell? ⟨jb, 2, none⟩ = some (.int .i64 (J.gen : Int)) := HJ9.out.cell 2
   have k3 : w9.cell? ⟨jb, 3, none⟩ = some (.int .i64 (J.op : Int)) := HJ9.out.cell 3
   have k4 : w9.cell? ⟨jb, 4, none⟩ = some (.int .i64 (J.first : Int)) := HJ9.out.cell 4
   have k5 : w9.cell? ⟨jb, 5, none⟩ = some (.int .i64 (J.size : Int)) := HJ9.out.cell 5
   have k6 : w9.cell? ⟨jb, 6, none⟩ = some (sv) := HJ9.out.cell 6
   have k7 : w9.cell? ⟨jb, 7, none⟩ = some (.slice Ar J.recs.length capr) := HJ9.out.cell 7
   have k8 : w9.cell? ⟨jb, 8, none⟩ = some (.int .i64 (J.used : Int)) := HJ9.out.cell 8
   have k9 : w9.cell? ⟨jb, 9, none⟩ = some (.int .i64 0) := HJ9.out.cell 9
   have kf : ∀ j, w9.frozen? ⟨jb, j, none⟩ = false := HJ9.out.free
   refine ztk 16 rfl ?_
   refine ztk 17 rfl ?_
   refine zrd 18 rfl (fun K hK => ?_)
   go_simp
   refine hK.out _ _ ?q (fun hHeld => ?_)
   case q => (try dsimp only); exact zc4 (C := HC4 ((J.gen : Int) + 1) (J.op : Int) ((J.first : Int) + (J.recs.length : Int)) (n : Int)) (t := 47) (keepH (HH9.out) HHB2.out)
   clear hK K
   try simp only [zpt]
   refine ztk 19 rfl ?_
   refine ztk 20 rfl ?_
   refine zrd 21 rfl (fun K hK => ?_)
   go_simp
   refine hK.out _ _ ?q (fun hHeld => ?_)
   case q => (try dsimp only); exact zc4 (C := HC4 ((J.gen : Int) + 1) (J.op : Int) ((J.first : Int) + (J.recs.length : Int)) (n : Int)) (t := 47) (keepH (keepH (keepH (keepH (keepH (HH9.out) HHB2.out) HHB2.out) HHB2.out) HHB2.out) HHB2.out)
   clear hK K
   try simp only [zpt]
   refine ztk 22 rfl ?_
   refine ztk 23 rfl ?_
   refine zrd 24 rfl (fun K hK => ?_)
   go_simp
   refine hK.out _ _ ?q (fun hHeld => ?_)
   case q => (try dsimp only); exact zc4 (C := HC4 ((J.gen : Int) + 1) (J.op : Int) ((J.first : Int) + (J.recs.length : Int)) (n : Int)) (t := 47) (keepH (keepH (keepH (keepH (keepH (keepH (HH9.out) HHB2.out) HHB2.out) HHB2.out) HHB2.out) HHB2.out) HHB2.out)
   clear hK K
   try simp only [zpt]
   refine ztk 25 rfl ?_
   refine ztk 26 rfl ?_
   refine zrd 27 rfl (fun K hK => ?_)
   go_simp
   refine hK.out _ _ ?q (fun hHeld => ?_)
   case q => (try dsimp only); exact zc4 (C := HC4 ((J.gen : Int) + 1) (J.op : Int) ((J.first : Int) + (J.recs.length : Int)) (n : Int)) (t := 47) (keepH (keepH (keepH (keepH (keepH (keepH (keepH (HH9.out) HHB2.out) HHB2.out) HHB2.out) HHB2.out) HHB2.out) HHB2.out) HHB2.out)
   clear hK K
   try simp only [zpt]
   refine ztk 28 rfl ?_
   refine ztk 29 rfl ?_
   refine zrd 30 rfl (fun K hK => ?_)
   go_simp
   refine hK.out _ _ ?q (fun hHeld => ?_)
   case q => (try dsimp only); exact zc4 (C := HC4 ((J.gen : Int) + 1) (J.op : Int) ((J.first : Int) + (J.recs.length : Int)) (n : Int)) (t := 47) (keepH (keepH (keepH (keepH (keepH (keepH (keepH (keepH (HH9.out) HHB2.out) HHB2.out) HHB2.out) HHB2.out) HHB2.out) HHB2.out) HHB2.out) HHB2.out)
   clear hK K
   try simp only [zpt]
   refine wpAnyH_done (by kernel_rfl) ?_ _
   refine NoPanic.normal ?_
   clear hHeld
   go_wp2_with fail
   go_ret
   refine ⟨rfl, ?_⟩
   have hx : putC w9 jb ((1 - J.area : Nat) : Int) ((J.gen + 1 : Nat) : Int) (J.op : Int) ((J.first + J.recs.length : Nat) : Int) (l.length : Int) (.slice Ay l.length capy) (parts l.length : Int) = putC w9 jb (1 - (J.area : Int)) ((J.gen : Int) + 1) (J.op : Int) ((J.first : Int) + (J.recs.length : Int)) (n : Int) (.slice Ay l.length capy) (parts n : Int) := by
    rw [← HNL.out, show ((1 - J.area : Nat) : Int) = 1 - (J.area : Int) by have := HAR.out; omega, Int.natCast_add, Int.natCast_add]
    rfl
   clear k1 k2 k3 k4 k5 k6 k7 k8 k9 kf
   exact ck_end HI.out HG6.out HO7.out HO8.out HB9.out (by exact HR9.out) HSS.out HS7.out HS8.out HD8.out (by rw [hx]; exact ⟨rfl, rfl, rfl, Nat.le_refl _, fun _ _ _ => rfl⟩)
  ·go_simp
   refine (clone_row A l n cap _ HNL.out.symm (by exact HA8.out.imp (fun h => h.2) id) (by have := HLM.out; have := HNL.out; omega)).mono ?_
   rintro e w9 ⟨y, rfl, hr9, hb9⟩
   obtain ⟨Ay, capy, rfl, _, _⟩ := row_len hr9
   have HR9 := Lib.hid hr9
   have HB9 : Hid (Below w8.heap.size w8 w9) := ⟨hb9.os, hb9.tape, hb9.output, hb9.size, hb9.block⟩
   clear hr9 hb9
   have HJ9 : Hid (JBlk w9 jb d J sv (.slice Ar J.recs.length capr)) := (HB9.out.block jb HB8.out.lt).trans HB8.out
   have HH9 : Hid (w9.heap[hb]? = _) := (HB9.out.block hb (Array.getElem?_eq_some_iff.1 HH8.out).1).trans HH8.out
   go_wp2_with fail
   refine hK.out _ _ ?q (fun hHeld => ?_)
   case q => (try dsimp only); exact zc4 HH9.out
   clear hK K
   try simp only [zpt]
   refine zrd2 8 15 rfl rfl (fun K hK => ?_) (fun K hK => ?_)
   have c1 : w9.cell? ⟨jb, 1, none⟩ = some (.int .i64 (J.area : Int)) := HJ9.out.cell 1
   go_simp
   clear c1
   refine hK.out _ _ ?q (fun hHeld => ?_)
   case q => (try dsimp only); exact zc4 HH9.out
   clear hK K
   try simp only [zpt]
   refine ztk 9 rfl ?_ (v := Value.int .i64 (1 - (J.area : Int))) (hy := ?hypx10c9)
   case hypx10c9 => (intro wS hSw; (try dsimp only at hSw); go_simp; rw [HW2.out])
   refine zrd 15 rfl (fun K hK => ?_)
   go_simp
   refine (count_at n (by have h1 := HLM.out; have h2 := HNL.out; omega) _).mono ?_
   rintro e wq ⟨rfl, hwq⟩
   have hwq := hwq.symm
   subst hwq
   go_wp2_with fail
   refine hK.out _ _ ?q (fun hHeld => ?_)
   case q => (try dsimp only); exact zc4 HH9.out
   clear hK K
   try simp only [zpt]
   rotate_left
   go_simp
   refine (count_at n (by have h1 := HLM.out; have h2 := HNL.out; omega) _).mono ?_
   rintro e wq ⟨rfl, hwq⟩
   have hwq := hwq.symm
   subst hwq
   go_wp2_with fail
   refine hK.out _ _ ?q (fun hHeld => ?_)
   case q => (try dsimp only); exact zc4 HH9.out
   clear hK K
   try simp only [zpt]
   refine zrd 8 rfl (fun K hK => ?_)
   have c1 : w9.cell? ⟨jb, 1, none⟩ = some (.int .i64 (J.area : Int)) := HJ9.out.cell 1
   go_simp
   clear c1
   refine hK.out _ _ ?q (fun hHeld => ?_)
   case q => (try dsimp only); exact zc4 HH9.out
   clear hK K
   try simp only [zpt]
   refine ztk 9 rfl ?_ (v := Value.int .i64 (1 - (J.area : Int))) (hy := ?hypx10d9)
   case hypx10d9 => (intro wS hSw; (try dsimp only at hSw); go_simp; rw [HW2.out])
   rotate_left
   all_goals
    have k1 : w9.cell? ⟨jb, 1, none⟩ = some (.int .i64 (J.area : Int)) := HJ9.out.cell 1
    have k2 : w9.cell? ⟨jb, 2, none⟩ = some (.int .i64 (J.gen : Int)) := HJ9.out.cell 2
    have k3 : w9.cell? ⟨jb, 3, none⟩ = some (.int .i64 (J.op : Int)) := HJ9.out.cell 3
    have k4 : w9.cell? ⟨jb, 4, none⟩ = some (.int .i64 (J.first : Int)) := HJ9.out.cell 4
    have k5 : w9.cell? ⟨jb, 5, none⟩ = some (.int .i64 (J.size : Int)) := HJ9.out.cell 5
    have k6 : w9.cell? ⟨jb, 6, none⟩ = some (sv) := HJ9.out.cell 6
    have k7 : w9.cell? ⟨jb, 7, none⟩ = some (.slice Ar J.recs.length capr) := HJ9.out.cell 7
    have k8 : w9.cell? ⟨jb, 8, none⟩ = some (.int .i64 (J.used : Int)) := HJ9.out.cell 8
    have k9 : w9.cell? ⟨jb, 9, none⟩ = some (.int .i64 0) := HJ9.out.cell 9
    have kf : ∀ j, w9.frozen? ⟨jb, j, none⟩ = false := HJ9.out.free
    refine ztk 16 rfl ?_
    refine ztk 17 rfl ?_
    refine zrd 18 rfl (fun K hK => ?_)
    go_simp
    refine hK.out _ _ ?q (fun hHeld => ?_)
    case q => (try dsimp only); exact zc4 (C := HC4 ((J.gen : Int) + 1) (J.op : Int) ((J.first : Int) + (J.recs.length : Int)) (n : Int)) (t := 47) (keepH (HH9.out) HHB2.out)
    clear hK K
    try simp only [zpt]
    refine ztk 19 rfl ?_
    refine ztk 20 rfl ?_
    refine zrd 21 rfl (fun K hK => ?_)
    go_simp
    refine hK.out _ _ ?q (fun hHeld => ?_)
    case q => (try dsimp only); exact zc4 (C := HC4 ((J.gen : Int) + 1) (J.op : Int) ((J.first : Int) + (J.recs.length : Int)) (n : Int)) (t := 47) (keepH (keepH (keepH (keepH (keepH (HH9.out) HHB2.out) HHB2.out) HHB2.out) HHB2.out) HHB2.out)
    clear hK K
    try simp only [zpt]
    refine ztk 22 rfl ?_
    refine ztk 23 rfl ?_
    refine zrd 24 rfl (fun K hK => ?_)
    go_simp
    refine hK.out _ _ ?q (fun hHeld => ?_)
    case q => (try dsimp only); exact zc4 (C := HC4 ((J.gen : Int) + 1) (J.op : Int) ((J.first : Int) + (J.recs.length : Int)) (n : Int)) (t := 47) (keepH (keepH (keepH (keepH (keepH (keepH (HH9.out) HHB2.out) HHB2.out) HHB2.out) HHB2.out) HHB2.out) HHB2.out)
    clear hK K
    try simp only [zpt]
    refine ztk 25 rfl ?_
    refine ztk 26 rfl ?_
    refine zrd 27 rfl (fun K hK => ?_)
    go_simp
    refine hK.out _ _ ?q (fun hHeld => ?_)
    case q => (try dsimp only); exact zc4 (C := HC4 ((J.gen : Int) + 1) (J.op : Int) ((J.first : Int) + (J.recs.length : Int)) (n : Int)) (t := 47) (keepH (keepH (keepH (keepH (keepH (keepH (keepH (HH9.out) HHB2.out) HHB2.out) HHB2.out) HHB2.out) HHB2.out) HHB2.out) HHB2.out)
    clear hK K
    try simp only [zpt]
    refine ztk 28 rfl ?_
    refine ztk 29 rfl ?_
    refine zrd 30 rfl (fun K hK => ?_)
    go_simp
    refine hK.out _ _ ?q (fun hHeld => ?_)
    case q => (try dsimp only); exact zc4 (C := HC4 ((J.gen : Int) + 1) (J.op : Int) ((J.first : Int) + (J.recs.length : Int)) (n : Int)) (t := 47) (keepH (keepH (keepH (keepH (keepH (keepH (keepH (keepH (HH9.out) HHB2.out) HHB2.out) HHB2.out) HHB2.out) HHB2.out) HHB2.out) HHB2.out) HHB2.out)
    clear hK K
    try simp only [zpt]
    refine wpAnyH_done (by kernel_rfl) ?_ _
    refine NoPanic.normal ?_
    clear hHeld
    go_wp2_with fail
    go_ret
    refine ⟨rfl, ?_⟩
    have hx : putC w9 jb ((1 - J.area : Nat) : Int) ((J.gen + 1 : Nat) : Int) (J.op : Int) ((J.first + J.recs.length : Nat) : Int) (l.length : Int) (.slice Ay l.length capy) (parts l.length : Int) = putC w9 jb (1 - (J.area : Int)) ((J.gen : Int) + 1) (J.op : Int) ((J.first : Int) + (J.recs.length : Int)) (n : Int) (.slice Ay l.length capy) (parts n : Int) := by
     rw [← HNL.out, show ((1 - J.area : Nat) : Int) = 1 - (J.area : Int) by have := HAR.out; omega, Int.natCast_add, Int.natCast_add]
     rfl
    clear k1 k2 k3 k4 k5 k6 k7 k8 k9 kf
    exact ck_end HI.out HG6.out HO7.out HO8.out HB9.out (by exact HR9.out) HSS.out HS7.out HS8.out HD8.out (by rw [hx]; exact ⟨rfl, rfl, rfl, Nat.le_refl _, fun _ _ _ => rfl⟩)
inductive Recp (now : Nat → List UInt8) (base half op first : Nat) : Nat → Nat → Nat → List (List UInt8) → Nat → Prop
 | nil {used n last : Nat} : Recp now base half op first used n last [] used
 | step {used n last s M u : Nat} {f : Nat → List UInt8} {ls : List (List UInt8)} (h : Wy now base half used 82 (first + n) s M f) (h1 : last ≤ s) (h2 : s ≤ op) (r : Recp now base half op first (used + M) (n + 1) s ls u) : Recp now base half op first used n last (joined f M :: ls) u
section
variable {now now' : Nat → List UInt8} {base half op first used n last u : Nat} {ls : List (List UInt8)}
theorem Recp.le (h : Recp now base half op first used n last ls u) : used ≤ u := by
 induction h with
 | nil => exact Nat.le_refl _
 | step h h1 h2 r ih => omega
theorem Recp.room (h : Recp now base half op first used n last ls u) (hu : used ≤ half - 1) : u ≤ half - 1 := by
 induction h with
 | nil => exact hu
 | step h h1 h2 r ih => exact ih h.room
theorem Wy.frame {c : UInt8} {k s M : Nat} {f : Nat → List UInt8} (h : Wy now base half used c k s M f) (he : ∀ x, used ≤ x → x < used + M → now' (base + 1 + x) = now (base + 1 + x)) : Wy now' base half used c k s M f :=
 ⟨h.one, fun i hi => by
  have := he (used + i) (by omega) (by omega)
  rw [show base + 1 + used + i = base + 1 + (used + i) by omega, this, show base + 1 + (used + i) = base + 1 + used + i by omega]
  exact h.run i hi, h.room⟩
theorem Wn.frame {c : UInt8} {k : Nat} (h : Wn now base half used c k) (he : ∀ x, x < half - 1 → now' (base + 1 + x) = now (base + 1 + x)) : Wn now' base half used c k := by
 obtain ⟨s, M, q, f, h1, h2, h3, h4⟩ := h
 refine ⟨s, M, q, f, fun i hi => ?_, h2, h3, ?_⟩
 ·rw [show base + 1 + used + i = base + 1 + (used + i) by omega, he _ (by omega), show base + 1 + (used + i) = base + 1 + used + i by omega]
  exact h1 i hi
 ·rcases h4 with h4 | h4
  ·exact .inl h4
  ·by_cases h5 : half - 1 ≤ used + q
   ·exact .inl h5
   ·refine .inr ?_
    rw [show base + 1 + used + q = base + 1 + (used + q) by omega, he _ (by omega), show base + 1 + (used + q) = base + 1 + used + q by omega]
    exact h4
theorem Recp.frame (h : Recp now base half op first used n last ls u) (he : ∀ x, used ≤ x → x < u → now' (base + 1 + x) = now (base + 1 + x)) : Recp now' base half op first used n last ls u := by
 induction h with
 | nil => exact .nil
 | step h h1 h2 r ih =>
  have := r.le
  have := h.one
  exact .step (h.frame (fun x a b => he x a (by omega))) h1 h2 (ih (fun x a b => he x (by omega) b))
theorem Recp.mono {op' : Nat} (h : Recp now base half op first used n last ls u) (ho : op ≤ op') : Recp now base half op' first used n last ls u := by
 induction h with
 | nil => exact .nil
 | step h h1 h2 r ih => exact .step h h1 (by omega) ih
theorem Recp.snoc {M : Nat} {f : Nat → List UInt8} (h : Recp now base half op first used n last ls u) (hl : last ≤ op) (hw : Wy now base half u 82 (first + (n + ls.length)) op M f) : Recp now base half op first used n last (ls ++ [joined f M]) (u + M) := by
 induction h with
 | nil => exact .step hw hl (Nat.le_refl _) .nil
 | step h h1 h2 r ih =>
  refine .step h h1 h2 (ih h2 ?_)
  rw [List.length_cons] at hw
  rw [show ∀ a b : Nat, a + 1 + b = a + (b + 1) by intros; omega]
  exact hw
theorem Recp.recs (h : Recp now base half op first used n last ls u) (hw : Wn now base half u 82 (first + (n + ls.length))) : Recs now base half op first used n last ls u := by
 induction h with
 | nil => exact .stop (.inl hw)
 | step h h1 h2 r ih =>
  refine .step h h1 h2 (ih ?_)
  rw [List.length_cons] at hw
  rw [show ∀ a b : Nat, a + 1 + b = a + (b + 1) by intros; omega]
  exact hw
end
def Sec2 (b : List UInt8) (N o : Nat) : Prop := NoPart b ∨ ∃ (c : UInt8) (s k i n : Nat) (l : List UInt8), IsPart b c s k i n l ∧ (c = 82 → k < N ∨ (k = N ∧ s < o))
theorem Sec2.mono {b : List UInt8} {N o N' o' : Nat} (h : Sec2 b N o) (hN : N < N' ∨ (N = N' ∧ o ≤ o')) : Sec2 b N' o' := by
 rcases h with h | ⟨c, s, k, i, n, l, h1, h2⟩
 ·exact .inl h
 ·refine .inr ⟨c, s, k, i, n, l, h1, fun hc => ?_⟩
  rcases h2 hc with h | ⟨h, h3⟩
  ·exact .inl (by omega)
  ·rcases hN with hN | ⟨hN, hO⟩
   ·exact .inl (by omega)
   ·exact .inr ⟨by omega, by omega⟩
theorem Sec2.noughts (N o : Nat) : Sec2 noughts N o := .inl ⟨0, rfl, by decide, by decide⟩
theorem Sec2.ends {b : List UInt8} {N o s M : Nat} (h : Sec2 b N o) {k q : Nat} (hk : N < k ∨ (N = k ∧ (o = 0 ∨ (0 < q ∧ o ≤ s)))) : Ends b 82 s k M q := by
 rcases h with h | ⟨c, s', k', i, n, l, h1, h2⟩
 ·exact .inl h
 ·refine .inr ⟨c, s', k', i, n, l, h1, ?_⟩
  by_cases hc : c = 82
  ·rcases h2 hc with h3 | ⟨h3, h4⟩
   ·exact .inr (.inl (by omega))
   ·rcases hk with hk | ⟨hk, h5 | ⟨h5, h6⟩⟩
    ·exact .inr (.inl (by omega))
    ·omega
    ·exact .inr (.inr (.inr ⟨h5, .inl (by omega)⟩))
  ·exact .inl hc
structure Fit (D : Dsk) (J : Jn) (o K : Nat) : Prop where
 off : D.off = false
 armed : D.armed = none
 n8 : 8 ≤ D.n
 n16 : D.n ≤ 16384
 area : J.area ≤ 1
 head : D.now (J.area * (D.n / 2)) = headB J.gen J.op J.first J.size
 gen : 1 ≤ J.gen ∧ J.gen ≤ K
 op : 1 ≤ J.op ∧ J.op ≤ K
 first : 1 ≤ J.first ∧ J.first + J.recs.length ≤ K
 size : J.size ≤ 1048576
 st : ∃ M fs, Wy D.now (J.area * (D.n / 2)) (D.n / 2) 0 67 0 J.gen M fs ∧ joined fs M = J.st ∧ J.st.length = J.size ∧ Recp D.now (J.area * (D.n / 2)) (D.n / 2) J.op J.first M 0 0 J.recs J.used
 wn : Wn D.now (J.area * (D.n / 2)) (D.n / 2) J.used 82 (J.first + J.recs.length)
 own : ∀ x, x < D.n / 2 - 1 → Sec2 (D.now (J.area * (D.n / 2) + 1 + x)) (J.first + J.recs.length) o
 oth : ∀ x, x < D.n / 2 - 1 → Sec2 (D.now ((1 - J.area) * (D.n / 2) + 1 + x)) (J.first + J.recs.length) 0
 hd2 : D.now ((1 - J.area) * (D.n / 2)) = noughts ∨ ∃ g o f n, D.now ((1 - J.area) * (D.n / 2)) = headB g o f n ∧ (1 ≤ g ∧ g < J.gen) ∧ (1 ≤ o ∧ o ≤ K) ∧ (1 ≤ f ∧ f ≤ K) ∧ n ≤ 1048576
theorem Fit.used {D : Dsk} {J : Jn} {o K : Nat} (h : Fit D J o K) : J.used ≤ D.n / 2 - 1 := by
 obtain ⟨M, fs, h1, _, _, h2⟩ := h.st
 exact h2.room (by have := h1.room; omega)
theorem Fit.less {D : Dsk} {J : Jn} {o o' K K' : Nat} (h : Fit D J o K) (ho : o ≤ o') (hK : K ≤ K') : Fit D J o' K' :=
 { h with
  gen := ⟨h.gen.1, by have := h.gen.2; omega⟩
  op := ⟨h.op.1, by have := h.op.2; omega⟩
  first := ⟨h.first.1, by have := h.first.2; omega⟩
  own := fun x hx => (h.own x hx).mono (.inr ⟨rfl, ho⟩)
  hd2 := by
   rcases h.hd2 with h2 | ⟨g, o, f, n, h1, h2, h3, h4, h5⟩
   ·exact .inl h2
   ·exact .inr ⟨g, o, f, n, h1, h2, ⟨h3.1, by omega⟩, ⟨h4.1, by omega⟩, h5⟩ }
theorem Fit.same {D D' : Dsk} {J : Jn} {o K : Nat} (h : Fit D J o K) (hn : D'.n = D.n) (hw : D'.now = D.now) (ho : D'.off = false) (ha : D'.armed = none) : Fit D' J o K := by
 obtain ⟨_, _, h3, h4, h5, h6, h7, h8, h9, h10, h11, h12, h13, h14, h15⟩ := h
 rw [← hn] at h3 h4 h6 h11 h12 h13 h14 h15
 rw [← hw] at h6 h11 h12 h13 h14 h15
 exact ⟨ho, ha, h3, h4, h5, h6, h7, h8, h9, h10, h11, h12, h13, h14, h15⟩
theorem Fit.bears {D : Dsk} {J : Jn} {o K : Nat} (h : Fit D J o K) (hK : K ≤ 1000000) : Bears D J := by
 obtain ⟨M, fs, h1, h2, h3, h4⟩ := h.st
 exact ⟨h.area, h.head, ⟨h.gen.1, by have := h.gen.2; omega⟩, ⟨h.op.1, by have := h.op.2; omega⟩, ⟨h.first.1, by have := h.first.2; omega⟩, h.size, M, fs, h1, h2, h3, h4.recs (by rw [Nat.zero_add]; exact h.wn)⟩
theorem place {a b h y z : Nat} (ha : a ≤ 1) (hb : b ≤ 1) (hy : y < h) (hz : z < h) (e : a * h + y = b * h + z) : a = b ∧ y = z := by
 obtain rfl | rfl : a = 0 ∨ a = 1 := by omega
 ·obtain rfl | rfl : b = 0 ∨ b = 1 := by omega
  ·omega
  ·omega
 ·obtain rfl | rfl : b = 0 ∨ b = 1 := by omega
  ·omega
  ·omega
theorem push_now (D : Dsk) (p : Nat) (l : List UInt8) (y : Nat) : (D.push p l).now y = if y = p then l else D.now y := rfl
theorem pushes_now (D : Dsk) (base : Nat) (f : Nat → List UInt8) (M y : Nat) : (pushes D base f (upto M)).now y = if base ≤ y ∧ y < base + M then f (y - base) else D.now y := by
 induction M with
 | zero => rw [if_neg (by omega)]; rfl
 | succ M ih =>
  rw [upto_succ, pushes_snoc, push_now]
  by_cases h : y = base + M
  ·rw [if_pos h, if_pos (by omega), h, Nat.add_sub_cancel_left]
  ·rw [if_neg h, ih]
   by_cases h2 : base ≤ y ∧ y < base + M
   ·rw [if_pos h2, if_pos (by omega)]
   ·rw [if_neg h2, if_neg (by omega)]
theorem Fit.reopen {D : Dsk} {J : Jn} {o K : Nat} (h : Fit D J o K) : Fit (D.push (J.area * (D.n / 2)) (headB J.gen (J.op + 1) J.first J.size)) { J with op := J.op + 1 } o (K + 1) := by
 obtain ⟨p, hp⟩ : ∃ p, p = D.n / 2 := ⟨_, rfl⟩
 have h8 := h.n8
 have ha := h.area
 have room : ∀ b, b ≤ 1 → ∀ x, x < p - 1 → (D.push (J.area * p) (headB J.gen (J.op + 1) J.first J.size)).now (b * p + 1 + x) = D.now (b * p + 1 + x) := fun b hb x hx => by
  rw [push_now, if_neg]
  intro e
  have := place (h := p) (y := 1 + x) (z := 0) hb ha (by omega) (by omega) (by omega)
  omega
 have hoth : (D.push (J.area * p) (headB J.gen (J.op + 1) J.first J.size)).now ((1 - J.area) * p) = D.now ((1 - J.area) * p) := by
  rw [push_now, if_neg]
  intro e
  have := place (h := p) (y := 0) (z := 0) (a := 1 - J.area) (b := J.area) (by omega) ha (by omega) (by omega) (by omega)
  omega
 obtain ⟨M, fs, h1, h2, h3, h4⟩ := h.st
 have h15 := h.hd2
 have h11 := h.wn
 have h12 := h.own
 have h13 := h.oth
 have hu := h.used
 rw [← hp] at h1 h4 h11 h12 h13 h15 hu ⊢
 refine ⟨h.off, h.armed, h.n8, h.n16, h.area, ?_, ⟨h.gen.1, by have := h.gen.2; show J.gen ≤ K + 1; omega⟩, ⟨by show 1 ≤ J.op + 1; omega, by have := h.op.2; show J.op + 1 ≤ K + 1; omega⟩, ⟨h.first.1, by have := h.first.2; show J.first + J.recs.length ≤ K + 1; omega⟩, h.size, ⟨M, fs, ?_, h2, h3, ?_⟩, ?_, ?_, ?_, ?_⟩ <;> show _ <;> (try rw [show (D.push (J.area * p) (headB J.gen (J.op + 1) J.first J.size)).n = D.n from rfl, ← hp])
 ·show (D.push (J.area * p) _).now (J.area * p) = _
  rw [push_now, if_pos rfl]
 ·exact h1.frame (fun x _ hx => room _ ha x (by have := h1.room; omega))
 ·exact (h4.mono (by show J.op ≤ J.op + 1; omega)).frame (fun x _ hx => room _ ha x (by omega))
 ·exact h11.frame (fun x hx => room _ ha x hx)
 ·intro x hx
  show Sec2 ((D.push _ _).now (J.area * p + 1 + x)) _ _
  rw [room _ ha x hx]
  exact h12 x hx
 ·intro x hx
  show Sec2 ((D.push _ _).now ((1 - J.area) * p + 1 + x)) _ _
  rw [room _ (by omega) x hx]
  exact h13 x hx
 ·show (D.push _ _).now ((1 - J.area) * p) = _ ∨ ∃ g o f n, (D.push _ _).now ((1 - J.area) * p) = _ ∧ _
  rw [hoth]
  rcases h15 with h2 | ⟨g, o, f, n, h1, h2, h3, h4, h5⟩
  ·exact .inl h2
  ·exact .inr ⟨g, o, f, n, h1, h2, ⟨h3.1, by omega⟩, ⟨h4.1, by omega⟩, h5⟩
theorem parts_full {n i : Nat} (h : i < parts n) : (i + 1) * 102 ≤ n ∨ i + 1 = parts n := by unfold parts at *; omega
theorem parts_all (n : Nat) : n ≤ parts n * 102 := by unfold parts; omega
theorem parts_small {n : Nat} (h : n ≤ 1048576) : parts n < 65536 := by unfold parts; omega
theorem part_is {c : UInt8} {s k i : Nat} {l : List UInt8} (hc : c = 67 ∨ c = 82) (hs : s < 9223372036854775808) (hk : k < 9223372036854775808) (hl : l.length ≤ 1048576) (hi : i < parts l.length) : IsPart (partB c s k i (parts l.length) (chunk l i)) c s k i (parts l.length) (chunk l i) := by
 refine ⟨rfl, hc, hs, hk, hi, parts_small hl, chunk_le l i, ?_⟩
 rcases parts_full hi with h | h
 ·refine .inl ?_
  rw [chunk_length]
  omega
 ·exact .inr h
theorem joined_chunk (l : List UInt8) (t : Nat) : joined (chunk l) t = l.take (t * 102) := by
 induction t with
 | zero => simp [joined]
 | succ t ih =>
  rw [joined_succ, ih, Nat.succ_mul, List.take_add]
  rfl
theorem joined_parts (l : List UInt8) : joined (chunk l) (parts l.length) = l := by
 rw [joined_chunk]
 exact List.take_of_length_le (parts_all _)
theorem pushes_at (D : Dsk) {a used q p : Nat} (f : Nat → List UInt8) (ha : a ≤ 1) (hp : 1 ≤ p) (hr : used + q ≤ p - 1) :
  (∀ x, (pushes D (a * p + (1 + used)) f (upto q)).now (a * p + 1 + x) = if used ≤ x ∧ x < used + q then f (x - used) else D.now (a * p + 1 + x)) ∧ (∀ y, y < p → (pushes D (a * p + (1 + used)) f (upto q)).now ((1 - a) * p + y) = D.now ((1 - a) * p + y)) ∧ (pushes D (a * p + (1 + used)) f (upto q)).now (a * p) = D.now (a * p) := by
 refine ⟨fun x => ?_, fun y hy => ?_, ?_⟩
 ·rw [pushes_now]
  by_cases h : used ≤ x ∧ x < used + q
  ·rw [if_pos h, if_pos (by omega)]
   congr 1
   omega
  ·rw [if_neg h, if_neg (by omega)]
 ·rw [pushes_now, if_neg]
  rintro ⟨h1, h2⟩
  have := place (a := 1 - a) (b := a) (h := p) (y := y) (z := 1 + used + ((1 - a) * p + y - (a * p + (1 + used)))) (by omega) ha hy (by omega) (by omega)
  omega
 ·rw [pushes_now, if_neg]
  omega
theorem Fit.app {D : Dsk} {J : Jn} {o K : Nat} {l : List UInt8} (h : Fit D J o K) (hK : K ≤ 1000000) (hl : l.length ≤ 1048576) (hr : parts l.length ≤ D.n / 2 - 1 - J.used) : Fit (appD D J l) (J.app l) 0 (K + 1) := by
 obtain ⟨p, hp⟩ : ∃ p, p = D.n / 2 := ⟨_, rfl⟩
 have h8 := h.n8
 have ha := h.area
 have hu := h.used
 have hf := h.first
 have hop := h.op
 have hn : (appD D J l).n = D.n ∧ (appD D J l).off = D.off ∧ (appD D J l).armed = D.armed := ⟨(pushes_n ..).1, (pushes_n ..).2.1, (pushes_n ..).2.2.1⟩
 obtain ⟨hin, hout, hhd⟩ := pushes_at D (a := J.area) (used := J.used) (q := parts l.length) (p := p) (fun i => partB 82 J.op (J.first + J.recs.length) i (parts l.length) (chunk l i)) ha (by omega) (by omega)
 have e : appD D J l = pushes D (J.area * p + (1 + J.used)) (fun i => partB 82 J.op (J.first + J.recs.length) i (parts l.length) (chunk l i)) (upto (parts l.length)) := by rw [hp]; rfl
 rw [← e] at hin hout hhd
 obtain ⟨M, fs, h1, h2, h3, h4⟩ := h.st
 have h6 := h.head
 have h15 := h.hd2
 have h12 := h.own
 have h13 := h.oth
 rw [← hp] at h1 h4 h6 h12 h13 h15 hu hr
 have part : ∀ i, i < parts l.length → IsPart (partB 82 J.op (J.first + J.recs.length) i (parts l.length) (chunk l i)) 82 J.op (J.first + J.recs.length) i (parts l.length) (chunk l i) := fun i hi => part_is (.inr rfl) (by omega) (by omega) hl hi
 have hlen : (J.app l).recs.length = J.recs.length + 1 := by simp [Jn.app]
 have own' : ∀ x, x < p - 1 → Sec2 ((appD D J l).now (J.area * p + 1 + x)) (J.first + (J.recs.length + 1)) 0 := fun x hx => by
  rw [hin]
  by_cases hx2 : J.used ≤ x ∧ x < J.used + parts l.length
  ·rw [if_pos hx2]
   exact .inr ⟨82, _, _, _, _, _, part _ (by omega), fun _ => .inl (by omega)⟩
  ·rw [if_neg hx2]
   exact (h12 x hx).mono (.inl (by omega))
 have hM : J.used + parts l.length ≤ p - 1 := by omega
 refine ⟨hn.2.1.trans h.off, hn.2.2.trans h.armed, by rw [hn.1]; exact h8, by rw [hn.1]; exact h.n16, ha, ?_, ⟨h.gen.1, by have := h.gen.2; show J.gen ≤ K + 1; omega⟩, ⟨hop.1, by show J.op ≤ K + 1; omega⟩, ⟨hf.1, by rw [hlen]; show J.first + _ ≤ _; omega⟩, h.size, ⟨M, fs, ?_, h2, h3, ?_⟩, ?_, ?_, ?_, ?_⟩ <;> (try rw [hn.1, ← hp]) <;> (try rw [hlen])
 ·exact hhd.trans h6
 ·have hle := h4.le
  exact h1.frame (fun x _ hx => by
   show (appD D J l).now (J.area * p + 1 + x) = _
   rw [hin, if_neg (by omega)])
 ·have hle := h4.le
  have h5 : Recp (appD D J l).now (J.area * p) p J.op J.first M 0 0 J.recs J.used := h4.frame (fun x _ hx => by
   rw [hin, if_neg (by omega)])
  have h7 := h5.snoc (M := parts l.length) (f := chunk l) (Nat.zero_le _) ⟨parts_one _, fun i hi => by
   have := hin (J.used + i)
   rw [show J.area * p + 1 + J.used + i = J.area * p + 1 + (J.used + i) by omega, this, if_pos (by omega), Nat.add_sub_cancel_left, Nat.zero_add]
   exact part i hi, hM⟩
  rw [joined_parts] at h7
  exact h7
 ·refine ⟨0, 1, 0, fun _ => [], fun i hi => by omega, by decide, hM, ?_⟩
  by_cases hend : p - 1 ≤ J.used + parts l.length
  ·exact .inl hend
  ·refine .inr ?_
   show Ends ((appD D J l).now (J.area * p + 1 + (J.used + parts l.length) + 0)) _ _ _ _ _
   exact (own' (J.used + parts l.length) (by omega)).ends (.inr ⟨rfl, .inl rfl⟩)
 ·exact own'
 ·intro x hx
  show Sec2 ((appD D J l).now ((1 - J.area) * p + 1 + x)) _ _
  rw [show (1 - J.area) * p + 1 + x = (1 - J.area) * p + (1 + x) by omega, hout _ (by omega), show (1 - J.area) * p + (1 + x) = (1 - J.area) * p + 1 + x by omega]
  exact (h13 x hx).mono (.inl (by show J.first + J.recs.length < J.first + (J.recs.length + 1); omega))
 ·show (appD D J l).now ((1 - J.area) * p) = _ ∨ ∃ g o f n, (appD D J l).now ((1 - J.area) * p) = _ ∧ _
  have := hout 0 (by omega)
  rw [Nat.add_zero] at this
  rw [this]
  rcases h15 with h2 | ⟨g, o, f, n, h1, h2, h3, h4, h5⟩
  ·exact .inl h2
  ·exact .inr ⟨g, o, f, n, h1, h2, ⟨h3.1, by omega⟩, ⟨h4.1, by omega⟩, h5⟩
theorem Fit.app_cut {D C : Dsk} {J : Jn} {o K q : Nat} {l : List UInt8} (h : Fit D J o K) (hK : K ≤ 1000000) (ho : o ≤ J.op) (hl : l.length ≤ 1048576) (hr : parts l.length ≤ D.n / 2 - 1 - J.used) (hq : q < parts l.length) (hn : C.n = D.n) (hoff : C.off = false) (harm : C.armed = none)
  (hnow : C.now = (pushes D (J.area * (D.n / 2) + (1 + J.used)) (fun i => partB 82 J.op (J.first + J.recs.length) i (parts l.length) (chunk l i)) (upto q)).now) : Fit C J (J.op + 1) K := by
 obtain ⟨p, hp⟩ : ∃ p, p = D.n / 2 := ⟨_, rfl⟩
 have h8 := h.n8
 have ha := h.area
 have hu := h.used
 have hf := h.first
 have hop := h.op
 obtain ⟨hin, hout, hhd⟩ := pushes_at D (a := J.area) (used := J.used) (q := q) (p := p) (fun i => partB 82 J.op (J.first + J.recs.length) i (parts l.length) (chunk l i)) ha (by omega) (by omega)
 rw [← hp] at hnow
 rw [← hnow] at hin hout hhd
 obtain ⟨M, fs, h1, h2, h3, h4⟩ := h.st
 have h6 := h.head
 have h15 := h.hd2
 have h12 := h.own
 have h13 := h.oth
 have h11 := h.wn
 rw [← hp] at h1 h4 h6 h11 h12 h13 h15 hu hr
 have part : ∀ i, i < parts l.length → IsPart (partB 82 J.op (J.first + J.recs.length) i (parts l.length) (chunk l i)) 82 J.op (J.first + J.recs.length) i (parts l.length) (chunk l i) := fun i hi => part_is (.inr rfl) (by omega) (by omega) hl hi
 have own' : ∀ x, x < p - 1 → Sec2 (C.now (J.area * p + 1 + x)) (J.first + J.recs.length) (J.op + 1) := fun x hx => by
  rw [hin]
  by_cases hx2 : J.used ≤ x ∧ x < J.used + q
  ·rw [if_pos hx2]
   exact .inr ⟨82, _, _, _, _, _, part _ (by omega), fun _ => .inr ⟨rfl, by omega⟩⟩
  ·rw [if_neg hx2]
   exact (h12 x hx).mono (.inr ⟨rfl, by omega⟩)
 refine ⟨hoff, harm, by rw [hn]; exact h8, by rw [hn]; exact h.n16, ha, ?_, h.gen, hop, hf, h.size, ⟨M, fs, ?_, h2, h3, ?_⟩, ?_, ?_, ?_, ?_⟩ <;> (try rw [hn, ← hp])
 ·exact hhd.trans h6
 ·have hle := h4.le
  exact h1.frame (fun x _ hx => by rw [hin, if_neg (by omega)])
 ·exact h4.frame (fun x _ hx => by rw [hin, if_neg (by omega)])
 ·by_cases hq0 : q = 0
  ·refine h11.frame (fun x hx => ?_)
   rw [hin, if_neg (by omega)]
  ·refine ⟨J.op, parts l.length, q, chunk l, fun i hi => ?_, hq, by omega, .inr ?_⟩
   ·rw [show J.area * p + 1 + J.used + i = J.area * p + 1 + (J.used + i) by omega, hin, if_pos (by omega), Nat.add_sub_cancel_left]
    exact part i (by omega)
   ·rw [show J.area * p + 1 + J.used + q = J.area * p + 1 + (J.used + q) by omega, hin, if_neg (by omega)]
    exact (h12 (J.used + q) (by omega)).ends (.inr ⟨rfl, .inr ⟨by omega, ho⟩⟩)
 ·exact own'
 ·intro x hx
  rw [show (1 - J.area) * p + 1 + x = (1 - J.area) * p + (1 + x) by omega, hout _ (by omega), show (1 - J.area) * p + (1 + x) = (1 - J.area) * p + 1 + x by omega]
  exact h13 x hx
 ·have := hout 0 (by omega)
  rw [Nat.add_zero] at this
  rw [this]
  exact h15
theorem Fit.ck {D : Dsk} {J : Jn} {K : Nat} {l : List UInt8} (h : Fit D J 0 K) (hK : K ≤ 1000000) (hl : l.length ≤ 1048576) (hr : parts l.length ≤ D.n / 2 - 1) : Fit (ckD D J l) (J.ck l) 0 (K + 1) := by
 obtain ⟨p, hp⟩ : ∃ p, p = D.n / 2 := ⟨_, rfl⟩
 have h8 := h.n8
 have ha := h.area
 have hf := h.first
 have hop := h.op
 have hg := h.gen
 have hn : (ckD D J l).n = D.n ∧ (ckD D J l).off = D.off ∧ (ckD D J l).armed = D.armed := ⟨(ckP_n D J l).1, (ckP_n D J l).2.1, (ckP_n D J l).2.2.1⟩
 obtain ⟨hin, hout, hhd⟩ := pushes_at D (a := 1 - J.area) (used := 0) (q := parts l.length) (p := p) (fun i => partB 67 (J.gen + 1) 0 i (parts l.length) (chunk l i)) (by omega) (by omega) (by omega)
 have e : ckP D J l = pushes D ((1 - J.area) * p + (1 + 0)) (fun i => partB 67 (J.gen + 1) 0 i (parts l.length) (chunk l i)) (upto (parts l.length)) := by rw [hp]; rfl
 have ec : ∀ y, (ckD D J l).now y = if y = (1 - J.area) * p then headB (J.gen + 1) J.op (J.first + J.recs.length) l.length else (ckP D J l).now y := fun y => by rw [hp]; rfl
 have e1 : 1 - (1 - J.area) = J.area := by omega
 rw [← e, e1] at hout
 rw [← e] at hin
 have hin' : ∀ x, x < p - 1 → (ckD D J l).now ((1 - J.area) * p + 1 + x) = if x < parts l.length then partB 67 (J.gen + 1) 0 x (parts l.length) (chunk l x) else D.now ((1 - J.area) * p + 1 + x) := fun x hx => by
  rw [ec, if_neg (by omega), hin]
  by_cases hx2 : x < parts l.length
  ·rw [if_pos hx2, if_pos (by omega)]; rfl
  ·rw [if_neg hx2, if_neg (by omega)]
 have hout' : ∀ y, y < p → (ckD D J l).now (J.area * p + y) = D.now (J.area * p + y) := fun y hy => by
  rw [ec, if_neg, hout y hy]
  intro e2
  have := place (a := J.area) (b := 1 - J.area) (h := p) (y := y) (z := 0) ha (by omega) hy (by omega) (by omega)
  omega
 have h6 := h.head
 have h12 := h.own
 have h13 := h.oth
 rw [← hp] at h6 h12 h13 hr
 have part : ∀ i, i < parts l.length → IsPart (partB 67 (J.gen + 1) 0 i (parts l.length) (chunk l i)) 67 (J.gen + 1) 0 i (parts l.length) (chunk l i) := fun i hi => part_is (.inl rfl) (by omega) (by omega) hl hi
 have own' : ∀ x, x < p - 1 → Sec2 ((ckD D J l).now ((1 - J.area) * p + 1 + x)) (J.first + J.recs.length) 0 := fun x hx => by
  rw [hin' x hx]
  by_cases hx2 : x < parts l.length
  ·rw [if_pos hx2]
   exact .inr ⟨67, _, _, _, _, _, part _ hx2, fun h => absurd h (by decide)⟩
  ·rw [if_neg hx2]
   exact h13 x hx
 have hone := parts_one l.length
 refine ⟨hn.2.1.trans h.off, hn.2.2.trans h.armed, by rw [hn.1]; exact h8, by rw [hn.1]; exact h.n16, by show 1 - J.area ≤ 1; omega, ?_, ⟨by show 1 ≤ J.gen + 1; omega, by show J.gen + 1 ≤ K + 1; omega⟩, ⟨hop.1, by show J.op ≤ K + 1; omega⟩, ⟨by show 1 ≤ J.first + J.recs.length; omega, by show J.first + J.recs.length + 0 ≤ K + 1; omega⟩, hl, ⟨parts l.length, chunk l, ?_, joined_parts l, rfl, ?_⟩, ?_, ?_, ?_, ?_⟩ <;> (try rw [hn.1, ← hp]) <;> show _
 ·show (ckD D J l).now ((1 - J.area) * p) = _
  rw [ec, if_pos rfl]
  rfl
 ·refine ⟨hone, fun i hi => ?_, by omega⟩
  show IsPart ((ckD D J l).now ((1 - J.area) * p + 1 + 0 + i)) _ _ _ _ _ _
  rw [Nat.add_zero, hin' i (by omega), if_pos hi]
  exact part i hi
 ·exact .nil
 ·refine ⟨0, 1, 0, fun _ => [], fun i hi => by omega, by decide, hr, ?_⟩
  by_cases hend : p - 1 ≤ parts l.length
  ·exact .inl hend
  ·refine .inr ?_
   show Ends ((ckD D J l).now ((1 - J.area) * p + 1 + parts l.length)) _ _ _ _ _
   exact (own' (parts l.length) (by omega)).ends (.inr ⟨rfl, .inl rfl⟩)
 ·exact own'
 ·intro x hx
  show Sec2 ((ckD D J l).now ((1 - (1 - J.area)) * p + 1 + x)) _ _
  rw [e1, show J.area * p + 1 + x = J.area * p + (1 + x) by omega, hout' _ (by omega), show J.area * p + (1 + x) = J.area * p + 1 + x by omega]
  exact h12 x hx
 ·show (ckD D J l).now ((1 - (1 - J.area)) * p) = _ ∨ ∃ g o f n, (ckD D J l).now ((1 - (1 - J.area)) * p) = _ ∧ _
  have := hout' 0 (by omega)
  rw [Nat.add_zero] at this
  rw [e1, this]
  exact .inr ⟨J.gen, J.op, J.first, J.size, h6, ⟨hg.1, by show J.gen < J.gen + 1; omega⟩, ⟨hop.1, by omega⟩, ⟨hf.1, by omega⟩, h.size⟩
theorem Fit.ck_cut {D C : Dsk} {J : Jn} {o K q : Nat} {l : List UInt8} (h : Fit D J o K) (hK : K ≤ 1000000) (hl : l.length ≤ 1048576) (hr : parts l.length ≤ D.n / 2 - 1) (hq : q ≤ parts l.length) (hn : C.n = D.n) (hoff : C.off = false) (harm : C.armed = none)
  (hnow : C.now = (pushes D ((1 - J.area) * (D.n / 2) + 1) (fun i => partB 67 (J.gen + 1) 0 i (parts l.length) (chunk l i)) (upto q)).now) : Fit C J o K := by
 obtain ⟨p, hp⟩ : ∃ p, p = D.n / 2 := ⟨_, rfl⟩
 have h8 := h.n8
 have ha := h.area
 have hg := h.gen
 obtain ⟨hin, hout, hhd⟩ := pushes_at D (a := 1 - J.area) (used := 0) (q := q) (p := p) (fun i => partB 67 (J.gen + 1) 0 i (parts l.length) (chunk l i)) (by omega) (by omega) (by omega)
 have e1 : 1 - (1 - J.area) = J.area := by omega
 rw [← hp] at hnow
 have hnow' : C.now = (pushes D ((1 - J.area) * p + (1 + 0)) (fun i => partB 67 (J.gen + 1) 0 i (parts l.length) (chunk l i)) (upto q)).now := hnow
 rw [← hnow'] at hin hout hhd
 rw [e1] at hout
 obtain ⟨M, fs, h1, h2, h3, h4⟩ := h.st
 have h6 := h.head
 have h15 := h.hd2
 have h12 := h.own
 have h13 := h.oth
 have h11 := h.wn
 have hu := h.used
 rw [← hp] at h1 h4 h6 h11 h12 h13 h15 hu hr
 have hroom : ∀ x, x < p - 1 → C.now (J.area * p + 1 + x) = D.now (J.area * p + 1 + x) := fun x hx => by
  rw [show J.area * p + 1 + x = J.area * p + (1 + x) by omega, hout _ (by omega)]
 refine ⟨hoff, harm, by rw [hn]; exact h8, by rw [hn]; exact h.n16, ha, ?_, hg, h.op, h.first, h.size, ⟨M, fs, ?_, h2, h3, ?_⟩, ?_, ?_, ?_, ?_⟩ <;> (try rw [hn, ← hp])
 ·have := hout 0 (by omega)
  rw [Nat.add_zero] at this
  rw [this]
  exact h6
 ·exact h1.frame (fun x _ hx => hroom x (by have := h1.room; omega))
 ·exact h4.frame (fun x _ hx => hroom x (by omega))
 ·exact h11.frame hroom
 ·intro x hx
  rw [hroom x hx]
  exact h12 x hx
 ·intro x hx
  rw [hin]
  by_cases hx2 : 0 ≤ x ∧ x < 0 + q
  ·rw [if_pos hx2]
   exact .inr ⟨67, _, _, _, _, _, part_is (.inl rfl) (by omega) (by omega) hl (by omega), fun h => absurd h (by decide)⟩
  ·rw [if_neg hx2]
   exact h13 x hx
 ·rw [hhd]
  exact h15
end Go.Proofs.YtgdedgfohjplmaaGreat.Jnl
