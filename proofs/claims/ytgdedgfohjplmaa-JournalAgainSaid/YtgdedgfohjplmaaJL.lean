/- The journal: Checkpoint. -/
import Derived.Test.YtgdedgfohjplmaaJK
namespace Go.Proofs.Ytgdedgfohjplmaa.Jnl
open Go.RowKit Go.Maps Sec

/-- What Checkpoint writes. -/
def Jn.ck (J : Jn) (l : List UInt8) : Jn := ⟨1 - J.area, J.gen + 1, J.op, J.first + J.recs.length, l.length, l, [], parts l.length⟩
def ckP (D : Dsk) (J : Jn) (l : List UInt8) : Dsk := pushes D ((1 - J.area) * (D.n / 2) + 1) (fun i => partB 67 (J.gen + 1) 0 i (parts l.length) (chunk l i)) (upto (parts l.length))
def ckD (D : Dsk) (J : Jn) (l : List UInt8) : Dsk := (ckP D J l).push ((1 - J.area) * (D.n / 2)) (headB (J.gen + 1) J.op (J.first + J.recs.length) l.length)

theorem JBlk.putH {y : World} {hb jb d : Nat} {J : Jn} {sv rv : Value} {a b c e : Int} (h : JBlk y jb d J sv rv) (hne : hb ≠ jb) : JBlk (putH y hb a b c e) jb d J sv rv := by
  have hg : y.grownBy (Jnl.putH y hb a b c e) (some hb) := grown_trans (grown_trans (grown_trans (grown_set _ _ _ _) (grown_set _ _ _ _)) (grown_set _ _ _ _)) (grown_set _ _ _ _)
  exact (hg.block jb h.lt (fun e => hne (Option.some.inj e).symm)).trans h
theorem alloc_drew (w : World) (o : Obj) : w.grownBy (w.alloc o).drew none := let h := World.grownBy_alloc w o none; ⟨h.os, h.tape, h.output, h.size, fun k hk hn => h.block k hk hn⟩
abbrev H0 : Obj := .cells #[.int .i64 0, .int .i64 0, .int .i64 0, .int .i64 0] 54
def HC4 (a b c e : Int) : Array Value := #[.int .i64 a, .int .i64 b, .int .i64 c, .int .i64 e]
theorem six {w y : World} {k : Nat} {a b c e : Int} (hy : y = putH ((w.alloc H0).drewN k) w.heap.size a b c e) : y.heap[w.heap.size]? = some (.cells (HC4 a b c e) 54) ∧ w.grownBy y none ∧ w.heap.size < y.heap.size := by
  subst hy
  have h0 : ((w.alloc H0).drewN k).heap[w.heap.size]? = some H0 := (MapKept.heap_alloc w H0).1
  have f1 := heap_setCell_same _ w.heap.size 0 _ _ (.int .i64 a) h0
  have f2 := heap_setCell_same _ w.heap.size 1 _ _ (.int .i64 b) f1
  have f3 := heap_setCell_same _ w.heap.size 2 _ _ (.int .i64 c) f2
  have f4 := heap_setCell_same _ w.heap.size 3 _ _ (.int .i64 e) f3
  have hg0 : w.grownBy ((w.alloc H0).drewN k) none := let h := World.grownBy_alloc w H0 none; ⟨h.os, h.tape, h.output, h.size, fun k hk hn => h.block k hk hn⟩
  have hg : ((w.alloc H0).drewN k).grownBy (putH ((w.alloc H0).drewN k) w.heap.size a b c e) (some w.heap.size) := grown_trans (grown_trans (grown_trans (grown_set _ _ _ _) (grown_set _ _ _ _)) (grown_set _ _ _ _)) (grown_set _ _ _ _)
  exact ⟨f4, ⟨hg.os.trans hg0.os, hg.tape.trans hg0.tape, hg.output.trans hg0.output, Nat.le_trans hg0.size hg.size, fun j hj hn => (hg.block j (Nat.lt_of_lt_of_le hj hg0.size) (fun e => by cases e; omega)).trans (hg0.block j hj hn)⟩, (Array.getElem?_eq_some_iff.1 f4).1⟩
theorem ck_arg {w w' : World} {T : Nat → Prop} {A : Option Addr} {l : List UInt8} {cap : Nat} (h : (A = none ∧ l = [] ∧ cap = 0) ∨ ∃ g off, A = some ⟨g, off, none⟩ ∧ g < w.heap.size ∧ w.rangeAt g off (u8s l)) (ho : Off T w w') (hT : ∀ g off, A = some ⟨g, off, none⟩ → ¬ T g) : (A = none ∧ l = [] ∧ cap = 0) ∨ ∃ g off, A = some ⟨g, off, none⟩ ∧ g < w'.heap.size ∧ w'.rangeAt g off (u8s l) := by
  rcases h with h | ⟨g, off, h1, h2, h3⟩
  · exact .inl h
  · exact .inr ⟨g, off, h1, Nat.lt_of_lt_of_le h2 ho.size, range_keep h3 ho h2 (hT g off h1)⟩
theorem ck_arg2 {w6 w7 w8 : World} {T U : Nat → Prop} {A : Option Addr} {l : List UInt8} {cap : Nat} (h : (A = none ∧ l = [] ∧ cap = 0) ∨ ∃ g off, A = some ⟨g, off, none⟩ ∧ g < w6.heap.size ∧ w6.rangeAt g off (u8s l)) (ho : Off T w6 w7) (hT : ∀ g off, A = some ⟨g, off, none⟩ → ¬ T g) (ho2 : Off U w7 w8) (hU : ∀ g off, A = some ⟨g, off, none⟩ → ¬ U g) : (A = none ∧ l = [] ∧ cap = 0) ∨ ∃ g off, A = some ⟨g, off, none⟩ ∧ w8.rangeAt g off (u8s l) := by
  rcases ck_arg (ck_arg h ho hT) ho2 hU with h | ⟨g, off, h1, h2, h3⟩
  · exact .inl h
  · exact .inr ⟨g, off, h1, h3⟩
theorem ck_lt {w : World} {A : Option Addr} {l : List UInt8} {cap g off : Nat} (h : (A = none ∧ l = [] ∧ cap = 0) ∨ ∃ g off, A = some ⟨g, off, none⟩ ∧ g < w.heap.size ∧ w.rangeAt g off (u8s l)) (e : A = some ⟨g, off, none⟩) : g < w.heap.size := by
  rcases h with ⟨h, _⟩ | ⟨g2, off2, h1, h2, _⟩
  · rw [h] at e; cases e
  · rw [h1] at e; cases e; exact h2
theorem keepH {y : World} {hb jb j : Nat} {C : Array Value} {t : TypeId} {v : Value} (h : y.heap[hb]? = some (.cells C t)) (hne : hb ≠ jb) : (y.setCell ⟨jb, j, none⟩ v).heap[hb]? = some (.cells C t) := ((grown_set y jb j v).block hb (Array.getElem?_eq_some_iff.1 h).1 (fun e => hne (Option.some.inj e))).trans h
theorem ck_room {a n p : Nat} (ha : a ≤ 1) (hn : 4 ≤ n) (hp : p ≤ n / 2 - 1) : (1 - a) * (n / 2) + 1 + p ≤ n := by
  obtain h1 | h1 : a = 0 ∨ a = 1 := by omega
  · rw [h1]; omega
  · rw [h1]; omega
theorem ckP_n (D : Dsk) (J : Jn) (l : List UInt8) : (ckP D J l).n = D.n ∧ (ckP D J l).off = D.off ∧ (ckP D J l).armed = D.armed ∧ (ckP D J l).wr.length = D.wr.length + parts l.length := by
  have h := pushes_n D ((1 - J.area) * (D.n / 2) + 1) (fun i => partB 67 (J.gen + 1) 0 i (parts l.length) (chunk l i)) (upto (parts l.length))
  rw [upto_length] at h
  exact h
/-- The stores of Checkpoint. -/
def putC (y : World) (jb : Nat) (a g o f n : Int) (v : Value) (u : Int) : World := (((((((y.setCell ⟨jb, 1, none⟩ (.int .i64 a)).setCell ⟨jb, 2, none⟩ (.int .i64 g)).setCell ⟨jb, 3, none⟩ (.int .i64 o)).setCell ⟨jb, 4, none⟩ (.int .i64 f)).setCell ⟨jb, 5, none⟩ (.int .i64 n)).setCell ⟨jb, 6, none⟩ v).setCell ⟨jb, 7, none⟩ (.slice none 0 0)).setCell ⟨jb, 8, none⟩ (.int .i64 u)
set_option maxHeartbeats 1000000 in
theorem putC_blk {y : World} {jb : Nat} {t : TypeId} {c0 c1 c2 c3 c4 c5 c6 c7 c8 c9 : Value} (h : y.heap[jb]? = some (.cells #[c0, c1, c2, c3, c4, c5, c6, c7, c8, c9] t)) (a g o f n : Int) (v : Value) (u : Int) : (putC y jb a g o f n v u).heap[jb]? = some (.cells #[c0, .int .i64 a, .int .i64 g, .int .i64 o, .int .i64 f, .int .i64 n, v, .slice none 0 0, .int .i64 u, c9] t) := by
  have f1 := heap_setCell_same _ jb 1 _ _ (.int .i64 a) h
  have f2 := heap_setCell_same _ jb 2 _ _ (.int .i64 g) f1
  have f3 := heap_setCell_same _ jb 3 _ _ (.int .i64 o) f2
  have f4 := heap_setCell_same _ jb 4 _ _ (.int .i64 f) f3
  have f5 := heap_setCell_same _ jb 5 _ _ (.int .i64 n) f4
  have f6 := heap_setCell_same _ jb 6 _ _ v f5
  have f7 := heap_setCell_same _ jb 7 _ _ (.slice none 0 0) f6
  have f8 := heap_setCell_same _ jb 8 _ _ (.int .i64 u) f7
  simp only [List.setIfInBounds_toArray, List.set_cons_zero, List.set_cons_succ] at f8
  exact f8
theorem ck_end {w w6 w7 w8 w9 x : World} {Sd S Sd7 Sd8 : Nat → Prop} {d jb : Nat} {D8 : Dsk} {J : Jn} {sv rv v : Value} {vs : List Value} {l : List UInt8} (hI : JIn w S jb d J sv rv vs) (g6 : w.grownBy w6 none) (o7 : Off Sd w6 w7) (o8 : Off Sd7 w7 w8) (b9 : Below w8.heap.size w8 w9) (hr : BRow w9 w8.heap.size v l) (hSS : ∀ b, S b → ¬ Sd b) (hs7 : ∀ b, Sd7 b → (Sd b ∨ w6.heap.size ≤ b) ∧ b < w7.heap.size) (hs8 : ∀ b, Sd8 b → (Sd7 b ∨ w7.heap.size ≤ b) ∧ b < w8.heap.size) (hd8 : DiskAt w8 Sd8 d D8)
    (hx : Off (fun _ => False) (putC w9 jb ((1 - J.area : Nat) : Int) ((J.gen + 1 : Nat) : Int) (J.op : Int) ((J.first + J.recs.length : Nat) : Int) (l.length : Int) v (parts l.length : Int)) x) :
    ∃ S' Sd', JAt x S' jb d (J.ck l) ∧ DiskAt x Sd' d D8 ∧ (∀ b, S' b → ¬ Sd' b) ∧ (∀ b, S' b → S b ∨ w.heap.size ≤ b) ∧ (∀ b, Sd' b → (Sd b ∨ w.heap.size ≤ b) ∧ b < x.heap.size) ∧ Off (fun b => S b ∨ Sd b) w x := by
  have s6 := g6.size
  have s7 := o7.size
  have s8 := o8.size
  have s9 := b9.size
  have hj0 : jb < w.heap.size := hI.blk.lt
  have hjS : ¬ Sd jb := hSS jb hI.own.1
  have hjS7 : ¬ Sd7 jb := fun h => by
    rcases (hs7 jb h).1 with h1 | h1
    · exact hjS h1
    · omega
  have hj9 : JBlk w9 jb d J sv rv := (b9.block jb (by omega)).trans (((hI.blk.grown g6).off o7 hjS).off o8 hjS7)
  have hgC : w9.grownBy (putC w9 jb ((1 - J.area : Nat) : Int) ((J.gen + 1 : Nat) : Int) (J.op : Int) ((J.first + J.recs.length : Nat) : Int) (l.length : Int) v (parts l.length : Int)) (some jb) :=
    grown_trans (grown_trans (grown_trans (grown_trans (grown_trans (grown_trans (grown_trans (grown_set _ _ _ _) (grown_set _ _ _ _)) (grown_set _ _ _ _)) (grown_set _ _ _ _)) (grown_set _ _ _ _)) (grown_set _ _ _ _)) (grown_set _ _ _ _)) (grown_set _ _ _ _)
  obtain ⟨y, hy⟩ : ∃ y, y = putC w9 jb ((1 - J.area : Nat) : Int) ((J.gen + 1 : Nat) : Int) (J.op : Int) ((J.first + J.recs.length : Nat) : Int) (l.length : Int) v (parts l.length : Int) := ⟨_, rfl⟩
  rw [← hy] at hx hgC
  have f9 : JBlk y jb d (J.ck l) v (.slice none 0 0) := by rw [hy]; exact putC_blk hj9 ..
  have o9y : Off (fun b => b = jb) w9 y := Off.of_grown hgC (fun k e => by cases e; rfl)
  have sy := o9y.size
  have sx := hx.size
  have hr9 : BRow y w8.heap.size v l := Sec.row_off hr o9y (fun g hg e => by have := hr.own g hg; omega)
  have o69 : Off (fun b => S b ∨ Sd b ∨ w6.heap.size ≤ b) w6 x := ((((o7.mono (fun _ _ h => .inr (.inl h))).trans (o8.mono (fun k _ h => by
    rcases (hs7 k h).1 with h1 | h1
    · exact .inr (.inl h1)
    · exact .inr (.inr h1)))).trans ⟨b9.os, b9.tape, b9.output, b9.size, fun k hk _ => b9.block k hk⟩).trans (o9y.mono (fun k _ e => .inl (e ▸ hI.own.1)))).trans (hx.mono (fun _ _ h => h.elim))
  have hot : Off (fun b => S b ∨ Sd b) w x := ⟨o69.os.trans g6.os, o69.tape.trans g6.tape, o69.output.trans g6.output, Nat.le_trans s6 o69.size, fun k hk hn => (o69.block k (by omega) (fun h => by
    rcases h with h | h | h
    · exact hn (.inl h)
    · exact hn (.inr h)
    · omega)).trans (g6.block k hk (by simp))⟩
  have hS8 : ∀ b, Sd8 b → Sd b ∨ w.heap.size ≤ b := fun b hb => by
    rcases (hs8 b hb).1 with h1 | h1
    · rcases (hs7 b h1).1 with h2 | h2
      · exact .inl h2
      · exact .inr (by omega)
    · exact .inr (by omega)
  have hdis : ∀ b, S b → ¬ Sd8 b := fun b hb h => by
    have := hI.lt b hb
    rcases hS8 b h with h1 | h1
    · exact hSS b hb h1
    · omega
  have hv : ∀ g, v.ownBlock = some g → w8.heap.size ≤ g ∧ g < y.heap.size := fun g hg => by have := hr.own g hg; have := World.ownsRow.lt hr g hg; omega
  refine ⟨fun b => (S b ∨ w8.heap.size ≤ b) ∧ b < x.heap.size, Sd8, ⟨v, .slice none 0 0, [], ?_⟩, ?_, fun b hb h => ?_, fun b hb => ?_, fun b hb => ⟨hS8 b hb, by have := (hs8 b hb).2; omega⟩, hot⟩
  · have hJy : JIn y (fun b => (S b ∨ w8.heap.size ≤ b) ∧ b < y.heap.size) jb d (J.ck l) v (.slice none 0 0) [] :=
      ⟨f9, brow_less hr9 (Nat.zero_le _), ⟨rfl, .inl ⟨rfl, rfl⟩⟩, fun i l2 hi => by simp [Jn.ck] at hi, ⟨⟨.inl hI.own.1, by omega⟩, fun g hg => ⟨.inr (hv g hg).1, (hv g hg).2⟩, fun g hg => (by cases hg), fun v hv => (by cases hv)⟩, fun b hb => hb.2⟩
    have h2 := hJy.off hx (fun _ _ h => h)
    exact ⟨h2.blk, h2.st, h2.rows, h2.recs, ⟨⟨h2.own.1.1, by omega⟩, fun g hg => ⟨(h2.own.2.1 g hg).1, by have := (h2.own.2.1 g hg).2; omega⟩, fun g hg => (by cases hg), fun v hv => (by cases hv)⟩, fun b hb => hb.2⟩
  · have o8x : Off (fun b => b = jb) w8 x := ((⟨b9.os, b9.tape, b9.output, b9.size, fun k hk _ => b9.block k hk⟩ : Off (fun b => b = jb) w8 w9).trans o9y).trans (hx.mono (fun _ _ h => h.elim))
    exact hd8.off o8x (fun k _ hk e => hdis jb hI.own.1 (e ▸ hk))
  · rcases hb.1 with h1 | h1
    · exact hdis b h1 h
    · have := (hs8 b h).2
      omega
  · rcases hb.1 with h1 | h1
    · exact .inl h1
    · exact .inr (by omega)
theorem half_wrap {n : Nat} (h : n ≤ 16384) (h4 : 4 ≤ n) : wrap64 ((n : Int) / 2 - 1) = ((n / 2 - 1 : Nat) : Int) := by unfold wrap64; omega
set_option maxRecDepth 100000 in
set_option maxHeartbeats 4000000 in
theorem ck_no (Sd S : Nat → Prop) (d jb : Nat) (D : Dsk) (J : Jn) (l : List UInt8) (A : Option Addr) (cap : Nat) (w : World) (h : DiskAt w Sd d D) (hj : JAt w S jb d J) (h4 : 4 ≤ D.n) (hl : l.length ≤ 1048576) (hcap : l.length ≤ cap) (_ : cap ≤ maxLen) (hno : D.n / 2 - 1 < parts l.length) :
    Calls Try.prog 20 #[.pointer (some ⟨jb, 0, none⟩), .slice A l.length cap] w fun e w' => e = .returned (.int .i64 31) ∧ ∃ m, w' = w.drewN m := by
  have HD := Lib.hid h
  have HJ := Lib.hid hj
  have HN := Lib.hid h4
  have HE : Hid (askedJ l.length 1048576 (D.n / 2 - 1) = 31) := by
    show _ = _
    unfold askedJ
    rw [if_neg (by omega), if_pos hno]
  have HLL : Hid (l.length < 1000000000000) := by show _ < _; omega
  have HW : Hid (wrap64 ((D.n : Int) / 2 - 1) = ((D.n / 2 - 1 : Nat) : Int)) := half_wrap h.1 h4
  obtain ⟨n, hn⟩ : ∃ n, n = l.length := ⟨_, rfl⟩
  rw [← hn] at hcap ⊢
  have HNL := Lib.hid hn
  have c1 : (n : Int) ≤ (cap : Int) := by omega
  obtain ⟨sv, rv, vs, hj⟩ := HJ.out
  have HB := Lib.hid hj.blk
  clear h hj h4 hl hno hn
  go_enter Try.func20, Try.ntmps20
  go_wp2_with fail
  refine (half_at Sd d D jb J sv rv w HD.out HB.out).mono ?_
  rintro e wq ⟨rfl, hwq⟩
  have hwq := hwq.symm
  subst hwq
  go_wp2_with fail
  rw [HW.out, HNL.out]
  refine (asked_at jb d J sv rv l.length 1048576 (D.n / 2 - 1) HLL.out w HB.out).mono ?_
  rintro e wq ⟨rfl, hwq⟩
  have hwq := hwq.symm
  subst hwq
  rw [HE.out]
  go_wp2_with fail
  go_ret
  exact ⟨rfl, 0, rfl⟩
set_option maxRecDepth 100000 in
set_option maxHeartbeats 8000000 in
theorem ck_yes (Sd S : Nat → Prop) (d jb : Nat) (D : Dsk) (J : Jn) (l : List UInt8) (A : Option Addr) (cap : Nat) (w : World) (h : DiskAt w Sd d D) (hlt : ∀ b, Sd b → b < w.heap.size) (hj : JAt w S jb d J) (hSS : ∀ b, S b → ¬ Sd b) (ho : D.off = false) (harm : D.armed = none) (hwr : D.wr.length + 70000 < 1000000) (h4 : 4 ≤ D.n) (ha : J.area ≤ 1) (hl : l.length ≤ 1048576) (hcap : l.length ≤ cap) (hcm : cap ≤ maxLen) (hok : parts l.length ≤ D.n / 2 - 1)
    (hop : J.gen ≤ 4611686018427387904 ∧ J.op ≤ 4611686018427387904 ∧ J.first + J.recs.length ≤ 4611686018427387904)
    (hA : (A = none ∧ l = [] ∧ cap = 0) ∨ ∃ g off, A = some ⟨g, off, none⟩ ∧ g < w.heap.size ∧ w.rangeAt g off (u8s l)) (hAS : ∀ g off, A = some ⟨g, off, none⟩ → ¬ Sd g) :
    Calls Try.prog 20 #[.pointer (some ⟨jb, 0, none⟩), .slice A l.length cap] w fun e w' => e = .returned (.int .i64 0) ∧ ∃ S' Sd', JAt w' S' jb d (J.ck l) ∧ DiskAt w' Sd' d (ckD D J l) ∧ (∀ b, S' b → ¬ Sd' b) ∧ (∀ b, S' b → S b ∨ w.heap.size ≤ b) ∧ (∀ b, Sd' b → (Sd b ∨ w.heap.size ≤ b) ∧ b < w'.heap.size) ∧ Off (fun b => S b ∨ Sd b) w w' := by
  have HD := Lib.hid h
  have HLT := Lib.hid hlt
  have HSS := Lib.hid hSS
  have HO := Lib.hid ho
  have HARM := Lib.hid harm
  have HWR := Lib.hid hwr
  have HAR := Lib.hid ha
  have HN := Lib.hid h4
  have HOP := Lib.hid hop
  have HA := Lib.hid hA
  have HAS := Lib.hid hAS
  have HE : Hid (askedJ l.length 1048576 (D.n / 2 - 1) = 0) := by
    show _ = _
    unfold askedJ
    rw [if_neg (by omega), if_neg (by omega)]
  have HOK := Lib.hid hok
  have HLL : Hid (l.length < 1000000000000) := by show _ < _; omega
  have HLM := Lib.hid hl
  have HCM := Lib.hid hcm
  have HDN := Lib.hid h.1
  have HW : Hid (wrap64 ((D.n : Int) / 2 - 1) = ((D.n / 2 - 1 : Nat) : Int)) := half_wrap h.1 h4
  obtain ⟨n, hn⟩ : ∃ n, n = l.length := ⟨_, rfl⟩
  rw [← hn] at hcap ⊢
  have HNL := Lib.hid hn
  have HCAP := Lib.hid hcap
  have c1 : (n : Int) ≤ (cap : Int) := by omega
  obtain ⟨sv, rv, vs, hj⟩ := hj
  obtain ⟨Ar, capr, hrv, hcr, hmr⟩ := row_len hj.rows
  subst hrv
  have HI := Lib.hid hj
  have HB := Lib.hid hj.blk
  have HJS : Hid (¬ Sd jb) := hSS jb hj.own.1
  have HW1 : Hid (IntKind.i64.wrap ((J.gen : Int) + 1) = (J.gen : Int) + 1) := by show _ = _; rw [IntKind.wrap_i64]; omega
  have HW2 : Hid (IntKind.i64.wrap (1 - (J.area : Int)) = 1 - (J.area : Int)) := by show _ = _; rw [IntKind.wrap_i64]; omega
  have HC : Hid (∀ k, (w.drewN k).cell? ⟨jb, 2, none⟩ = some (.int .i64 (J.gen : Int)) ∧ (w.drewN k).cell? ⟨jb, 3, none⟩ = some (.int .i64 (J.op : Int))) := fun k => ⟨HB.out.cell 2, HB.out.cell 3⟩
  obtain ⟨hb, hhb⟩ : ∃ hb, hb = w.heap.size := ⟨_, rfl⟩
  have HHB := Lib.hid hhb
  have HHB2 : Hid (hb ≠ jb) := by show _ ≠ _; have := HB.out.lt; omega
  have HHJ : Hid (w.heap.size ≠ jb) := by show _ ≠ _; have := HB.out.lt; omega
  clear h hlt hSS ho harm hwr ha hj h4 hl hn hop hA hAS hok hcm hcr hmr hhb
  go_enter Try.func20, Try.ntmps20
  go_wp2_with fail
  refine (half_at Sd d D jb J sv _ w HD.out HB.out).mono ?_
  rintro e wq ⟨rfl, hwq⟩
  have hwq := hwq.symm
  subst hwq
  go_wp2_with fail
  rw [HW.out, HNL.out]
  refine (asked_at jb d J sv _ l.length 1048576 (D.n / 2 - 1) HLL.out w HB.out).mono ?_
  rintro e wq ⟨rfl, hwq⟩
  have hwq := hwq.symm
  subst hwq
  rw [HE.out, ← HNL.out]
  go_upto_region 6 with fail
  refine wp_region_noPanic ?_
  refine wp_region_held_drew (S := fun w' => w'.cell? ⟨jb, 2, none⟩ = some (Value.int .i64 (J.gen : Int)) ∧ w'.cell? ⟨jb, 3, none⟩ = some (Value.int .i64 (J.op : Int))) (by kernel_rfl) ?hSp (fun hHeld => ?_)
  case hSp => exact HC.out _
  refine wpAnyH_take (i := 0) (oi := ⟨_, _, _, _, _, _⟩) (v := ?vp0) rfl (by kernel_rfl) (by kernel_rfl) (by kernel_rfl) (fun _ _ _ h => h) (Or.inl ⟨by rfl, ?hyp0⟩) hHeld ?_
  case hyp0 => (intro wS hSw; (try dsimp only at hSw); go_simp; (first | done | with_reducible rfl))
  try simp only [Act.put, List.setIfInBounds_toArray, List.set_cons_zero, List.set_cons_succ]
  refine wpAnyH_take (i := 1) (oi := ⟨_, _, _, _, _, _⟩) (v := ?vp1) rfl (by kernel_rfl) (by kernel_rfl) (by kernel_rfl) (fun _ _ _ h => h) (Or.inl ⟨by rfl, ?hyp1⟩) hHeld ?_
  case hyp1 => (intro wS hSw; (try dsimp only at hSw); go_simp; (first | done | with_reducible rfl))
  try simp only [Act.put, List.setIfInBounds_toArray, List.set_cons_zero, List.set_cons_succ]
  refine wpAnyH_take (i := 2) (oi := ⟨_, _, _, _, _, _⟩) (v := ?vp2) rfl (by kernel_rfl) (by kernel_rfl) (by kernel_rfl) (fun _ _ _ h => h) (Or.inl ⟨by rfl, ?hyp2⟩) hHeld ?_
  case hyp2 => (intro wS hSw; (try dsimp only at hSw); go_simp; (first | done | with_reducible rfl))
  try simp only [Act.put, List.setIfInBounds_toArray, List.set_cons_zero, List.set_cons_succ]
  refine wpAnyH_take (i := 3) (oi := ⟨_, _, _, _, _, _⟩) (v := ?vp3) rfl (by kernel_rfl) (by kernel_rfl) (by kernel_rfl) (fun _ _ _ h => h) (Or.inl ⟨by rfl, ?hyp3⟩) hHeld ?_
  case hyp3 => (intro wS hSw; (try dsimp only at hSw); go_simp; (first | done | with_reducible rfl))
  try simp only [Act.put, List.setIfInBounds_toArray, List.set_cons_zero, List.set_cons_succ]
  refine wpAnyH_take (i := 4) (oi := ⟨_, _, _, _, _, _⟩) (v := ?vp4) rfl (by kernel_rfl) (by kernel_rfl) (by kernel_rfl) (fun _ _ _ h => h) (Or.inl ⟨by rfl, ?hyp4⟩) hHeld ?_
  case hyp4 => (intro wS hSw; (try dsimp only at hSw); go_simp; (first | done | with_reducible rfl))
  try simp only [Act.put, List.setIfInBounds_toArray, List.set_cons_zero, List.set_cons_succ]
  refine wpAnyH_take (i := 5) (oi := ⟨_, _, _, _, _, _⟩) (v := Value.int .i64 ((J.gen : Int) + 1)) rfl (by kernel_rfl) (by kernel_rfl) (by kernel_rfl) (fun _ _ _ h => h) (Or.inl ⟨by rfl, ?hyp5⟩) hHeld ?_
  case hyp5 => (intro wS hSw; (try dsimp only at hSw); go_simp; rw [HW1.out])
  try simp only [Act.put, List.setIfInBounds_toArray, List.set_cons_zero, List.set_cons_succ]
  refine wpAnyH_take (i := 6) (oi := ⟨_, _, _, _, _, _⟩) (v := ?vp6) rfl (by kernel_rfl) (by kernel_rfl) (by kernel_rfl) (fun _ _ _ h => h) (Or.inl ⟨by rfl, ?hyp6⟩) hHeld ?_
  case hyp6 => (intro wS hSw; (try dsimp only at hSw); go_simp; (first | done | with_reducible rfl))
  try simp only [Act.put, List.setIfInBounds_toArray, List.set_cons_zero, List.set_cons_succ]
  refine wpAnyH_take (i := 7) (oi := ⟨_, _, _, _, _, _⟩) (v := ?vp7) rfl (by kernel_rfl) (by kernel_rfl) (by kernel_rfl) (fun _ _ _ h => h) (Or.inl ⟨by rfl, ?hyp7⟩) hHeld ?_
  case hyp7 => (intro wS hSw; (try dsimp only at hSw); go_simp; (first | done | with_reducible rfl))
  try simp only [Act.put, List.setIfInBounds_toArray, List.set_cons_zero, List.set_cons_succ]
  refine wpAnyH_take (i := 8) (oi := ⟨_, _, _, _, _, _⟩) (v := ?vp8) rfl (by kernel_rfl) (by kernel_rfl) (by kernel_rfl) (fun _ _ _ h => h) (Or.inl ⟨by rfl, ?hyp8⟩) hHeld ?_
  case hyp8 => (intro wS hSw; (try dsimp only at hSw); go_simp; (first | done | with_reducible rfl))
  try simp only [Act.put, List.setIfInBounds_toArray, List.set_cons_zero, List.set_cons_succ]
  refine wpAnyH_take (i := 9) (oi := ⟨_, _, _, _, _, _⟩) (v := ?vp9) rfl (by kernel_rfl) (by kernel_rfl) (by kernel_rfl) (fun _ _ _ h => h) (Or.inl ⟨by rfl, ?hyp9⟩) hHeld ?_
  case hyp9 => (intro wS hSw; (try dsimp only at hSw); go_simp; (first | done | with_reducible rfl))
  try simp only [Act.put, List.setIfInBounds_toArray, List.set_cons_zero, List.set_cons_succ]
  refine wpAnyH_take (i := 10) (oi := ⟨_, _, _, _, _, _⟩) (v := ?vp10) rfl (by kernel_rfl) (by kernel_rfl) (by kernel_rfl) (fun _ _ _ h => h) (Or.inl ⟨by rfl, ?hyp10⟩) hHeld ?_
  case hyp10 => (intro wS hSw; (try dsimp only at hSw); go_simp; (first | done | with_reducible rfl))
  try simp only [Act.put, List.setIfInBounds_toArray, List.set_cons_zero, List.set_cons_succ]
  refine wpAnyH_take (i := 11) (oi := ⟨_, _, _, _, _, _⟩) (v := ?vp11) rfl (by kernel_rfl) (by kernel_rfl) (by kernel_rfl) (fun _ _ _ h => h) (Or.inl ⟨by rfl, ?hyp11⟩) hHeld ?_
  case hyp11 => (intro wS hSw; (try dsimp only at hSw); go_simp; (first | done | with_reducible rfl))
  try simp only [Act.put, List.setIfInBounds_toArray, List.set_cons_zero, List.set_cons_succ]
  refine wpAnyH_take (i := 13) (oi := ⟨_, _, _, _, _, _⟩) (v := ?vp13) rfl (by kernel_rfl) (by kernel_rfl) (by kernel_rfl) (fun _ _ _ h => h) (Or.inl ⟨by rfl, ?hyp13⟩) hHeld ?_
  case hyp13 => (intro wS hSw; (try dsimp only at hSw); go_simp; (first | done | with_reducible rfl))
  try simp only [Act.put, List.setIfInBounds_toArray, List.set_cons_zero, List.set_cons_succ]
  refine wpAnyH_take (i := 14) (oi := ⟨_, _, _, _, _, _⟩) (v := ?vp14) rfl (by kernel_rfl) (by kernel_rfl) (by kernel_rfl) (fun _ _ _ h => h) (Or.inl ⟨by rfl, ?hyp14⟩) hHeld ?_
  case hyp14 => (intro wS hSw; (try dsimp only at hSw); go_simp; (first | done | with_reducible rfl))
  try simp only [Act.put, List.setIfInBounds_toArray, List.set_cons_zero, List.set_cons_succ]
  refine wpAnyH_ready (rs := [12, 16]) (by kernel_rfl) (by simp) ?_
  refine AllReadyH.cons (o := ⟨_, _, _, _, _, _⟩) rfl (fun K hK => ?_) (AllReadyH.cons (o := ⟨_, _, _, _, _, _⟩) rfl (fun K hK => ?_) AllReadyH.nil)
  · go_simp
    refine (next_blk jb d J sv _ Ar J.recs.length capr rfl (by have := HOP.out; omega) _ (by exact HB.out)).mono ?_
    rintro e wq ⟨rfl, m2, rfl⟩
    go_wp2_with fail
    refine hK.out _ _ ?kpx12 (fun hNew => ?_)
    case kpx12 => (try dsimp only); exact HC.out _
    clear hK K hHeld
    have hHeld := hNew
    clear hNew
    try simp only [Act.put, List.setIfInBounds_toArray, List.set_cons_zero, List.set_cons_succ]
    refine wpAnyH_take (i := 15) (oi := ⟨_, _, _, _, _, _⟩) (v := ?vpx15) rfl (by kernel_rfl) (by kernel_rfl) (by kernel_rfl) (fun _ _ _ h => h) (Or.inl ⟨by rfl, ?hypx15⟩) hHeld ?_
    case hypx15 => (intro wS hSw; (try dsimp only at hSw); go_simp; (first | done | with_reducible rfl))
    try simp only [Act.put, List.setIfInBounds_toArray, List.set_cons_zero, List.set_cons_succ]
    refine wpAnyH_ready (rs := [16]) (by kernel_rfl) (by simp) ?_
    refine AllReadyH.cons (o := ⟨_, _, _, _, _, _⟩) rfl (fun K hK => ?_) AllReadyH.nil
    go_simp
    refine hK.out _ ((w.alloc (.cells #[.int .i64 0, .int .i64 0, .int .i64 0, .int .i64 0] 54)).drewN (1 + m2)) ?kpx16 (fun hNew => ?_)
    case kpx16 => (try dsimp only); exact ⟨(HB.out.grown (drew_then (World.grownBy_alloc _ _ none))).cell 2, (HB.out.grown (drew_then (World.grownBy_alloc _ _ none))).cell 3⟩
    clear hK K hHeld
    have hHeld := hNew
    clear hNew
    try simp only [Act.put, List.setIfInBounds_toArray, List.set_cons_zero, List.set_cons_succ]
    refine wpAnyH_ready (rs := [17]) (by kernel_rfl) (by simp) ?_
    refine AllReadyH.cons (o := ⟨_, _, _, _, _, _⟩) rfl (fun K hK => ?_) AllReadyH.nil
    go_simp
    refine hK.out _ _ ?kpx17 (fun hNew => ?_)
    case kpx17 => (try dsimp only); exact ⟨(JBlk.putH (HB.out.grown (drew_then (World.grownBy_alloc _ _ none))) HHJ.out).cell 2, (JBlk.putH (HB.out.grown (drew_then (World.grownBy_alloc _ _ none))) HHJ.out).cell 3⟩
    clear hK K hHeld
    have hHeld := hNew
    clear hNew
    try simp only [Act.put, List.setIfInBounds_toArray, List.set_cons_zero, List.set_cons_succ]
    refine wpAnyH_done (by kernel_rfl) ?_ _
    refine NoPanic.normal ?_
    clear hHeld
    obtain ⟨w6, hw6⟩ : ∃ x, x = putH ((w.alloc H0).drewN (1 + m2)) w.heap.size ((J.gen : Int) + 1) (J.op : Int) ((J.first : Int) + (J.recs.length : Int)) (n : Int) := ⟨_, rfl⟩
    obtain ⟨h6, g6, s6⟩ := six hw6
    unfold putH at hw6
    rw [← hw6, ← HHB.out]
    rw [← HHB.out] at h6 s6
    clear hw6
    have HH6 := Lib.hid h6
    have HG6 := Lib.hid g6
    have HS6 := Lib.hid s6
    have HD6 := Lib.hid (HD.out.grown g6)
    have HB6 := Lib.hid (HB.out.grown g6)
    have HA6 : Hid ((A = none ∧ l = [] ∧ cap = 0) ∨ ∃ g off, A = some ⟨g, off, none⟩ ∧ g < w6.heap.size ∧ w6.rangeAt g off (u8s l)) := ck_arg HA.out (Off.of_grown g6 (S := fun _ => False) (by simp)) (fun _ _ _ h => h)
    clear h6 g6 s6
    go_upto_region 7 with fail
    refine wp_region_noPanic ?_
    refine wp_region_held_drew (S := fun w' => w'.cell? ⟨jb, 1, none⟩ = some (Value.int .i64 (J.area : Int)) ∧ w'.cell? ⟨hb, 0, none⟩ = some (Value.int .i64 ((J.gen : Int) + 1))) (by kernel_rfl) ?hSpx7 (fun hHeld => ?_)
    case hSpx7 => exact ⟨HB6.out.cell 1, cell_blk HH6.out 0⟩
    refine wpAnyH_take (i := 0) (oi := ⟨_, _, _, _, _, _⟩) (v := ?vpx70) rfl (by kernel_rfl) (by kernel_rfl) (by kernel_rfl) (fun _ _ _ h => h) (Or.inl ⟨by rfl, ?hypx70⟩) hHeld ?_
    case hypx70 => (intro wS hSw; (try dsimp only at hSw); go_simp; (first | done | with_reducible rfl))
    try simp only [Act.put, List.setIfInBounds_toArray, List.set_cons_zero, List.set_cons_succ]
    refine wpAnyH_take (i := 1) (oi := ⟨_, _, _, _, _, _⟩) (v := ?vpx71) rfl (by kernel_rfl) (by kernel_rfl) (by kernel_rfl) (fun _ _ _ h => h) (Or.inl ⟨by rfl, ?hypx71⟩) hHeld ?_
    case hypx71 => (intro wS hSw; (try dsimp only at hSw); go_simp; (first | done | with_reducible rfl))
    try simp only [Act.put, List.setIfInBounds_toArray, List.set_cons_zero, List.set_cons_succ]
    refine wpAnyH_take (i := 2) (oi := ⟨_, _, _, _, _, _⟩) (v := ?vpx72) rfl (by kernel_rfl) (by kernel_rfl) (by kernel_rfl) (fun _ _ _ h => h) (Or.inl ⟨by rfl, ?hypx72⟩) hHeld ?_
    case hypx72 => (intro wS hSw; (try dsimp only at hSw); go_simp; (first | done | with_reducible rfl))
    try simp only [Act.put, List.setIfInBounds_toArray, List.set_cons_zero, List.set_cons_succ]
    refine wpAnyH_take (i := 3) (oi := ⟨_, _, _, _, _, _⟩) (v := ?vpx73) rfl (by kernel_rfl) (by kernel_rfl) (by kernel_rfl) (fun _ _ _ h => h) (Or.inl ⟨by rfl, ?hypx73⟩) hHeld ?_
    case hypx73 => (intro wS hSw; (try dsimp only at hSw); go_simp; (first | done | with_reducible rfl))
    try simp only [Act.put, List.setIfInBounds_toArray, List.set_cons_zero, List.set_cons_succ]
    refine wpAnyH_take (i := 4) (oi := ⟨_, _, _, _, _, _⟩) (v := ?vpx74) rfl (by kernel_rfl) (by kernel_rfl) (by kernel_rfl) (fun _ _ _ h => h) (Or.inl ⟨by rfl, ?hypx74⟩) hHeld ?_
    case hypx74 => (intro wS hSw; (try dsimp only at hSw); go_simp; (first | done | with_reducible rfl))
    try simp only [Act.put, List.setIfInBounds_toArray, List.set_cons_zero, List.set_cons_succ]
    refine wpAnyH_take (i := 5) (oi := ⟨_, _, _, _, _, _⟩) (v := Value.int .i64 (1 - (J.area : Int))) rfl (by kernel_rfl) (by kernel_rfl) (by kernel_rfl) (fun _ _ _ h => h) (Or.inl ⟨by rfl, ?hypx75⟩) hHeld ?_
    case hypx75 => (intro wS hSw; (try dsimp only at hSw); go_simp; rw [HW2.out])
    try simp only [Act.put, List.setIfInBounds_toArray, List.set_cons_zero, List.set_cons_succ]
    refine wpAnyH_take (i := 6) (oi := ⟨_, _, _, _, _, _⟩) (v := ?vpx76) rfl (by kernel_rfl) (by kernel_rfl) (by kernel_rfl) (fun _ _ _ h => h) (Or.inl ⟨by rfl, ?hypx76⟩) hHeld ?_
    case hypx76 => (intro wS hSw; (try dsimp only at hSw); go_simp; (first | done | with_reducible rfl))
    try simp only [Act.put, List.setIfInBounds_toArray, List.set_cons_zero, List.set_cons_succ]
    refine wpAnyH_take (i := 7) (oi := ⟨_, _, _, _, _, _⟩) (v := ?vpx77) rfl (by kernel_rfl) (by kernel_rfl) (by kernel_rfl) (fun _ _ _ h => h) (Or.inl ⟨by rfl, ?hypx77⟩) hHeld ?_
    case hypx77 => (intro wS hSw; (try dsimp only at hSw); go_simp; (first | done | with_reducible rfl))
    try simp only [Act.put, List.setIfInBounds_toArray, List.set_cons_zero, List.set_cons_succ]
    refine wpAnyH_take (i := 8) (oi := ⟨_, _, _, _, _, _⟩) (v := ?vpx78) rfl (by kernel_rfl) (by kernel_rfl) (by kernel_rfl) (fun _ _ _ h => h) (Or.inl ⟨by rfl, ?hypx78⟩) hHeld ?_
    case hypx78 => (intro wS hSw; (try dsimp only at hSw); go_simp; (first | done | with_reducible rfl))
    try simp only [Act.put, List.setIfInBounds_toArray, List.set_cons_zero, List.set_cons_succ]
    refine wpAnyH_ready (rs := [9]) (by kernel_rfl) (by simp) ?_
    refine AllReadyH.cons (o := ⟨_, _, _, _, _, _⟩) rfl (fun K hK => ?_) AllReadyH.nil
    go_simp
    rw [show (1 : Int) - (J.area : Int) = ((1 - J.area : Nat) : Int) by have := HAR.out; omega, show (J.gen : Int) + 1 = ((J.gen + 1 : Nat) : Int) by omega, HNL.out]
    refine (put_at Sd d D jb J sv _ (1 - J.area) 1 67 (J.gen + 1) 0 l A cap (by have := HOP.out; omega) (by decide) (by have := HLM.out; omega) (by rw [← HNL.out]; exact HCAP.out) HCM.out w6.drew (HD6.out.grown ⟨rfl, rfl, rfl, Nat.le_refl _, fun _ _ _ => rfl⟩) (fun b hb => Nat.lt_of_lt_of_le (HLT.out b hb) HG6.out.size) HB6.out HJS.out (ck_room HAR.out HN.out HOK.out) HO.out HARM.out (by have := HWR.out; omega) (HA6.out.imp (fun h => h.2) (fun ⟨g, off, e, h1, h2⟩ => ⟨g, off, e, h1, HAS.out g off e, h2⟩))).mono ?_
    rw [← HNL.out]
    rintro e w7 ⟨rfl, Sd7, hd7, hs7, ho7⟩
    have HD7 : Hid (DiskAt w7 Sd7 d (ckP D J l)) := by
      show DiskAt _ _ _ _
      unfold ckP
      rw [← HNL.out]
      exact hd7
    have HS7 := Lib.hid hs7
    have HO7 : Hid (Off Sd w6 w7) := ⟨ho7.os, ho7.tape, ho7.output, ho7.size, ho7.block⟩
    have HB7 : Hid (JBlk w7 jb d J sv (.slice Ar J.recs.length capr)) := HB6.out.off HO7.out HJS.out
    have HHN : Hid (¬ Sd hb) := fun h => by have h1 := HLT.out _ h; have h2 := HHB.out; omega
    have HH7 : Hid (w7.heap[hb]? = _) := (HO7.out.block hb HS6.out HHN.out).trans HH6.out
    have HJ7 : Hid (¬ Sd7 jb) := fun h => by
      rcases (HS7.out _ h).1 with h1 | h1
      · exact HJS.out h1
      · have h2 := HB6.out.lt
        have h3 : w6.heap.size ≤ jb := h1
        omega
    have HH7N : Hid (¬ Sd7 hb) := fun h => by
      rcases (HS7.out _ h).1 with h1 | h1
      · exact HHN.out h1
      · have h2 := HS6.out
        have h3 : w6.heap.size ≤ hb := h1
        omega
    have HAS7 : Hid (∀ g off, A = some ⟨g, off, none⟩ → ¬ Sd7 g) := fun g off e h => by
      rcases (HS7.out _ h).1 with h1 | h1
      · exact HAS.out g off e h1
      · have h2 := HG6.out.size
        have h3 : w6.heap.size ≤ g := h1
        have h4 := ck_lt HA.out e
        omega
    clear hd7 hs7 ho7
    go_wp2_with fail
    refine hK.out _ _ ?kpx79 (fun hNew => ?_)
    case kpx79 => (try dsimp only); exact ⟨HB7.out.cell 1, cell_blk HH7.out 0⟩
    clear hK K hHeld
    have hHeld := hNew
    clear hNew
    try simp only [Act.put, List.setIfInBounds_toArray, List.set_cons_zero, List.set_cons_succ]
    refine wpAnyH_done (by kernel_rfl) ?_ _
    refine NoPanic.normal ?_
    clear hHeld
    go_upto_region 8 with fail
    refine wp_region_noPanic ?_
    refine wp_region_held_drew (S := fun w' => w'.cell? ⟨jb, 1, none⟩ = some (Value.int .i64 (J.area : Int)) ∧ w'.cell? ⟨hb, 0, none⟩ = some (Value.int .i64 ((J.gen : Int) + 1)) ∧ w'.cell? ⟨hb, 1, none⟩ = some (Value.int .i64 (J.op : Int)) ∧ w'.cell? ⟨hb, 2, none⟩ = some (Value.int .i64 ((J.first : Int) + (J.recs.length : Int))) ∧ w'.cell? ⟨hb, 3, none⟩ = some (Value.int .i64 (n : Int))) (by kernel_rfl) ?hSpx8 (fun hHeld => ?_)
    case hSpx8 => exact ⟨HB7.out.cell 1, cell_blk HH7.out 0, cell_blk HH7.out 1, cell_blk HH7.out 2, cell_blk HH7.out 3⟩
    refine wpAnyH_take (i := 0) (oi := ⟨_, _, _, _, _, _⟩) (v := ?vpx80) rfl (by kernel_rfl) (by kernel_rfl) (by kernel_rfl) (fun _ _ _ h => h) (Or.inl ⟨by rfl, ?hypx80⟩) hHeld ?_
    case hypx80 => (intro wS hSw; (try dsimp only at hSw); go_simp; (first | done | with_reducible rfl))
    try simp only [Act.put, List.setIfInBounds_toArray, List.set_cons_zero, List.set_cons_succ]
    refine wpAnyH_take (i := 1) (oi := ⟨_, _, _, _, _, _⟩) (v := ?vpx81) rfl (by kernel_rfl) (by kernel_rfl) (by kernel_rfl) (fun _ _ _ h => h) (Or.inl ⟨by rfl, ?hypx81⟩) hHeld ?_
    case hypx81 => (intro wS hSw; (try dsimp only at hSw); go_simp; (first | done | with_reducible rfl))
    try simp only [Act.put, List.setIfInBounds_toArray, List.set_cons_zero, List.set_cons_succ]
    refine wpAnyH_take (i := 2) (oi := ⟨_, _, _, _, _, _⟩) (v := ?vpx82) rfl (by kernel_rfl) (by kernel_rfl) (by kernel_rfl) (fun _ _ _ h => h) (Or.inl ⟨by rfl, ?hypx82⟩) hHeld ?_
    case hypx82 => (intro wS hSw; (try dsimp only at hSw); go_simp; (first | done | with_reducible rfl))
    try simp only [Act.put, List.setIfInBounds_toArray, List.set_cons_zero, List.set_cons_succ]
    refine wpAnyH_take (i := 3) (oi := ⟨_, _, _, _, _, _⟩) (v := ?vpx83) rfl (by kernel_rfl) (by kernel_rfl) (by kernel_rfl) (fun _ _ _ h => h) (Or.inl ⟨by rfl, ?hypx83⟩) hHeld ?_
    case hypx83 => (intro wS hSw; (try dsimp only at hSw); go_simp; (first | done | with_reducible rfl))
    try simp only [Act.put, List.setIfInBounds_toArray, List.set_cons_zero, List.set_cons_succ]
    refine wpAnyH_take (i := 4) (oi := ⟨_, _, _, _, _, _⟩) (v := ?vpx84) rfl (by kernel_rfl) (by kernel_rfl) (by kernel_rfl) (fun _ _ _ h => h) (Or.inl ⟨by rfl, ?hypx84⟩) hHeld ?_
    case hypx84 => (intro wS hSw; (try dsimp only at hSw); go_simp; (first | done | with_reducible rfl))
    try simp only [Act.put, List.setIfInBounds_toArray, List.set_cons_zero, List.set_cons_succ]
    refine wpAnyH_take (i := 5) (oi := ⟨_, _, _, _, _, _⟩) (v := Value.int .i64 (1 - (J.area : Int))) rfl (by kernel_rfl) (by kernel_rfl) (by kernel_rfl) (fun _ _ _ h => h) (Or.inl ⟨by rfl, ?hypx85⟩) hHeld ?_
    case hypx85 => (intro wS hSw; (try dsimp only at hSw); go_simp; rw [HW2.out])
    try simp only [Act.put, List.setIfInBounds_toArray, List.set_cons_zero, List.set_cons_succ]
    refine wpAnyH_take (i := 6) (oi := ⟨_, _, _, _, _, _⟩) (v := ?vpx86) rfl (by kernel_rfl) (by kernel_rfl) (by kernel_rfl) (fun _ _ _ h => h) (Or.inl ⟨by rfl, ?hypx86⟩) hHeld ?_
    case hypx86 => (intro wS hSw; (try dsimp only at hSw); go_simp; (first | done | with_reducible rfl))
    try simp only [Act.put, List.setIfInBounds_toArray, List.set_cons_zero, List.set_cons_succ]
    refine wpAnyH_ready (rs := [7]) (by kernel_rfl) (by simp) ?_
    refine AllReadyH.cons (o := ⟨_, _, _, _, _, _⟩) rfl (fun K hK => ?_) AllReadyH.nil
    go_simp
    rw [show (1 : Int) - (J.area : Int) = ((1 - J.area : Nat) : Int) by have := HAR.out; omega, show (J.gen : Int) + 1 = ((J.gen + 1 : Nat) : Int) by omega, show (J.first : Int) + (J.recs.length : Int) = ((J.first + J.recs.length : Nat) : Int) by omega, HNL.out]
    refine (seal_at Sd7 d (ckP D J l) jb J sv _ (1 - J.area) (J.gen + 1) J.op (J.first + J.recs.length) l.length (by have := HOP.out; omega) (by have := HOP.out; omega) (by have := HOP.out; omega) (by have := HLM.out; omega) w7.drew (HD7.out.grown ⟨rfl, rfl, rfl, Nat.le_refl _, fun _ _ _ => rfl⟩) (fun b hb => (HS7.out b hb).2) HB7.out HJ7.out (by rw [(ckP_n D J l).1]; exact Nat.lt_of_lt_of_le (by have := parts_one l.length; omega) (ck_room HAR.out HN.out HOK.out)) (by rw [(ckP_n D J l).2.1]; exact HO.out) (by rw [(ckP_n D J l).2.2.1]; exact HARM.out) (by rw [(ckP_n D J l).2.2.2]; have := HWR.out; have := HOK.out; have := HDN.out; omega)).mono ?_
    rw [← HNL.out]
    rintro e w8 ⟨rfl, Sd8, hd8, hs8, ho8⟩
    have HD8 : Hid (DiskAt w8 Sd8 d (ckD D J l)) := by
      show DiskAt _ _ _ _
      unfold ckD
      rw [(ckP_n D J l).1] at hd8
      rw [← HNL.out]
      exact hd8
    have HS8 := Lib.hid hs8
    have HO8 : Hid (Off Sd7 w7 w8) := ⟨ho8.os, ho8.tape, ho8.output, ho8.size, ho8.block⟩
    have HB8 : Hid (JBlk w8 jb d J sv (.slice Ar J.recs.length capr)) := HB7.out.off HO8.out HJ7.out
    have HH8 : Hid (w8.heap[hb]? = _) := (HO8.out.block hb (Nat.lt_of_lt_of_le HS6.out HO7.out.size) HH7N.out).trans HH7.out
    have HA8 := Lib.hid (ck_arg2 HA6.out HO7.out HAS.out HO8.out HAS7.out)
    clear hd8 hs8 ho8
    go_wp2_with fail
    refine hK.out _ _ ?kpx87 (fun hNew => ?_)
    case kpx87 => (try dsimp only); exact ⟨HB8.out.cell 1, cell_blk HH8.out 0, cell_blk HH8.out 1, cell_blk HH8.out 2, cell_blk HH8.out 3⟩
    clear hK K hHeld
    have hHeld := hNew
    clear hNew
    try simp only [Act.put, List.setIfInBounds_toArray, List.set_cons_zero, List.set_cons_succ]
    refine wpAnyH_done (by kernel_rfl) ?_ _
    refine NoPanic.normal ?_
    clear hHeld
    have c9 : w8.cell? ⟨jb, 9, none⟩ = some (.int .i64 0) := HB8.out.cell 9
    go_upto_region 10 with fail
    refine wp_region_noPanic ?_
    refine wp_region_held_drew (S := fun w' => w'.cell? ⟨hb, 0, none⟩ = some (Value.int .i64 ((J.gen : Int) + 1)) ∧ w'.cell? ⟨hb, 1, none⟩ = some (Value.int .i64 (J.op : Int)) ∧ w'.cell? ⟨hb, 2, none⟩ = some (Value.int .i64 ((J.first : Int) + (J.recs.length : Int))) ∧ w'.cell? ⟨hb, 3, none⟩ = some (Value.int .i64 (n : Int))) (by kernel_rfl) ?hSpx10 (fun hHeld => ?_)
    case hSpx10 => exact ⟨cell_blk HH8.out 0, cell_blk HH8.out 1, cell_blk HH8.out 2, cell_blk HH8.out 3⟩
    refine wpAnyH_take (i := 0) (oi := ⟨_, _, _, _, _, _⟩) (v := ?vpx100) rfl (by kernel_rfl) (by kernel_rfl) (by kernel_rfl) (fun _ _ _ h => h) (Or.inl ⟨by rfl, ?hypx100⟩) hHeld ?_
    case hypx100 => (intro wS hSw; (try dsimp only at hSw); go_simp; (first | done | with_reducible rfl))
    try simp only [Act.put, List.setIfInBounds_toArray, List.set_cons_zero, List.set_cons_succ]
    refine wpAnyH_take (i := 1) (oi := ⟨_, _, _, _, _, _⟩) (v := ?vpx101) rfl (by kernel_rfl) (by kernel_rfl) (by kernel_rfl) (fun _ _ _ h => h) (Or.inl ⟨by rfl, ?hypx101⟩) hHeld ?_
    case hypx101 => (intro wS hSw; (try dsimp only at hSw); go_simp; (first | done | with_reducible rfl))
    try simp only [Act.put, List.setIfInBounds_toArray, List.set_cons_zero, List.set_cons_succ]
    refine wpAnyH_take (i := 2) (oi := ⟨_, _, _, _, _, _⟩) (v := ?vpx102) rfl (by kernel_rfl) (by kernel_rfl) (by kernel_rfl) (fun _ _ _ h => h) (Or.inl ⟨by rfl, ?hypx102⟩) hHeld ?_
    case hypx102 => (intro wS hSw; (try dsimp only at hSw); go_simp; (first | done | with_reducible rfl))
    try simp only [Act.put, List.setIfInBounds_toArray, List.set_cons_zero, List.set_cons_succ]
    refine wpAnyH_take (i := 3) (oi := ⟨_, _, _, _, _, _⟩) (v := ?vpx103) rfl (by kernel_rfl) (by kernel_rfl) (by kernel_rfl) (fun _ _ _ h => h) (Or.inl ⟨by rfl, ?hypx103⟩) hHeld ?_
    case hypx103 => (intro wS hSw; (try dsimp only at hSw); go_simp; (first | done | with_reducible rfl))
    try simp only [Act.put, List.setIfInBounds_toArray, List.set_cons_zero, List.set_cons_succ]
    refine wpAnyH_take (i := 4) (oi := ⟨_, _, _, _, _, _⟩) (v := ?vpx104) rfl (by kernel_rfl) (by kernel_rfl) (by kernel_rfl) (fun _ _ _ h => h) (Or.inl ⟨by rfl, ?hypx104⟩) hHeld ?_
    case hypx104 => (intro wS hSw; (try dsimp only at hSw); go_simp; (first | done | with_reducible rfl))
    try simp only [Act.put, List.setIfInBounds_toArray, List.set_cons_zero, List.set_cons_succ]
    refine wpAnyH_take (i := 5) (oi := ⟨_, _, _, _, _, _⟩) (v := ?vpx105) rfl (by kernel_rfl) (by kernel_rfl) (by kernel_rfl) (fun _ _ _ h => h) (Or.inl ⟨by rfl, ?hypx105⟩) hHeld ?_
    case hypx105 => (intro wS hSw; (try dsimp only at hSw); go_simp; (first | done | with_reducible rfl))
    try simp only [Act.put, List.setIfInBounds_toArray, List.set_cons_zero, List.set_cons_succ]
    refine wpAnyH_take (i := 6) (oi := ⟨_, _, _, _, _, _⟩) (v := ?vpx106) rfl (by kernel_rfl) (by kernel_rfl) (by kernel_rfl) (fun _ _ _ h => h) (Or.inl ⟨by rfl, ?hypx106⟩) hHeld ?_
    case hypx106 => (intro wS hSw; (try dsimp only at hSw); go_simp; (first | done | with_reducible rfl))
    try simp only [Act.put, List.setIfInBounds_toArray, List.set_cons_zero, List.set_cons_succ]
    refine wpAnyH_take (i := 7) (oi := ⟨_, _, _, _, _, _⟩) (v := ?vpx107) rfl (by kernel_rfl) (by kernel_rfl) (by kernel_rfl) (fun _ _ _ h => h) (Or.inl ⟨by rfl, ?hypx107⟩) hHeld ?_
    case hypx107 => (intro wS hSw; (try dsimp only at hSw); go_simp; (first | done | with_reducible rfl))
    try simp only [Act.put, List.setIfInBounds_toArray, List.set_cons_zero, List.set_cons_succ]
    refine wpAnyH_take (i := 10) (oi := ⟨_, _, _, _, _, _⟩) (v := ?vpx1010) rfl (by kernel_rfl) (by kernel_rfl) (by kernel_rfl) (fun _ _ _ h => h) (Or.inl ⟨by rfl, ?hypx1010⟩) hHeld ?_
    case hypx1010 => (intro wS hSw; (try dsimp only at hSw); go_simp; (first | done | with_reducible rfl))
    try simp only [Act.put, List.setIfInBounds_toArray, List.set_cons_zero, List.set_cons_succ]
    refine wpAnyH_take (i := 11) (oi := ⟨_, _, _, _, _, _⟩) (v := ?vpx1011) rfl (by kernel_rfl) (by kernel_rfl) (by kernel_rfl) (fun _ _ _ h => h) (Or.inl ⟨by rfl, ?hypx1011⟩) hHeld ?_
    case hypx1011 => (intro wS hSw; (try dsimp only at hSw); go_simp; (first | done | with_reducible rfl))
    try simp only [Act.put, List.setIfInBounds_toArray, List.set_cons_zero, List.set_cons_succ]
    refine wpAnyH_take (i := 13) (oi := ⟨_, _, _, _, _, _⟩) (v := ?vpx1013) rfl (by kernel_rfl) (by kernel_rfl) (by kernel_rfl) (fun _ _ _ h => h) (Or.inl ⟨by rfl, ?hypx1013⟩) hHeld ?_
    case hypx1013 => (intro wS hSw; (try dsimp only at hSw); go_simp; (first | done | with_reducible rfl))
    try simp only [Act.put, List.setIfInBounds_toArray, List.set_cons_zero, List.set_cons_succ]
    refine wpAnyH_take (i := 14) (oi := ⟨_, _, _, _, _, _⟩) (v := ?vpx1014) rfl (by kernel_rfl) (by kernel_rfl) (by kernel_rfl) (fun _ _ _ h => h) (Or.inl ⟨by rfl, ?hypx1014⟩) hHeld ?_
    case hypx1014 => (intro wS hSw; (try dsimp only at hSw); go_simp; (first | done | with_reducible rfl))
    try simp only [Act.put, List.setIfInBounds_toArray, List.set_cons_zero, List.set_cons_succ]
    refine wpAnyH_ready (rs := [8, 12]) (by kernel_rfl) (by simp) ?_
    refine AllReadyH.cons (o := ⟨_, _, _, _, _, _⟩) rfl (fun K hK => ?_) (AllReadyH.cons (o := ⟨_, _, _, _, _, _⟩) rfl (fun K hK => ?_) AllReadyH.nil)
    · have c1 : w8.cell? ⟨jb, 1, none⟩ = some (.int .i64 (J.area : Int)) := HB8.out.cell 1
      go_simp
      clear c1
      refine hK.out _ _ ?kpx10a8 (fun hNew => ?_)
      case kpx10a8 => (try dsimp only); exact ⟨cell_blk HH8.out 0, cell_blk HH8.out 1, cell_blk HH8.out 2, cell_blk HH8.out 3⟩
      clear hK K hHeld
      have hHeld := hNew
      clear hNew
      try simp only [Act.put, List.setIfInBounds_toArray, List.set_cons_zero, List.set_cons_succ]
      refine wpAnyH_take (i := 9) (oi := ⟨_, _, _, _, _, _⟩) (v := Value.int .i64 (1 - (J.area : Int))) rfl (by kernel_rfl) (by kernel_rfl) (by kernel_rfl) (fun _ _ _ h => h) (Or.inl ⟨by rfl, ?hypx10a9⟩) hHeld ?_
      case hypx10a9 => (intro wS hSw; (try dsimp only at hSw); go_simp; rw [HW2.out])
      try simp only [Act.put, List.setIfInBounds_toArray, List.set_cons_zero, List.set_cons_succ]
      refine wpAnyH_ready (rs := [12]) (by kernel_rfl) (by simp) ?_
      refine AllReadyH.cons (o := ⟨_, _, _, _, _, _⟩) rfl (fun K hK => ?_) AllReadyH.nil
      go_simp
      refine (clone_row A l n cap _ HNL.out.symm (by exact HA8.out.imp (fun h => h.2) id) (by have := HLM.out; have := HNL.out; omega)).mono ?_
      rintro e w9 ⟨y, rfl, hr9, hb9⟩
      obtain ⟨Ay, capy, rfl, _, _⟩ := row_len hr9
      have HR9 := Lib.hid hr9
      have HB9 : Hid (Below w8.heap.size w8 w9) := ⟨hb9.os, hb9.tape, hb9.output, hb9.size, hb9.block⟩
      clear hr9 hb9
      have HJ9 : Hid (JBlk w9 jb d J sv (.slice Ar J.recs.length capr)) := (HB9.out.block jb HB8.out.lt).trans HB8.out
      have HH9 : Hid (w9.heap[hb]? = _) := (HB9.out.block hb (Array.getElem?_eq_some_iff.1 HH8.out).1).trans HH8.out
      go_wp2_with fail
      refine hK.out _ _ ?kpx10a12 (fun hNew => ?_)
      case kpx10a12 => (try dsimp only); exact ⟨cell_blk HH9.out 0, cell_blk HH9.out 1, cell_blk HH9.out 2, cell_blk HH9.out 3⟩
      clear hK K hHeld
      have hHeld := hNew
      clear hNew
      try simp only [Act.put, List.setIfInBounds_toArray, List.set_cons_zero, List.set_cons_succ]
      refine wpAnyH_ready (rs := [15]) (by kernel_rfl) (by simp) ?_
      refine AllReadyH.cons (o := ⟨_, _, _, _, _, _⟩) rfl (fun K hK => ?_) AllReadyH.nil
      go_simp
      refine (count_at n (by have h1 := HLM.out; have h2 := HNL.out; omega) _).mono ?_
      rintro e wq ⟨rfl, hwq⟩
      have hwq := hwq.symm
      subst hwq
      go_wp2_with fail
      refine hK.out _ _ ?kpx10a15 (fun hNew => ?_)
      case kpx10a15 => (try dsimp only); exact ⟨cell_blk HH9.out 0, cell_blk HH9.out 1, cell_blk HH9.out 2, cell_blk HH9.out 3⟩
      clear hK K hHeld
      have hHeld := hNew
      clear hNew
      try simp only [Act.put, List.setIfInBounds_toArray, List.set_cons_zero, List.set_cons_succ]
      have k1 : w9.cell? ⟨jb, 1, none⟩ = some (.int .i64 (J.area : Int)) := HJ9.out.cell 1
      have k2 : w9.cell? ⟨jb, 2, none⟩ = some (.int .i64 (J.gen : Int)) := HJ9.out.cell 2
      have k3 : w9.cell? ⟨jb, 3, none⟩ = some (.int .i64 (J.op : Int)) := HJ9.out.cell 3
      have k4 : w9.cell? ⟨jb, 4, none⟩ = some (.int .i64 (J.first : Int)) := HJ9.out.cell 4
      have k5 : w9.cell? ⟨jb, 5, none⟩ = some (.int .i64 (J.size : Int)) := HJ9.out.cell 5
      have k6 : w9.cell? ⟨jb, 6, none⟩ = some (sv) := HJ9.out.cell 6
      have k7 : w9.cell? ⟨jb, 7, none⟩ = some (.slice Ar J.recs.length capr) := HJ9.out.cell 7
      have k8 : w9.cell? ⟨jb, 8, none⟩ = some (.int .i64 (J.used : Int)) := HJ9.out.cell 8
      have k9 : w9.cell? ⟨jb, 9, none⟩ = some (.int .i64 0) := HJ9.out.cell 9
      have kf : ∀ j, w9.frozen? ⟨jb, j, none⟩ = false := HJ9.out.free
      refine wpAnyH_take (i := 16) (oi := ⟨_, _, _, _, _, _⟩) (v := ?vpx10a16) rfl (by kernel_rfl) (by kernel_rfl) (by kernel_rfl) (fun _ _ _ h => h) (Or.inl ⟨by rfl, ?hypx10a16⟩) hHeld ?_
      case hypx10a16 => (intro wS hSw; (try dsimp only at hSw); go_simp; (first | done | with_reducible rfl))
      try simp only [Act.put, List.setIfInBounds_toArray, List.set_cons_zero, List.set_cons_succ]
      refine wpAnyH_take (i := 17) (oi := ⟨_, _, _, _, _, _⟩) (v := ?vpx10a17) rfl (by kernel_rfl) (by kernel_rfl) (by kernel_rfl) (fun _ _ _ h => h) (Or.inl ⟨by rfl, ?hypx10a17⟩) hHeld ?_
      case hypx10a17 => (intro wS hSw; (try dsimp only at hSw); go_simp; (first | done | with_reducible rfl))
      try simp only [Act.put, List.setIfInBounds_toArray, List.set_cons_zero, List.set_cons_succ]
      refine wpAnyH_ready (rs := [18]) (by kernel_rfl) (by simp) ?_
      refine AllReadyH.cons (o := ⟨_, _, _, _, _, _⟩) rfl (fun K hK => ?_) AllReadyH.nil
      go_simp
      refine hK.out _ _ ?kpx10a18 (fun hNew => ?_)
      case kpx10a18 => (try dsimp only); exact ⟨cell_blk (C := HC4 ((J.gen : Int) + 1) (J.op : Int) ((J.first : Int) + (J.recs.length : Int)) (n : Int)) (t := 54) (keepH (HH9.out) HHB2.out) 0, cell_blk (C := HC4 ((J.gen : Int) + 1) (J.op : Int) ((J.first : Int) + (J.recs.length : Int)) (n : Int)) (t := 54) (keepH (HH9.out) HHB2.out) 1, cell_blk (C := HC4 ((J.gen : Int) + 1) (J.op : Int) ((J.first : Int) + (J.recs.length : Int)) (n : Int)) (t := 54) (keepH (HH9.out) HHB2.out) 2, cell_blk (C := HC4 ((J.gen : Int) + 1) (J.op : Int) ((J.first : Int) + (J.recs.length : Int)) (n : Int)) (t := 54) (keepH (HH9.out) HHB2.out) 3⟩
      clear hK K hHeld
      have hHeld := hNew
      clear hNew
      try simp only [Act.put, List.setIfInBounds_toArray, List.set_cons_zero, List.set_cons_succ]
      refine wpAnyH_take (i := 19) (oi := ⟨_, _, _, _, _, _⟩) (v := ?vpx10a19) rfl (by kernel_rfl) (by kernel_rfl) (by kernel_rfl) (fun _ _ _ h => h) (Or.inl ⟨by rfl, ?hypx10a19⟩) hHeld ?_
      case hypx10a19 => (intro wS hSw; (try dsimp only at hSw); go_simp; (first | done | with_reducible rfl))
      try simp only [Act.put, List.setIfInBounds_toArray, List.set_cons_zero, List.set_cons_succ]
      refine wpAnyH_take (i := 20) (oi := ⟨_, _, _, _, _, _⟩) (v := ?vpx10a20) rfl (by kernel_rfl) (by kernel_rfl) (by kernel_rfl) (fun _ _ _ h => h) (Or.inl ⟨by rfl, ?hypx10a20⟩) hHeld ?_
      case hypx10a20 => (intro wS hSw; (try dsimp only at hSw); go_simp; (first | done | with_reducible rfl))
      try simp only [Act.put, List.setIfInBounds_toArray, List.set_cons_zero, List.set_cons_succ]
      refine wpAnyH_ready (rs := [21]) (by kernel_rfl) (by simp) ?_
      refine AllReadyH.cons (o := ⟨_, _, _, _, _, _⟩) rfl (fun K hK => ?_) AllReadyH.nil
      go_simp
      refine hK.out _ _ ?kpx10a21 (fun hNew => ?_)
      case kpx10a21 => (try dsimp only); exact ⟨cell_blk (C := HC4 ((J.gen : Int) + 1) (J.op : Int) ((J.first : Int) + (J.recs.length : Int)) (n : Int)) (t := 54) (keepH (keepH (keepH (keepH (keepH (HH9.out) HHB2.out) HHB2.out) HHB2.out) HHB2.out) HHB2.out) 0, cell_blk (C := HC4 ((J.gen : Int) + 1) (J.op : Int) ((J.first : Int) + (J.recs.length : Int)) (n : Int)) (t := 54) (keepH (keepH (keepH (keepH (keepH (HH9.out) HHB2.out) HHB2.out) HHB2.out) HHB2.out) HHB2.out) 1, cell_blk (C := HC4 ((J.gen : Int) + 1) (J.op : Int) ((J.first : Int) + (J.recs.length : Int)) (n : Int)) (t := 54) (keepH (keepH (keepH (keepH (keepH (HH9.out) HHB2.out) HHB2.out) HHB2.out) HHB2.out) HHB2.out) 2, cell_blk (C := HC4 ((J.gen : Int) + 1) (J.op : Int) ((J.first : Int) + (J.recs.length : Int)) (n : Int)) (t := 54) (keepH (keepH (keepH (keepH (keepH (HH9.out) HHB2.out) HHB2.out) HHB2.out) HHB2.out) HHB2.out) 3⟩
      clear hK K hHeld
      have hHeld := hNew
      clear hNew
      try simp only [Act.put, List.setIfInBounds_toArray, List.set_cons_zero, List.set_cons_succ]
      refine wpAnyH_take (i := 22) (oi := ⟨_, _, _, _, _, _⟩) (v := ?vpx10a22) rfl (by kernel_rfl) (by kernel_rfl) (by kernel_rfl) (fun _ _ _ h => h) (Or.inl ⟨by rfl, ?hypx10a22⟩) hHeld ?_
      case hypx10a22 => (intro wS hSw; (try dsimp only at hSw); go_simp; (first | done | with_reducible rfl))
      try simp only [Act.put, List.setIfInBounds_toArray, List.set_cons_zero, List.set_cons_succ]
      refine wpAnyH_take (i := 23) (oi := ⟨_, _, _, _, _, _⟩) (v := ?vpx10a23) rfl (by kernel_rfl) (by kernel_rfl) (by kernel_rfl) (fun _ _ _ h => h) (Or.inl ⟨by rfl, ?hypx10a23⟩) hHeld ?_
      case hypx10a23 => (intro wS hSw; (try dsimp only at hSw); go_simp; (first | done | with_reducible rfl))
      try simp only [Act.put, List.setIfInBounds_toArray, List.set_cons_zero, List.set_cons_succ]
      refine wpAnyH_ready (rs := [24]) (by kernel_rfl) (by simp) ?_
      refine AllReadyH.cons (o := ⟨_, _, _, _, _, _⟩) rfl (fun K hK => ?_) AllReadyH.nil
      go_simp
      refine hK.out _ _ ?kpx10a24 (fun hNew => ?_)
      case kpx10a24 => (try dsimp only); exact ⟨cell_blk (C := HC4 ((J.gen : Int) + 1) (J.op : Int) ((J.first : Int) + (J.recs.length : Int)) (n : Int)) (t := 54) (keepH (keepH (keepH (keepH (keepH (keepH (HH9.out) HHB2.out) HHB2.out) HHB2.out) HHB2.out) HHB2.out) HHB2.out) 0, cell_blk (C := HC4 ((J.gen : Int) + 1) (J.op : Int) ((J.first : Int) + (J.recs.length : Int)) (n : Int)) (t := 54) (keepH (keepH (keepH (keepH (keepH (keepH (HH9.out) HHB2.out) HHB2.out) HHB2.out) HHB2.out) HHB2.out) HHB2.out) 1, cell_blk (C := HC4 ((J.gen : Int) + 1) (J.op : Int) ((J.first : Int) + (J.recs.length : Int)) (n : Int)) (t := 54) (keepH (keepH (keepH (keepH (keepH (keepH (HH9.out) HHB2.out) HHB2.out) HHB2.out) HHB2.out) HHB2.out) HHB2.out) 2, cell_blk (C := HC4 ((J.gen : Int) + 1) (J.op : Int) ((J.first : Int) + (J.recs.length : Int)) (n : Int)) (t := 54) (keepH (keepH (keepH (keepH (keepH (keepH (HH9.out) HHB2.out) HHB2.out) HHB2.out) HHB2.out) HHB2.out) HHB2.out) 3⟩
      clear hK K hHeld
      have hHeld := hNew
      clear hNew
      try simp only [Act.put, List.setIfInBounds_toArray, List.set_cons_zero, List.set_cons_succ]
      refine wpAnyH_take (i := 25) (oi := ⟨_, _, _, _, _, _⟩) (v := ?vpx10a25) rfl (by kernel_rfl) (by kernel_rfl) (by kernel_rfl) (fun _ _ _ h => h) (Or.inl ⟨by rfl, ?hypx10a25⟩) hHeld ?_
      case hypx10a25 => (intro wS hSw; (try dsimp only at hSw); go_simp; (first | done | with_reducible rfl))
      try simp only [Act.put, List.setIfInBounds_toArray, List.set_cons_zero, List.set_cons_succ]
      refine wpAnyH_take (i := 26) (oi := ⟨_, _, _, _, _, _⟩) (v := ?vpx10a26) rfl (by kernel_rfl) (by kernel_rfl) (by kernel_rfl) (fun _ _ _ h => h) (Or.inl ⟨by rfl, ?hypx10a26⟩) hHeld ?_
      case hypx10a26 => (intro wS hSw; (try dsimp only at hSw); go_simp; (first | done | with_reducible rfl))
      try simp only [Act.put, List.setIfInBounds_toArray, List.set_cons_zero, List.set_cons_succ]
      refine wpAnyH_ready (rs := [27]) (by kernel_rfl) (by simp) ?_
      refine AllReadyH.cons (o := ⟨_, _, _, _, _, _⟩) rfl (fun K hK => ?_) AllReadyH.nil
      go_simp
      refine hK.out _ _ ?kpx10a27 (fun hNew => ?_)
      case kpx10a27 => (try dsimp only); exact ⟨cell_blk (C := HC4 ((J.gen : Int) + 1) (J.op : Int) ((J.first : Int) + (J.recs.length : Int)) (n : Int)) (t := 54) (keepH (keepH (keepH (keepH (keepH (keepH (keepH (HH9.out) HHB2.out) HHB2.out) HHB2.out) HHB2.out) HHB2.out) HHB2.out) HHB2.out) 0, cell_blk (C := HC4 ((J.gen : Int) + 1) (J.op : Int) ((J.first : Int) + (J.recs.length : Int)) (n : Int)) (t := 54) (keepH (keepH (keepH (keepH (keepH (keepH (keepH (HH9.out) HHB2.out) HHB2.out) HHB2.out) HHB2.out) HHB2.out) HHB2.out) HHB2.out) 1, cell_blk (C := HC4 ((J.gen : Int) + 1) (J.op : Int) ((J.first : Int) + (J.recs.length : Int)) (n : Int)) (t := 54) (keepH (keepH (keepH (keepH (keepH (keepH (keepH (HH9.out) HHB2.out) HHB2.out) HHB2.out) HHB2.out) HHB2.out) HHB2.out) HHB2.out) 2, cell_blk (C := HC4 ((J.gen : Int) + 1) (J.op : Int) ((J.first : Int) + (J.recs.length : Int)) (n : Int)) (t := 54) (keepH (keepH (keepH (keepH (keepH (keepH (keepH (HH9.out) HHB2.out) HHB2.out) HHB2.out) HHB2.out) HHB2.out) HHB2.out) HHB2.out) 3⟩
      clear hK K hHeld
      have hHeld := hNew
      clear hNew
      try simp only [Act.put, List.setIfInBounds_toArray, List.set_cons_zero, List.set_cons_succ]
      refine wpAnyH_take (i := 28) (oi := ⟨_, _, _, _, _, _⟩) (v := ?vpx10a28) rfl (by kernel_rfl) (by kernel_rfl) (by kernel_rfl) (fun _ _ _ h => h) (Or.inl ⟨by rfl, ?hypx10a28⟩) hHeld ?_
      case hypx10a28 => (intro wS hSw; (try dsimp only at hSw); go_simp; (first | done | with_reducible rfl))
      try simp only [Act.put, List.setIfInBounds_toArray, List.set_cons_zero, List.set_cons_succ]
      refine wpAnyH_take (i := 29) (oi := ⟨_, _, _, _, _, _⟩) (v := ?vpx10a29) rfl (by kernel_rfl) (by kernel_rfl) (by kernel_rfl) (fun _ _ _ h => h) (Or.inl ⟨by rfl, ?hypx10a29⟩) hHeld ?_
      case hypx10a29 => (intro wS hSw; (try dsimp only at hSw); go_simp; (first | done | with_reducible rfl))
      try simp only [Act.put, List.setIfInBounds_toArray, List.set_cons_zero, List.set_cons_succ]
      refine wpAnyH_ready (rs := [30]) (by kernel_rfl) (by simp) ?_
      refine AllReadyH.cons (o := ⟨_, _, _, _, _, _⟩) rfl (fun K hK => ?_) AllReadyH.nil
      go_simp
      refine hK.out _ _ ?kpx10a30 (fun hNew => ?_)
      case kpx10a30 => (try dsimp only); exact ⟨cell_blk (C := HC4 ((J.gen : Int) + 1) (J.op : Int) ((J.first : Int) + (J.recs.length : Int)) (n : Int)) (t := 54) (keepH (keepH (keepH (keepH (keepH (keepH (keepH (keepH (HH9.out) HHB2.out) HHB2.out) HHB2.out) HHB2.out) HHB2.out) HHB2.out) HHB2.out) HHB2.out) 0, cell_blk (C := HC4 ((J.gen : Int) + 1) (J.op : Int) ((J.first : Int) + (J.recs.length : Int)) (n : Int)) (t := 54) (keepH (keepH (keepH (keepH (keepH (keepH (keepH (keepH (HH9.out) HHB2.out) HHB2.out) HHB2.out) HHB2.out) HHB2.out) HHB2.out) HHB2.out) HHB2.out) 1, cell_blk (C := HC4 ((J.gen : Int) + 1) (J.op : Int) ((J.first : Int) + (J.recs.length : Int)) (n : Int)) (t := 54) (keepH (keepH (keepH (keepH (keepH (keepH (keepH (keepH (HH9.out) HHB2.out) HHB2.out) HHB2.out) HHB2.out) HHB2.out) HHB2.out) HHB2.out) HHB2.out) 2, cell_blk (C := HC4 ((J.gen : Int) + 1) (J.op : Int) ((J.first : Int) + (J.recs.length : Int)) (n : Int)) (t := 54) (keepH (keepH (keepH (keepH (keepH (keepH (keepH (keepH (HH9.out) HHB2.out) HHB2.out) HHB2.out) HHB2.out) HHB2.out) HHB2.out) HHB2.out) HHB2.out) 3⟩
      clear hK K hHeld
      have hHeld := hNew
      clear hNew
      try simp only [Act.put, List.setIfInBounds_toArray, List.set_cons_zero, List.set_cons_succ]
      refine wpAnyH_done (by kernel_rfl) ?_ _
      refine NoPanic.normal ?_
      clear hHeld
      go_wp2_with fail
      go_ret
      refine ⟨rfl, ?_⟩
      have hx : putC w9 jb ((1 - J.area : Nat) : Int) ((J.gen + 1 : Nat) : Int) (J.op : Int) ((J.first + J.recs.length : Nat) : Int) (l.length : Int) (.slice Ay l.length capy) (parts l.length : Int) = putC w9 jb (1 - (J.area : Int)) ((J.gen : Int) + 1) (J.op : Int) ((J.first : Int) + (J.recs.length : Int)) (n : Int) (.slice Ay l.length capy) (parts n : Int) := by
        rw [← HNL.out, show ((1 - J.area : Nat) : Int) = 1 - (J.area : Int) by have := HAR.out; omega, Int.natCast_add, Int.natCast_add]
        rfl
      clear k1 k2 k3 k4 k5 k6 k7 k8 k9 kf
      exact ck_end HI.out HG6.out HO7.out HO8.out HB9.out (by exact HR9.out) HSS.out HS7.out HS8.out HD8.out (by rw [hx]; exact ⟨rfl, rfl, rfl, Nat.le_refl _, fun _ _ _ => rfl⟩)
    · go_simp
      refine (clone_row A l n cap _ HNL.out.symm (by exact HA8.out.imp (fun h => h.2) id) (by have := HLM.out; have := HNL.out; omega)).mono ?_
      rintro e w9 ⟨y, rfl, hr9, hb9⟩
      obtain ⟨Ay, capy, rfl, _, _⟩ := row_len hr9
      have HR9 := Lib.hid hr9
      have HB9 : Hid (Below w8.heap.size w8 w9) := ⟨hb9.os, hb9.tape, hb9.output, hb9.size, hb9.block⟩
      clear hr9 hb9
      have HJ9 : Hid (JBlk w9 jb d J sv (.slice Ar J.recs.length capr)) := (HB9.out.block jb HB8.out.lt).trans HB8.out
      have HH9 : Hid (w9.heap[hb]? = _) := (HB9.out.block hb (Array.getElem?_eq_some_iff.1 HH8.out).1).trans HH8.out
      go_wp2_with fail
      refine hK.out _ _ ?kpx10b12 (fun hNew => ?_)
      case kpx10b12 => (try dsimp only); exact ⟨cell_blk HH9.out 0, cell_blk HH9.out 1, cell_blk HH9.out 2, cell_blk HH9.out 3⟩
      clear hK K hHeld
      have hHeld := hNew
      clear hNew
      try simp only [Act.put, List.setIfInBounds_toArray, List.set_cons_zero, List.set_cons_succ]
      refine wpAnyH_ready (rs := [8, 15]) (by kernel_rfl) (by simp) ?_
      refine AllReadyH.cons (o := ⟨_, _, _, _, _, _⟩) rfl (fun K hK => ?_) (AllReadyH.cons (o := ⟨_, _, _, _, _, _⟩) rfl (fun K hK => ?_) AllReadyH.nil)
      · have c1 : w9.cell? ⟨jb, 1, none⟩ = some (.int .i64 (J.area : Int)) := HJ9.out.cell 1
        go_simp
        clear c1
        refine hK.out _ _ ?kpx10c8 (fun hNew => ?_)
        case kpx10c8 => (try dsimp only); exact ⟨cell_blk HH9.out 0, cell_blk HH9.out 1, cell_blk HH9.out 2, cell_blk HH9.out 3⟩
        clear hK K hHeld
        have hHeld := hNew
        clear hNew
        try simp only [Act.put, List.setIfInBounds_toArray, List.set_cons_zero, List.set_cons_succ]
        refine wpAnyH_take (i := 9) (oi := ⟨_, _, _, _, _, _⟩) (v := Value.int .i64 (1 - (J.area : Int))) rfl (by kernel_rfl) (by kernel_rfl) (by kernel_rfl) (fun _ _ _ h => h) (Or.inl ⟨by rfl, ?hypx10c9⟩) hHeld ?_
        case hypx10c9 => (intro wS hSw; (try dsimp only at hSw); go_simp; rw [HW2.out])
        try simp only [Act.put, List.setIfInBounds_toArray, List.set_cons_zero, List.set_cons_succ]
        refine wpAnyH_ready (rs := [15]) (by kernel_rfl) (by simp) ?_
        refine AllReadyH.cons (o := ⟨_, _, _, _, _, _⟩) rfl (fun K hK => ?_) AllReadyH.nil
        go_simp
        refine (count_at n (by have h1 := HLM.out; have h2 := HNL.out; omega) _).mono ?_
        rintro e wq ⟨rfl, hwq⟩
        have hwq := hwq.symm
        subst hwq
        go_wp2_with fail
        refine hK.out _ _ ?kpx10c15 (fun hNew => ?_)
        case kpx10c15 => (try dsimp only); exact ⟨cell_blk HH9.out 0, cell_blk HH9.out 1, cell_blk HH9.out 2, cell_blk HH9.out 3⟩
        clear hK K hHeld
        have hHeld := hNew
        clear hNew
        try simp only [Act.put, List.setIfInBounds_toArray, List.set_cons_zero, List.set_cons_succ]
        have k1 : w9.cell? ⟨jb, 1, none⟩ = some (.int .i64 (J.area : Int)) := HJ9.out.cell 1
        have k2 : w9.cell? ⟨jb, 2, none⟩ = some (.int .i64 (J.gen : Int)) := HJ9.out.cell 2
        have k3 : w9.cell? ⟨jb, 3, none⟩ = some (.int .i64 (J.op : Int)) := HJ9.out.cell 3
        have k4 : w9.cell? ⟨jb, 4, none⟩ = some (.int .i64 (J.first : Int)) := HJ9.out.cell 4
        have k5 : w9.cell? ⟨jb, 5, none⟩ = some (.int .i64 (J.size : Int)) := HJ9.out.cell 5
        have k6 : w9.cell? ⟨jb, 6, none⟩ = some (sv) := HJ9.out.cell 6
        have k7 : w9.cell? ⟨jb, 7, none⟩ = some (.slice Ar J.recs.length capr) := HJ9.out.cell 7
        have k8 : w9.cell? ⟨jb, 8, none⟩ = some (.int .i64 (J.used : Int)) := HJ9.out.cell 8
        have k9 : w9.cell? ⟨jb, 9, none⟩ = some (.int .i64 0) := HJ9.out.cell 9
        have kf : ∀ j, w9.frozen? ⟨jb, j, none⟩ = false := HJ9.out.free
        refine wpAnyH_take (i := 16) (oi := ⟨_, _, _, _, _, _⟩) (v := ?vpx10c16) rfl (by kernel_rfl) (by kernel_rfl) (by kernel_rfl) (fun _ _ _ h => h) (Or.inl ⟨by rfl, ?hypx10c16⟩) hHeld ?_
        case hypx10c16 => (intro wS hSw; (try dsimp only at hSw); go_simp; (first | done | with_reducible rfl))
        try simp only [Act.put, List.setIfInBounds_toArray, List.set_cons_zero, List.set_cons_succ]
        refine wpAnyH_take (i := 17) (oi := ⟨_, _, _, _, _, _⟩) (v := ?vpx10c17) rfl (by kernel_rfl) (by kernel_rfl) (by kernel_rfl) (fun _ _ _ h => h) (Or.inl ⟨by rfl, ?hypx10c17⟩) hHeld ?_
        case hypx10c17 => (intro wS hSw; (try dsimp only at hSw); go_simp; (first | done | with_reducible rfl))
        try simp only [Act.put, List.setIfInBounds_toArray, List.set_cons_zero, List.set_cons_succ]
        refine wpAnyH_ready (rs := [18]) (by kernel_rfl) (by simp) ?_
        refine AllReadyH.cons (o := ⟨_, _, _, _, _, _⟩) rfl (fun K hK => ?_) AllReadyH.nil
        go_simp
        refine hK.out _ _ ?kpx10c18 (fun hNew => ?_)
        case kpx10c18 => (try dsimp only); exact ⟨cell_blk (C := HC4 ((J.gen : Int) + 1) (J.op : Int) ((J.first : Int) + (J.recs.length : Int)) (n : Int)) (t := 54) (keepH (HH9.out) HHB2.out) 0, cell_blk (C := HC4 ((J.gen : Int) + 1) (J.op : Int) ((J.first : Int) + (J.recs.length : Int)) (n : Int)) (t := 54) (keepH (HH9.out) HHB2.out) 1, cell_blk (C := HC4 ((J.gen : Int) + 1) (J.op : Int) ((J.first : Int) + (J.recs.length : Int)) (n : Int)) (t := 54) (keepH (HH9.out) HHB2.out) 2, cell_blk (C := HC4 ((J.gen : Int) + 1) (J.op : Int) ((J.first : Int) + (J.recs.length : Int)) (n : Int)) (t := 54) (keepH (HH9.out) HHB2.out) 3⟩
        clear hK K hHeld
        have hHeld := hNew
        clear hNew
        try simp only [Act.put, List.setIfInBounds_toArray, List.set_cons_zero, List.set_cons_succ]
        refine wpAnyH_take (i := 19) (oi := ⟨_, _, _, _, _, _⟩) (v := ?vpx10c19) rfl (by kernel_rfl) (by kernel_rfl) (by kernel_rfl) (fun _ _ _ h => h) (Or.inl ⟨by rfl, ?hypx10c19⟩) hHeld ?_
        case hypx10c19 => (intro wS hSw; (try dsimp only at hSw); go_simp; (first | done | with_reducible rfl))
        try simp only [Act.put, List.setIfInBounds_toArray, List.set_cons_zero, List.set_cons_succ]
        refine wpAnyH_take (i := 20) (oi := ⟨_, _, _, _, _, _⟩) (v := ?vpx10c20) rfl (by kernel_rfl) (by kernel_rfl) (by kernel_rfl) (fun _ _ _ h => h) (Or.inl ⟨by rfl, ?hypx10c20⟩) hHeld ?_
        case hypx10c20 => (intro wS hSw; (try dsimp only at hSw); go_simp; (first | done | with_reducible rfl))
        try simp only [Act.put, List.setIfInBounds_toArray, List.set_cons_zero, List.set_cons_succ]
        refine wpAnyH_ready (rs := [21]) (by kernel_rfl) (by simp) ?_
        refine AllReadyH.cons (o := ⟨_, _, _, _, _, _⟩) rfl (fun K hK => ?_) AllReadyH.nil
        go_simp
        refine hK.out _ _ ?kpx10c21 (fun hNew => ?_)
        case kpx10c21 => (try dsimp only); exact ⟨cell_blk (C := HC4 ((J.gen : Int) + 1) (J.op : Int) ((J.first : Int) + (J.recs.length : Int)) (n : Int)) (t := 54) (keepH (keepH (keepH (keepH (keepH (HH9.out) HHB2.out) HHB2.out) HHB2.out) HHB2.out) HHB2.out) 0, cell_blk (C := HC4 ((J.gen : Int) + 1) (J.op : Int) ((J.first : Int) + (J.recs.length : Int)) (n : Int)) (t := 54) (keepH (keepH (keepH (keepH (keepH (HH9.out) HHB2.out) HHB2.out) HHB2.out) HHB2.out) HHB2.out) 1, cell_blk (C := HC4 ((J.gen : Int) + 1) (J.op : Int) ((J.first : Int) + (J.recs.length : Int)) (n : Int)) (t := 54) (keepH (keepH (keepH (keepH (keepH (HH9.out) HHB2.out) HHB2.out) HHB2.out) HHB2.out) HHB2.out) 2, cell_blk (C := HC4 ((J.gen : Int) + 1) (J.op : Int) ((J.first : Int) + (J.recs.length : Int)) (n : Int)) (t := 54) (keepH (keepH (keepH (keepH (keepH (HH9.out) HHB2.out) HHB2.out) HHB2.out) HHB2.out) HHB2.out) 3⟩
        clear hK K hHeld
        have hHeld := hNew
        clear hNew
        try simp only [Act.put, List.setIfInBounds_toArray, List.set_cons_zero, List.set_cons_succ]
        refine wpAnyH_take (i := 22) (oi := ⟨_, _, _, _, _, _⟩) (v := ?vpx10c22) rfl (by kernel_rfl) (by kernel_rfl) (by kernel_rfl) (fun _ _ _ h => h) (Or.inl ⟨by rfl, ?hypx10c22⟩) hHeld ?_
        case hypx10c22 => (intro wS hSw; (try dsimp only at hSw); go_simp; (first | done | with_reducible rfl))
        try simp only [Act.put, List.setIfInBounds_toArray, List.set_cons_zero, List.set_cons_succ]
        refine wpAnyH_take (i := 23) (oi := ⟨_, _, _, _, _, _⟩) (v := ?vpx10c23) rfl (by kernel_rfl) (by kernel_rfl) (by kernel_rfl) (fun _ _ _ h => h) (Or.inl ⟨by rfl, ?hypx10c23⟩) hHeld ?_
        case hypx10c23 => (intro wS hSw; (try dsimp only at hSw); go_simp; (first | done | with_reducible rfl))
        try simp only [Act.put, List.setIfInBounds_toArray, List.set_cons_zero, List.set_cons_succ]
        refine wpAnyH_ready (rs := [24]) (by kernel_rfl) (by simp) ?_
        refine AllReadyH.cons (o := ⟨_, _, _, _, _, _⟩) rfl (fun K hK => ?_) AllReadyH.nil
        go_simp
        refine hK.out _ _ ?kpx10c24 (fun hNew => ?_)
        case kpx10c24 => (try dsimp only); exact ⟨cell_blk (C := HC4 ((J.gen : Int) + 1) (J.op : Int) ((J.first : Int) + (J.recs.length : Int)) (n : Int)) (t := 54) (keepH (keepH (keepH (keepH (keepH (keepH (HH9.out) HHB2.out) HHB2.out) HHB2.out) HHB2.out) HHB2.out) HHB2.out) 0, cell_blk (C := HC4 ((J.gen : Int) + 1) (J.op : Int) ((J.first : Int) + (J.recs.length : Int)) (n : Int)) (t := 54) (keepH (keepH (keepH (keepH (keepH (keepH (HH9.out) HHB2.out) HHB2.out) HHB2.out) HHB2.out) HHB2.out) HHB2.out) 1, cell_blk (C := HC4 ((J.gen : Int) + 1) (J.op : Int) ((J.first : Int) + (J.recs.length : Int)) (n : Int)) (t := 54) (keepH (keepH (keepH (keepH (keepH (keepH (HH9.out) HHB2.out) HHB2.out) HHB2.out) HHB2.out) HHB2.out) HHB2.out) 2, cell_blk (C := HC4 ((J.gen : Int) + 1) (J.op : Int) ((J.first : Int) + (J.recs.length : Int)) (n : Int)) (t := 54) (keepH (keepH (keepH (keepH (keepH (keepH (HH9.out) HHB2.out) HHB2.out) HHB2.out) HHB2.out) HHB2.out) HHB2.out) 3⟩
        clear hK K hHeld
        have hHeld := hNew
        clear hNew
        try simp only [Act.put, List.setIfInBounds_toArray, List.set_cons_zero, List.set_cons_succ]
        refine wpAnyH_take (i := 25) (oi := ⟨_, _, _, _, _, _⟩) (v := ?vpx10c25) rfl (by kernel_rfl) (by kernel_rfl) (by kernel_rfl) (fun _ _ _ h => h) (Or.inl ⟨by rfl, ?hypx10c25⟩) hHeld ?_
        case hypx10c25 => (intro wS hSw; (try dsimp only at hSw); go_simp; (first | done | with_reducible rfl))
        try simp only [Act.put, List.setIfInBounds_toArray, List.set_cons_zero, List.set_cons_succ]
        refine wpAnyH_take (i := 26) (oi := ⟨_, _, _, _, _, _⟩) (v := ?vpx10c26) rfl (by kernel_rfl) (by kernel_rfl) (by kernel_rfl) (fun _ _ _ h => h) (Or.inl ⟨by rfl, ?hypx10c26⟩) hHeld ?_
        case hypx10c26 => (intro wS hSw; (try dsimp only at hSw); go_simp; (first | done | with_reducible rfl))
        try simp only [Act.put, List.setIfInBounds_toArray, List.set_cons_zero, List.set_cons_succ]
        refine wpAnyH_ready (rs := [27]) (by kernel_rfl) (by simp) ?_
        refine AllReadyH.cons (o := ⟨_, _, _, _, _, _⟩) rfl (fun K hK => ?_) AllReadyH.nil
        go_simp
        refine hK.out _ _ ?kpx10c27 (fun hNew => ?_)
        case kpx10c27 => (try dsimp only); exact ⟨cell_blk (C := HC4 ((J.gen : Int) + 1) (J.op : Int) ((J.first : Int) + (J.recs.length : Int)) (n : Int)) (t := 54) (keepH (keepH (keepH (keepH (keepH (keepH (keepH (HH9.out) HHB2.out) HHB2.out) HHB2.out) HHB2.out) HHB2.out) HHB2.out) HHB2.out) 0, cell_blk (C := HC4 ((J.gen : Int) + 1) (J.op : Int) ((J.first : Int) + (J.recs.length : Int)) (n : Int)) (t := 54) (keepH (keepH (keepH (keepH (keepH (keepH (keepH (HH9.out) HHB2.out) HHB2.out) HHB2.out) HHB2.out) HHB2.out) HHB2.out) HHB2.out) 1, cell_blk (C := HC4 ((J.gen : Int) + 1) (J.op : Int) ((J.first : Int) + (J.recs.length : Int)) (n : Int)) (t := 54) (keepH (keepH (keepH (keepH (keepH (keepH (keepH (HH9.out) HHB2.out) HHB2.out) HHB2.out) HHB2.out) HHB2.out) HHB2.out) HHB2.out) 2, cell_blk (C := HC4 ((J.gen : Int) + 1) (J.op : Int) ((J.first : Int) + (J.recs.length : Int)) (n : Int)) (t := 54) (keepH (keepH (keepH (keepH (keepH (keepH (keepH (HH9.out) HHB2.out) HHB2.out) HHB2.out) HHB2.out) HHB2.out) HHB2.out) HHB2.out) 3⟩
        clear hK K hHeld
        have hHeld := hNew
        clear hNew
        try simp only [Act.put, List.setIfInBounds_toArray, List.set_cons_zero, List.set_cons_succ]
        refine wpAnyH_take (i := 28) (oi := ⟨_, _, _, _, _, _⟩) (v := ?vpx10c28) rfl (by kernel_rfl) (by kernel_rfl) (by kernel_rfl) (fun _ _ _ h => h) (Or.inl ⟨by rfl, ?hypx10c28⟩) hHeld ?_
        case hypx10c28 => (intro wS hSw; (try dsimp only at hSw); go_simp; (first | done | with_reducible rfl))
        try simp only [Act.put, List.setIfInBounds_toArray, List.set_cons_zero, List.set_cons_succ]
        refine wpAnyH_take (i := 29) (oi := ⟨_, _, _, _, _, _⟩) (v := ?vpx10c29) rfl (by kernel_rfl) (by kernel_rfl) (by kernel_rfl) (fun _ _ _ h => h) (Or.inl ⟨by rfl, ?hypx10c29⟩) hHeld ?_
        case hypx10c29 => (intro wS hSw; (try dsimp only at hSw); go_simp; (first | done | with_reducible rfl))
        try simp only [Act.put, List.setIfInBounds_toArray, List.set_cons_zero, List.set_cons_succ]
        refine wpAnyH_ready (rs := [30]) (by kernel_rfl) (by simp) ?_
        refine AllReadyH.cons (o := ⟨_, _, _, _, _, _⟩) rfl (fun K hK => ?_) AllReadyH.nil
        go_simp
        refine hK.out _ _ ?kpx10c30 (fun hNew => ?_)
        case kpx10c30 => (try dsimp only); exact ⟨cell_blk (C := HC4 ((J.gen : Int) + 1) (J.op : Int) ((J.first : Int) + (J.recs.length : Int)) (n : Int)) (t := 54) (keepH (keepH (keepH (keepH (keepH (keepH (keepH (keepH (HH9.out) HHB2.out) HHB2.out) HHB2.out) HHB2.out) HHB2.out) HHB2.out) HHB2.out) HHB2.out) 0, cell_blk (C := HC4 ((J.gen : Int) + 1) (J.op : Int) ((J.first : Int) + (J.recs.length : Int)) (n : Int)) (t := 54) (keepH (keepH (keepH (keepH (keepH (keepH (keepH (keepH (HH9.out) HHB2.out) HHB2.out) HHB2.out) HHB2.out) HHB2.out) HHB2.out) HHB2.out) HHB2.out) 1, cell_blk (C := HC4 ((J.gen : Int) + 1) (J.op : Int) ((J.first : Int) + (J.recs.length : Int)) (n : Int)) (t := 54) (keepH (keepH (keepH (keepH (keepH (keepH (keepH (keepH (HH9.out) HHB2.out) HHB2.out) HHB2.out) HHB2.out) HHB2.out) HHB2.out) HHB2.out) HHB2.out) 2, cell_blk (C := HC4 ((J.gen : Int) + 1) (J.op : Int) ((J.first : Int) + (J.recs.length : Int)) (n : Int)) (t := 54) (keepH (keepH (keepH (keepH (keepH (keepH (keepH (keepH (HH9.out) HHB2.out) HHB2.out) HHB2.out) HHB2.out) HHB2.out) HHB2.out) HHB2.out) HHB2.out) 3⟩
        clear hK K hHeld
        have hHeld := hNew
        clear hNew
        try simp only [Act.put, List.setIfInBounds_toArray, List.set_cons_zero, List.set_cons_succ]
        refine wpAnyH_done (by kernel_rfl) ?_ _
        refine NoPanic.normal ?_
        clear hHeld
        go_wp2_with fail
        go_ret
        refine ⟨rfl, ?_⟩
        have hx : putC w9 jb ((1 - J.area : Nat) : Int) ((J.gen + 1 : Nat) : Int) (J.op : Int) ((J.first + J.recs.length : Nat) : Int) (l.length : Int) (.slice Ay l.length capy) (parts l.length : Int) = putC w9 jb (1 - (J.area : Int)) ((J.gen : Int) + 1) (J.op : Int) ((J.first : Int) + (J.recs.length : Int)) (n : Int) (.slice Ay l.length capy) (parts n : Int) := by
          rw [← HNL.out, show ((1 - J.area : Nat) : Int) = 1 - (J.area : Int) by have := HAR.out; omega, Int.natCast_add, Int.natCast_add]
          rfl
        clear k1 k2 k3 k4 k5 k6 k7 k8 k9 kf
        exact ck_end HI.out HG6.out HO7.out HO8.out HB9.out (by exact HR9.out) HSS.out HS7.out HS8.out HD8.out (by rw [hx]; exact ⟨rfl, rfl, rfl, Nat.le_refl _, fun _ _ _ => rfl⟩)
      · go_simp
        refine (count_at n (by have h1 := HLM.out; have h2 := HNL.out; omega) _).mono ?_
        rintro e wq ⟨rfl, hwq⟩
        have hwq := hwq.symm
        subst hwq
        go_wp2_with fail
        refine hK.out _ _ ?kpx10d15 (fun hNew => ?_)
        case kpx10d15 => (try dsimp only); exact ⟨cell_blk HH9.out 0, cell_blk HH9.out 1, cell_blk HH9.out 2, cell_blk HH9.out 3⟩
        clear hK K hHeld
        have hHeld := hNew
        clear hNew
        try simp only [Act.put, List.setIfInBounds_toArray, List.set_cons_zero, List.set_cons_succ]
        refine wpAnyH_ready (rs := [8]) (by kernel_rfl) (by simp) ?_
        refine AllReadyH.cons (o := ⟨_, _, _, _, _, _⟩) rfl (fun K hK => ?_) AllReadyH.nil
        have c1 : w9.cell? ⟨jb, 1, none⟩ = some (.int .i64 (J.area : Int)) := HJ9.out.cell 1
        go_simp
        clear c1
        refine hK.out _ _ ?kpx10d8 (fun hNew => ?_)
        case kpx10d8 => (try dsimp only); exact ⟨cell_blk HH9.out 0, cell_blk HH9.out 1, cell_blk HH9.out 2, cell_blk HH9.out 3⟩
        clear hK K hHeld
        have hHeld := hNew
        clear hNew
        try simp only [Act.put, List.setIfInBounds_toArray, List.set_cons_zero, List.set_cons_succ]
        refine wpAnyH_take (i := 9) (oi := ⟨_, _, _, _, _, _⟩) (v := Value.int .i64 (1 - (J.area : Int))) rfl (by kernel_rfl) (by kernel_rfl) (by kernel_rfl) (fun _ _ _ h => h) (Or.inl ⟨by rfl, ?hypx10d9⟩) hHeld ?_
        case hypx10d9 => (intro wS hSw; (try dsimp only at hSw); go_simp; rw [HW2.out])
        try simp only [Act.put, List.setIfInBounds_toArray, List.set_cons_zero, List.set_cons_succ]
        have k1 : w9.cell? ⟨jb, 1, none⟩ = some (.int .i64 (J.area : Int)) := HJ9.out.cell 1
        have k2 : w9.cell? ⟨jb, 2, none⟩ = some (.int .i64 (J.gen : Int)) := HJ9.out.cell 2
        have k3 : w9.cell? ⟨jb, 3, none⟩ = some (.int .i64 (J.op : Int)) := HJ9.out.cell 3
        have k4 : w9.cell? ⟨jb, 4, none⟩ = some (.int .i64 (J.first : Int)) := HJ9.out.cell 4
        have k5 : w9.cell? ⟨jb, 5, none⟩ = some (.int .i64 (J.size : Int)) := HJ9.out.cell 5
        have k6 : w9.cell? ⟨jb, 6, none⟩ = some (sv) := HJ9.out.cell 6
        have k7 : w9.cell? ⟨jb, 7, none⟩ = some (.slice Ar J.recs.length capr) := HJ9.out.cell 7
        have k8 : w9.cell? ⟨jb, 8, none⟩ = some (.int .i64 (J.used : Int)) := HJ9.out.cell 8
        have k9 : w9.cell? ⟨jb, 9, none⟩ = some (.int .i64 0) := HJ9.out.cell 9
        have kf : ∀ j, w9.frozen? ⟨jb, j, none⟩ = false := HJ9.out.free
        refine wpAnyH_take (i := 16) (oi := ⟨_, _, _, _, _, _⟩) (v := ?vpx10d16) rfl (by kernel_rfl) (by kernel_rfl) (by kernel_rfl) (fun _ _ _ h => h) (Or.inl ⟨by rfl, ?hypx10d16⟩) hHeld ?_
        case hypx10d16 => (intro wS hSw; (try dsimp only at hSw); go_simp; (first | done | with_reducible rfl))
        try simp only [Act.put, List.setIfInBounds_toArray, List.set_cons_zero, List.set_cons_succ]
        refine wpAnyH_take (i := 17) (oi := ⟨_, _, _, _, _, _⟩) (v := ?vpx10d17) rfl (by kernel_rfl) (by kernel_rfl) (by kernel_rfl) (fun _ _ _ h => h) (Or.inl ⟨by rfl, ?hypx10d17⟩) hHeld ?_
        case hypx10d17 => (intro wS hSw; (try dsimp only at hSw); go_simp; (first | done | with_reducible rfl))
        try simp only [Act.put, List.setIfInBounds_toArray, List.set_cons_zero, List.set_cons_succ]
        refine wpAnyH_ready (rs := [18]) (by kernel_rfl) (by simp) ?_
        refine AllReadyH.cons (o := ⟨_, _, _, _, _, _⟩) rfl (fun K hK => ?_) AllReadyH.nil
        go_simp
        refine hK.out _ _ ?kpx10d18 (fun hNew => ?_)
        case kpx10d18 => (try dsimp only); exact ⟨cell_blk (C := HC4 ((J.gen : Int) + 1) (J.op : Int) ((J.first : Int) + (J.recs.length : Int)) (n : Int)) (t := 54) (keepH (HH9.out) HHB2.out) 0, cell_blk (C := HC4 ((J.gen : Int) + 1) (J.op : Int) ((J.first : Int) + (J.recs.length : Int)) (n : Int)) (t := 54) (keepH (HH9.out) HHB2.out) 1, cell_blk (C := HC4 ((J.gen : Int) + 1) (J.op : Int) ((J.first : Int) + (J.recs.length : Int)) (n : Int)) (t := 54) (keepH (HH9.out) HHB2.out) 2, cell_blk (C := HC4 ((J.gen : Int) + 1) (J.op : Int) ((J.first : Int) + (J.recs.length : Int)) (n : Int)) (t := 54) (keepH (HH9.out) HHB2.out) 3⟩
        clear hK K hHeld
        have hHeld := hNew
        clear hNew
        try simp only [Act.put, List.setIfInBounds_toArray, List.set_cons_zero, List.set_cons_succ]
        refine wpAnyH_take (i := 19) (oi := ⟨_, _, _, _, _, _⟩) (v := ?vpx10d19) rfl (by kernel_rfl) (by kernel_rfl) (by kernel_rfl) (fun _ _ _ h => h) (Or.inl ⟨by rfl, ?hypx10d19⟩) hHeld ?_
        case hypx10d19 => (intro wS hSw; (try dsimp only at hSw); go_simp; (first | done | with_reducible rfl))
        try simp only [Act.put, List.setIfInBounds_toArray, List.set_cons_zero, List.set_cons_succ]
        refine wpAnyH_take (i := 20) (oi := ⟨_, _, _, _, _, _⟩) (v := ?vpx10d20) rfl (by kernel_rfl) (by kernel_rfl) (by kernel_rfl) (fun _ _ _ h => h) (Or.inl ⟨by rfl, ?hypx10d20⟩) hHeld ?_
        case hypx10d20 => (intro wS hSw; (try dsimp only at hSw); go_simp; (first | done | with_reducible rfl))
        try simp only [Act.put, List.setIfInBounds_toArray, List.set_cons_zero, List.set_cons_succ]
        refine wpAnyH_ready (rs := [21]) (by kernel_rfl) (by simp) ?_
        refine AllReadyH.cons (o := ⟨_, _, _, _, _, _⟩) rfl (fun K hK => ?_) AllReadyH.nil
        go_simp
        refine hK.out _ _ ?kpx10d21 (fun hNew => ?_)
        case kpx10d21 => (try dsimp only); exact ⟨cell_blk (C := HC4 ((J.gen : Int) + 1) (J.op : Int) ((J.first : Int) + (J.recs.length : Int)) (n : Int)) (t := 54) (keepH (keepH (keepH (keepH (keepH (HH9.out) HHB2.out) HHB2.out) HHB2.out) HHB2.out) HHB2.out) 0, cell_blk (C := HC4 ((J.gen : Int) + 1) (J.op : Int) ((J.first : Int) + (J.recs.length : Int)) (n : Int)) (t := 54) (keepH (keepH (keepH (keepH (keepH (HH9.out) HHB2.out) HHB2.out) HHB2.out) HHB2.out) HHB2.out) 1, cell_blk (C := HC4 ((J.gen : Int) + 1) (J.op : Int) ((J.first : Int) + (J.recs.length : Int)) (n : Int)) (t := 54) (keepH (keepH (keepH (keepH (keepH (HH9.out) HHB2.out) HHB2.out) HHB2.out) HHB2.out) HHB2.out) 2, cell_blk (C := HC4 ((J.gen : Int) + 1) (J.op : Int) ((J.first : Int) + (J.recs.length : Int)) (n : Int)) (t := 54) (keepH (keepH (keepH (keepH (keepH (HH9.out) HHB2.out) HHB2.out) HHB2.out) HHB2.out) HHB2.out) 3⟩
        clear hK K hHeld
        have hHeld := hNew
        clear hNew
        try simp only [Act.put, List.setIfInBounds_toArray, List.set_cons_zero, List.set_cons_succ]
        refine wpAnyH_take (i := 22) (oi := ⟨_, _, _, _, _, _⟩) (v := ?vpx10d22) rfl (by kernel_rfl) (by kernel_rfl) (by kernel_rfl) (fun _ _ _ h => h) (Or.inl ⟨by rfl, ?hypx10d22⟩) hHeld ?_
        case hypx10d22 => (intro wS hSw; (try dsimp only at hSw); go_simp; (first | done | with_reducible rfl))
        try simp only [Act.put, List.setIfInBounds_toArray, List.set_cons_zero, List.set_cons_succ]
        refine wpAnyH_take (i := 23) (oi := ⟨_, _, _, _, _, _⟩) (v := ?vpx10d23) rfl (by kernel_rfl) (by kernel_rfl) (by kernel_rfl) (fun _ _ _ h => h) (Or.inl ⟨by rfl, ?hypx10d23⟩) hHeld ?_
        case hypx10d23 => (intro wS hSw; (try dsimp only at hSw); go_simp; (first | done | with_reducible rfl))
        try simp only [Act.put, List.setIfInBounds_toArray, List.set_cons_zero, List.set_cons_succ]
        refine wpAnyH_ready (rs := [24]) (by kernel_rfl) (by simp) ?_
        refine AllReadyH.cons (o := ⟨_, _, _, _, _, _⟩) rfl (fun K hK => ?_) AllReadyH.nil
        go_simp
        refine hK.out _ _ ?kpx10d24 (fun hNew => ?_)
        case kpx10d24 => (try dsimp only); exact ⟨cell_blk (C := HC4 ((J.gen : Int) + 1) (J.op : Int) ((J.first : Int) + (J.recs.length : Int)) (n : Int)) (t := 54) (keepH (keepH (keepH (keepH (keepH (keepH (HH9.out) HHB2.out) HHB2.out) HHB2.out) HHB2.out) HHB2.out) HHB2.out) 0, cell_blk (C := HC4 ((J.gen : Int) + 1) (J.op : Int) ((J.first : Int) + (J.recs.length : Int)) (n : Int)) (t := 54) (keepH (keepH (keepH (keepH (keepH (keepH (HH9.out) HHB2.out) HHB2.out) HHB2.out) HHB2.out) HHB2.out) HHB2.out) 1, cell_blk (C := HC4 ((J.gen : Int) + 1) (J.op : Int) ((J.first : Int) + (J.recs.length : Int)) (n : Int)) (t := 54) (keepH (keepH (keepH (keepH (keepH (keepH (HH9.out) HHB2.out) HHB2.out) HHB2.out) HHB2.out) HHB2.out) HHB2.out) 2, cell_blk (C := HC4 ((J.gen : Int) + 1) (J.op : Int) ((J.first : Int) + (J.recs.length : Int)) (n : Int)) (t := 54) (keepH (keepH (keepH (keepH (keepH (keepH (HH9.out) HHB2.out) HHB2.out) HHB2.out) HHB2.out) HHB2.out) HHB2.out) 3⟩
        clear hK K hHeld
        have hHeld := hNew
        clear hNew
        try simp only [Act.put, List.setIfInBounds_toArray, List.set_cons_zero, List.set_cons_succ]
        refine wpAnyH_take (i := 25) (oi := ⟨_, _, _, _, _, _⟩) (v := ?vpx10d25) rfl (by kernel_rfl) (by kernel_rfl) (by kernel_rfl) (fun _ _ _ h => h) (Or.inl ⟨by rfl, ?hypx10d25⟩) hHeld ?_
        case hypx10d25 => (intro wS hSw; (try dsimp only at hSw); go_simp; (first | done | with_reducible rfl))
        try simp only [Act.put, List.setIfInBounds_toArray, List.set_cons_zero, List.set_cons_succ]
        refine wpAnyH_take (i := 26) (oi := ⟨_, _, _, _, _, _⟩) (v := ?vpx10d26) rfl (by kernel_rfl) (by kernel_rfl) (by kernel_rfl) (fun _ _ _ h => h) (Or.inl ⟨by rfl, ?hypx10d26⟩) hHeld ?_
        case hypx10d26 => (intro wS hSw; (try dsimp only at hSw); go_simp; (first | done | with_reducible rfl))
        try simp only [Act.put, List.setIfInBounds_toArray, List.set_cons_zero, List.set_cons_succ]
        refine wpAnyH_ready (rs := [27]) (by kernel_rfl) (by simp) ?_
        refine AllReadyH.cons (o := ⟨_, _, _, _, _, _⟩) rfl (fun K hK => ?_) AllReadyH.nil
        go_simp
        refine hK.out _ _ ?kpx10d27 (fun hNew => ?_)
        case kpx10d27 => (try dsimp only); exact ⟨cell_blk (C := HC4 ((J.gen : Int) + 1) (J.op : Int) ((J.first : Int) + (J.recs.length : Int)) (n : Int)) (t := 54) (keepH (keepH (keepH (keepH (keepH (keepH (keepH (HH9.out) HHB2.out) HHB2.out) HHB2.out) HHB2.out) HHB2.out) HHB2.out) HHB2.out) 0, cell_blk (C := HC4 ((J.gen : Int) + 1) (J.op : Int) ((J.first : Int) + (J.recs.length : Int)) (n : Int)) (t := 54) (keepH (keepH (keepH (keepH (keepH (keepH (keepH (HH9.out) HHB2.out) HHB2.out) HHB2.out) HHB2.out) HHB2.out) HHB2.out) HHB2.out) 1, cell_blk (C := HC4 ((J.gen : Int) + 1) (J.op : Int) ((J.first : Int) + (J.recs.length : Int)) (n : Int)) (t := 54) (keepH (keepH (keepH (keepH (keepH (keepH (keepH (HH9.out) HHB2.out) HHB2.out) HHB2.out) HHB2.out) HHB2.out) HHB2.out) HHB2.out) 2, cell_blk (C := HC4 ((J.gen : Int) + 1) (J.op : Int) ((J.first : Int) + (J.recs.length : Int)) (n : Int)) (t := 54) (keepH (keepH (keepH (keepH (keepH (keepH (keepH (HH9.out) HHB2.out) HHB2.out) HHB2.out) HHB2.out) HHB2.out) HHB2.out) HHB2.out) 3⟩
        clear hK K hHeld
        have hHeld := hNew
        clear hNew
        try simp only [Act.put, List.setIfInBounds_toArray, List.set_cons_zero, List.set_cons_succ]
        refine wpAnyH_take (i := 28) (oi := ⟨_, _, _, _, _, _⟩) (v := ?vpx10d28) rfl (by kernel_rfl) (by kernel_rfl) (by kernel_rfl) (fun _ _ _ h => h) (Or.inl ⟨by rfl, ?hypx10d28⟩) hHeld ?_
        case hypx10d28 => (intro wS hSw; (try dsimp only at hSw); go_simp; (first | done | with_reducible rfl))
        try simp only [Act.put, List.setIfInBounds_toArray, List.set_cons_zero, List.set_cons_succ]
        refine wpAnyH_take (i := 29) (oi := ⟨_, _, _, _, _, _⟩) (v := ?vpx10d29) rfl (by kernel_rfl) (by kernel_rfl) (by kernel_rfl) (fun _ _ _ h => h) (Or.inl ⟨by rfl, ?hypx10d29⟩) hHeld ?_
        case hypx10d29 => (intro wS hSw; (try dsimp only at hSw); go_simp; (first | done | with_reducible rfl))
        try simp only [Act.put, List.setIfInBounds_toArray, List.set_cons_zero, List.set_cons_succ]
        refine wpAnyH_ready (rs := [30]) (by kernel_rfl) (by simp) ?_
        refine AllReadyH.cons (o := ⟨_, _, _, _, _, _⟩) rfl (fun K hK => ?_) AllReadyH.nil
        go_simp
        refine hK.out _ _ ?kpx10d30 (fun hNew => ?_)
        case kpx10d30 => (try dsimp only); exact ⟨cell_blk (C := HC4 ((J.gen : Int) + 1) (J.op : Int) ((J.first : Int) + (J.recs.length : Int)) (n : Int)) (t := 54) (keepH (keepH (keepH (keepH (keepH (keepH (keepH (keepH (HH9.out) HHB2.out) HHB2.out) HHB2.out) HHB2.out) HHB2.out) HHB2.out) HHB2.out) HHB2.out) 0, cell_blk (C := HC4 ((J.gen : Int) + 1) (J.op : Int) ((J.first : Int) + (J.recs.length : Int)) (n : Int)) (t := 54) (keepH (keepH (keepH (keepH (keepH (keepH (keepH (keepH (HH9.out) HHB2.out) HHB2.out) HHB2.out) HHB2.out) HHB2.out) HHB2.out) HHB2.out) HHB2.out) 1, cell_blk (C := HC4 ((J.gen : Int) + 1) (J.op : Int) ((J.first : Int) + (J.recs.length : Int)) (n : Int)) (t := 54) (keepH (keepH (keepH (keepH (keepH (keepH (keepH (keepH (HH9.out) HHB2.out) HHB2.out) HHB2.out) HHB2.out) HHB2.out) HHB2.out) HHB2.out) HHB2.out) 2, cell_blk (C := HC4 ((J.gen : Int) + 1) (J.op : Int) ((J.first : Int) + (J.recs.length : Int)) (n : Int)) (t := 54) (keepH (keepH (keepH (keepH (keepH (keepH (keepH (keepH (HH9.out) HHB2.out) HHB2.out) HHB2.out) HHB2.out) HHB2.out) HHB2.out) HHB2.out) HHB2.out) 3⟩
        clear hK K hHeld
        have hHeld := hNew
        clear hNew
        try simp only [Act.put, List.setIfInBounds_toArray, List.set_cons_zero, List.set_cons_succ]
        refine wpAnyH_done (by kernel_rfl) ?_ _
        refine NoPanic.normal ?_
        clear hHeld
        go_wp2_with fail
        go_ret
        refine ⟨rfl, ?_⟩
        have hx : putC w9 jb ((1 - J.area : Nat) : Int) ((J.gen + 1 : Nat) : Int) (J.op : Int) ((J.first + J.recs.length : Nat) : Int) (l.length : Int) (.slice Ay l.length capy) (parts l.length : Int) = putC w9 jb (1 - (J.area : Int)) ((J.gen : Int) + 1) (J.op : Int) ((J.first : Int) + (J.recs.length : Int)) (n : Int) (.slice Ay l.length capy) (parts n : Int) := by
          rw [← HNL.out, show ((1 - J.area : Nat) : Int) = 1 - (J.area : Int) by have := HAR.out; omega, Int.natCast_add, Int.natCast_add]
          rfl
        clear k1 k2 k3 k4 k5 k6 k7 k8 k9 kf
        exact ck_end HI.out HG6.out HO7.out HO8.out HB9.out (by exact HR9.out) HSS.out HS7.out HS8.out HD8.out (by rw [hx]; exact ⟨rfl, rfl, rfl, Nat.le_refl _, fun _ _ _ => rfl⟩)
  · go_simp
    refine hK.out _ _ ?kpy16 (fun hNew => ?_)
    case kpy16 => (try dsimp only); exact ⟨(HB.out.grown (World.grownBy_alloc _ _ none)).cell 2, (HB.out.grown (World.grownBy_alloc _ _ none)).cell 3⟩
    clear hK K hHeld
    have hHeld := hNew
    clear hNew
    try simp only [Act.put, List.setIfInBounds_toArray, List.set_cons_zero, List.set_cons_succ]
    refine wpAnyH_ready (rs := [12]) (by kernel_rfl) (by simp) ?_
    refine AllReadyH.cons (o := ⟨_, _, _, _, _, _⟩) rfl (fun K hK => ?_) AllReadyH.nil
    go_simp
    refine (next_blk jb d J sv _ Ar J.recs.length capr rfl (by have := HOP.out; omega) _ (by exact HB.out.grown (alloc_drew _ _))).mono ?_
    rintro e wq ⟨rfl, m2, rfl⟩
    go_wp2_with fail
    refine hK.out _ _ ?kpy12 (fun hNew => ?_)
    case kpy12 => (try dsimp only); exact ⟨(HB.out.grown (World.grownBy_alloc _ _ none)).cell 2, (HB.out.grown (World.grownBy_alloc _ _ none)).cell 3⟩
    clear hK K hHeld
    have hHeld := hNew
    clear hNew
    try simp only [Act.put, List.setIfInBounds_toArray, List.set_cons_zero, List.set_cons_succ]
    refine wpAnyH_take (i := 15) (oi := ⟨_, _, _, _, _, _⟩) (v := ?vpy15) rfl (by kernel_rfl) (by kernel_rfl) (by kernel_rfl) (fun _ _ _ h => h) (Or.inl ⟨by rfl, ?hypy15⟩) hHeld ?_
    case hypy15 => (intro wS hSw; (try dsimp only at hSw); go_simp; (first | done | with_reducible rfl))
    try simp only [Act.put, List.setIfInBounds_toArray, List.set_cons_zero, List.set_cons_succ]
    refine wpAnyH_ready (rs := [17]) (by kernel_rfl) (by simp) ?_
    refine AllReadyH.cons (o := ⟨_, _, _, _, _, _⟩) rfl (fun K hK => ?_) AllReadyH.nil
    go_simp
    refine hK.out _ _ ?kpy17 (fun hNew => ?_)
    case kpy17 => (try dsimp only); exact ⟨(JBlk.putH (HB.out.grown (drew_then (World.grownBy_alloc _ _ none))) HHJ.out).cell 2, (JBlk.putH (HB.out.grown (drew_then (World.grownBy_alloc _ _ none))) HHJ.out).cell 3⟩
    clear hK K hHeld
    have hHeld := hNew
    clear hNew
    try simp only [Act.put, List.setIfInBounds_toArray, List.set_cons_zero, List.set_cons_succ]
    refine wpAnyH_done (by kernel_rfl) ?_ _
    refine NoPanic.normal ?_
    clear hHeld
    obtain ⟨w6, hw6⟩ : ∃ x, x = putH ((w.alloc H0).drewN (1 + m2)) w.heap.size ((J.gen : Int) + 1) (J.op : Int) ((J.first : Int) + (J.recs.length : Int)) (n : Int) := ⟨_, rfl⟩
    obtain ⟨h6, g6, s6⟩ := six hw6
    unfold putH at hw6
    rw [← hw6, ← HHB.out]
    rw [← HHB.out] at h6 s6
    clear hw6
    have HH6 := Lib.hid h6
    have HG6 := Lib.hid g6
    have HS6 := Lib.hid s6
    have HD6 := Lib.hid (HD.out.grown g6)
    have HB6 := Lib.hid (HB.out.grown g6)
    have HA6 : Hid ((A = none ∧ l = [] ∧ cap = 0) ∨ ∃ g off, A = some ⟨g, off, none⟩ ∧ g < w6.heap.size ∧ w6.rangeAt g off (u8s l)) := ck_arg HA.out (Off.of_grown g6 (S := fun _ => False) (by simp)) (fun _ _ _ h => h)
    clear h6 g6 s6
    go_upto_region 7 with fail
    refine wp_region_noPanic ?_
    refine wp_region_held_drew (S := fun w' => w'.cell? ⟨jb, 1, none⟩ = some (Value.int .i64 (J.area : Int)) ∧ w'.cell? ⟨hb, 0, none⟩ = some (Value.int .i64 ((J.gen : Int) + 1))) (by kernel_rfl) ?hSpy7 (fun hHeld => ?_)
    case hSpy7 => exact ⟨HB6.out.cell 1, cell_blk HH6.out 0⟩
    refine wpAnyH_take (i := 0) (oi := ⟨_, _, _, _, _, _⟩) (v := ?vpy70) rfl (by kernel_rfl) (by kernel_rfl) (by kernel_rfl) (fun _ _ _ h => h) (Or.inl ⟨by rfl, ?hypy70⟩) hHeld ?_
    case hypy70 => (intro wS hSw; (try dsimp only at hSw); go_simp; (first | done | with_reducible rfl))
    try simp only [Act.put, List.setIfInBounds_toArray, List.set_cons_zero, List.set_cons_succ]
    refine wpAnyH_take (i := 1) (oi := ⟨_, _, _, _, _, _⟩) (v := ?vpy71) rfl (by kernel_rfl) (by kernel_rfl) (by kernel_rfl) (fun _ _ _ h => h) (Or.inl ⟨by rfl, ?hypy71⟩) hHeld ?_
    case hypy71 => (intro wS hSw; (try dsimp only at hSw); go_simp; (first | done | with_reducible rfl))
    try simp only [Act.put, List.setIfInBounds_toArray, List.set_cons_zero, List.set_cons_succ]
    refine wpAnyH_take (i := 2) (oi := ⟨_, _, _, _, _, _⟩) (v := ?vpy72) rfl (by kernel_rfl) (by kernel_rfl) (by kernel_rfl) (fun _ _ _ h => h) (Or.inl ⟨by rfl, ?hypy72⟩) hHeld ?_
    case hypy72 => (intro wS hSw; (try dsimp only at hSw); go_simp; (first | done | with_reducible rfl))
    try simp only [Act.put, List.setIfInBounds_toArray, List.set_cons_zero, List.set_cons_succ]
    refine wpAnyH_take (i := 3) (oi := ⟨_, _, _, _, _, _⟩) (v := ?vpy73) rfl (by kernel_rfl) (by kernel_rfl) (by kernel_rfl) (fun _ _ _ h => h) (Or.inl ⟨by rfl, ?hypy73⟩) hHeld ?_
    case hypy73 => (intro wS hSw; (try dsimp only at hSw); go_simp; (first | done | with_reducible rfl))
    try simp only [Act.put, List.setIfInBounds_toArray, List.set_cons_zero, List.set_cons_succ]
    refine wpAnyH_take (i := 4) (oi := ⟨_, _, _, _, _, _⟩) (v := ?vpy74) rfl (by kernel_rfl) (by kernel_rfl) (by kernel_rfl) (fun _ _ _ h => h) (Or.inl ⟨by rfl, ?hypy74⟩) hHeld ?_
    case hypy74 => (intro wS hSw; (try dsimp only at hSw); go_simp; (first | done | with_reducible rfl))
    try simp only [Act.put, List.setIfInBounds_toArray, List.set_cons_zero, List.set_cons_succ]
    refine wpAnyH_take (i := 5) (oi := ⟨_, _, _, _, _, _⟩) (v := Value.int .i64 (1 - (J.area : Int))) rfl (by kernel_rfl) (by kernel_rfl) (by kernel_rfl) (fun _ _ _ h => h) (Or.inl ⟨by rfl, ?hypy75⟩) hHeld ?_
    case hypy75 => (intro wS hSw; (try dsimp only at hSw); go_simp; rw [HW2.out])
    try simp only [Act.put, List.setIfInBounds_toArray, List.set_cons_zero, List.set_cons_succ]
    refine wpAnyH_take (i := 6) (oi := ⟨_, _, _, _, _, _⟩) (v := ?vpy76) rfl (by kernel_rfl) (by kernel_rfl) (by kernel_rfl) (fun _ _ _ h => h) (Or.inl ⟨by rfl, ?hypy76⟩) hHeld ?_
    case hypy76 => (intro wS hSw; (try dsimp only at hSw); go_simp; (first | done | with_reducible rfl))
    try simp only [Act.put, List.setIfInBounds_toArray, List.set_cons_zero, List.set_cons_succ]
    refine wpAnyH_take (i := 7) (oi := ⟨_, _, _, _, _, _⟩) (v := ?vpy77) rfl (by kernel_rfl) (by kernel_rfl) (by kernel_rfl) (fun _ _ _ h => h) (Or.inl ⟨by rfl, ?hypy77⟩) hHeld ?_
    case hypy77 => (intro wS hSw; (try dsimp only at hSw); go_simp; (first | done | with_reducible rfl))
    try simp only [Act.put, List.setIfInBounds_toArray, List.set_cons_zero, List.set_cons_succ]
    refine wpAnyH_take (i := 8) (oi := ⟨_, _, _, _, _, _⟩) (v := ?vpy78) rfl (by kernel_rfl) (by kernel_rfl) (by kernel_rfl) (fun _ _ _ h => h) (Or.inl ⟨by rfl, ?hypy78⟩) hHeld ?_
    case hypy78 => (intro wS hSw; (try dsimp only at hSw); go_simp; (first | done | with_reducible rfl))
    try simp only [Act.put, List.setIfInBounds_toArray, List.set_cons_zero, List.set_cons_succ]
    refine wpAnyH_ready (rs := [9]) (by kernel_rfl) (by simp) ?_
    refine AllReadyH.cons (o := ⟨_, _, _, _, _, _⟩) rfl (fun K hK => ?_) AllReadyH.nil
    go_simp
    rw [show (1 : Int) - (J.area : Int) = ((1 - J.area : Nat) : Int) by have := HAR.out; omega, show (J.gen : Int) + 1 = ((J.gen + 1 : Nat) : Int) by omega, HNL.out]
    refine (put_at Sd d D jb J sv _ (1 - J.area) 1 67 (J.gen + 1) 0 l A cap (by have := HOP.out; omega) (by decide) (by have := HLM.out; omega) (by rw [← HNL.out]; exact HCAP.out) HCM.out w6.drew (HD6.out.grown ⟨rfl, rfl, rfl, Nat.le_refl _, fun _ _ _ => rfl⟩) (fun b hb => Nat.lt_of_lt_of_le (HLT.out b hb) HG6.out.size) HB6.out HJS.out (ck_room HAR.out HN.out HOK.out) HO.out HARM.out (by have := HWR.out; omega) (HA6.out.imp (fun h => h.2) (fun ⟨g, off, e, h1, h2⟩ => ⟨g, off, e, h1, HAS.out g off e, h2⟩))).mono ?_
    rw [← HNL.out]
    rintro e w7 ⟨rfl, Sd7, hd7, hs7, ho7⟩
    have HD7 : Hid (DiskAt w7 Sd7 d (ckP D J l)) := by
      show DiskAt _ _ _ _
      unfold ckP
      rw [← HNL.out]
      exact hd7
    have HS7 := Lib.hid hs7
    have HO7 : Hid (Off Sd w6 w7) := ⟨ho7.os, ho7.tape, ho7.output, ho7.size, ho7.block⟩
    have HB7 : Hid (JBlk w7 jb d J sv (.slice Ar J.recs.length capr)) := HB6.out.off HO7.out HJS.out
    have HHN : Hid (¬ Sd hb) := fun h => by have h1 := HLT.out _ h; have h2 := HHB.out; omega
    have HH7 : Hid (w7.heap[hb]? = _) := (HO7.out.block hb HS6.out HHN.out).trans HH6.out
    have HJ7 : Hid (¬ Sd7 jb) := fun h => by
      rcases (HS7.out _ h).1 with h1 | h1
      · exact HJS.out h1
      · have h2 := HB6.out.lt
        have h3 : w6.heap.size ≤ jb := h1
        omega
    have HH7N : Hid (¬ Sd7 hb) := fun h => by
      rcases (HS7.out _ h).1 with h1 | h1
      · exact HHN.out h1
      · have h2 := HS6.out
        have h3 : w6.heap.size ≤ hb := h1
        omega
    have HAS7 : Hid (∀ g off, A = some ⟨g, off, none⟩ → ¬ Sd7 g) := fun g off e h => by
      rcases (HS7.out _ h).1 with h1 | h1
      · exact HAS.out g off e h1
      · have h2 := HG6.out.size
        have h3 : w6.heap.size ≤ g := h1
        have h4 := ck_lt HA.out e
        omega
    clear hd7 hs7 ho7
    go_wp2_with fail
    refine hK.out _ _ ?kpy79 (fun hNew => ?_)
    case kpy79 => (try dsimp only); exact ⟨HB7.out.cell 1, cell_blk HH7.out 0⟩
    clear hK K hHeld
    have hHeld := hNew
    clear hNew
    try simp only [Act.put, List.setIfInBounds_toArray, List.set_cons_zero, List.set_cons_succ]
    refine wpAnyH_done (by kernel_rfl) ?_ _
    refine NoPanic.normal ?_
    clear hHeld
    go_upto_region 8 with fail
    refine wp_region_noPanic ?_
    refine wp_region_held_drew (S := fun w' => w'.cell? ⟨jb, 1, none⟩ = some (Value.int .i64 (J.area : Int)) ∧ w'.cell? ⟨hb, 0, none⟩ = some (Value.int .i64 ((J.gen : Int) + 1)) ∧ w'.cell? ⟨hb, 1, none⟩ = some (Value.int .i64 (J.op : Int)) ∧ w'.cell? ⟨hb, 2, none⟩ = some (Value.int .i64 ((J.first : Int) + (J.recs.length : Int))) ∧ w'.cell? ⟨hb, 3, none⟩ = some (Value.int .i64 (n : Int))) (by kernel_rfl) ?hSpy8 (fun hHeld => ?_)
    case hSpy8 => exact ⟨HB7.out.cell 1, cell_blk HH7.out 0, cell_blk HH7.out 1, cell_blk HH7.out 2, cell_blk HH7.out 3⟩
    refine wpAnyH_take (i := 0) (oi := ⟨_, _, _, _, _, _⟩) (v := ?vpy80) rfl (by kernel_rfl) (by kernel_rfl) (by kernel_rfl) (fun _ _ _ h => h) (Or.inl ⟨by rfl, ?hypy80⟩) hHeld ?_
    case hypy80 => (intro wS hSw; (try dsimp only at hSw); go_simp; (first | done | with_reducible rfl))
    try simp only [Act.put, List.setIfInBounds_toArray, List.set_cons_zero, List.set_cons_succ]
    refine wpAnyH_take (i := 1) (oi := ⟨_, _, _, _, _, _⟩) (v := ?vpy81) rfl (by kernel_rfl) (by kernel_rfl) (by kernel_rfl) (fun _ _ _ h => h) (Or.inl ⟨by rfl, ?hypy81⟩) hHeld ?_
    case hypy81 => (intro wS hSw; (try dsimp only at hSw); go_simp; (first | done | with_reducible rfl))
    try simp only [Act.put, List.setIfInBounds_toArray, List.set_cons_zero, List.set_cons_succ]
    refine wpAnyH_take (i := 2) (oi := ⟨_, _, _, _, _, _⟩) (v := ?vpy82) rfl (by kernel_rfl) (by kernel_rfl) (by kernel_rfl) (fun _ _ _ h => h) (Or.inl ⟨by rfl, ?hypy82⟩) hHeld ?_
    case hypy82 => (intro wS hSw; (try dsimp only at hSw); go_simp; (first | done | with_reducible rfl))
    try simp only [Act.put, List.setIfInBounds_toArray, List.set_cons_zero, List.set_cons_succ]
    refine wpAnyH_take (i := 3) (oi := ⟨_, _, _, _, _, _⟩) (v := ?vpy83) rfl (by kernel_rfl) (by kernel_rfl) (by kernel_rfl) (fun _ _ _ h => h) (Or.inl ⟨by rfl, ?hypy83⟩) hHeld ?_
    case hypy83 => (intro wS hSw; (try dsimp only at hSw); go_simp; (first | done | with_reducible rfl))
    try simp only [Act.put, List.setIfInBounds_toArray, List.set_cons_zero, List.set_cons_succ]
    refine wpAnyH_take (i := 4) (oi := ⟨_, _, _, _, _, _⟩) (v := ?vpy84) rfl (by kernel_rfl) (by kernel_rfl) (by kernel_rfl) (fun _ _ _ h => h) (Or.inl ⟨by rfl, ?hypy84⟩) hHeld ?_
    case hypy84 => (intro wS hSw; (try dsimp only at hSw); go_simp; (first | done | with_reducible rfl))
    try simp only [Act.put, List.setIfInBounds_toArray, List.set_cons_zero, List.set_cons_succ]
    refine wpAnyH_take (i := 5) (oi := ⟨_, _, _, _, _, _⟩) (v := Value.int .i64 (1 - (J.area : Int))) rfl (by kernel_rfl) (by kernel_rfl) (by kernel_rfl) (fun _ _ _ h => h) (Or.inl ⟨by rfl, ?hypy85⟩) hHeld ?_
    case hypy85 => (intro wS hSw; (try dsimp only at hSw); go_simp; rw [HW2.out])
    try simp only [Act.put, List.setIfInBounds_toArray, List.set_cons_zero, List.set_cons_succ]
    refine wpAnyH_take (i := 6) (oi := ⟨_, _, _, _, _, _⟩) (v := ?vpy86) rfl (by kernel_rfl) (by kernel_rfl) (by kernel_rfl) (fun _ _ _ h => h) (Or.inl ⟨by rfl, ?hypy86⟩) hHeld ?_
    case hypy86 => (intro wS hSw; (try dsimp only at hSw); go_simp; (first | done | with_reducible rfl))
    try simp only [Act.put, List.setIfInBounds_toArray, List.set_cons_zero, List.set_cons_succ]
    refine wpAnyH_ready (rs := [7]) (by kernel_rfl) (by simp) ?_
    refine AllReadyH.cons (o := ⟨_, _, _, _, _, _⟩) rfl (fun K hK => ?_) AllReadyH.nil
    go_simp
    rw [show (1 : Int) - (J.area : Int) = ((1 - J.area : Nat) : Int) by have := HAR.out; omega, show (J.gen : Int) + 1 = ((J.gen + 1 : Nat) : Int) by omega, show (J.first : Int) + (J.recs.length : Int) = ((J.first + J.recs.length : Nat) : Int) by omega, HNL.out]
    refine (seal_at Sd7 d (ckP D J l) jb J sv _ (1 - J.area) (J.gen + 1) J.op (J.first + J.recs.length) l.length (by have := HOP.out; omega) (by have := HOP.out; omega) (by have := HOP.out; omega) (by have := HLM.out; omega) w7.drew (HD7.out.grown ⟨rfl, rfl, rfl, Nat.le_refl _, fun _ _ _ => rfl⟩) (fun b hb => (HS7.out b hb).2) HB7.out HJ7.out (by rw [(ckP_n D J l).1]; exact Nat.lt_of_lt_of_le (by have := parts_one l.length; omega) (ck_room HAR.out HN.out HOK.out)) (by rw [(ckP_n D J l).2.1]; exact HO.out) (by rw [(ckP_n D J l).2.2.1]; exact HARM.out) (by rw [(ckP_n D J l).2.2.2]; have := HWR.out; have := HOK.out; have := HDN.out; omega)).mono ?_
    rw [← HNL.out]
    rintro e w8 ⟨rfl, Sd8, hd8, hs8, ho8⟩
    have HD8 : Hid (DiskAt w8 Sd8 d (ckD D J l)) := by
      show DiskAt _ _ _ _
      unfold ckD
      rw [(ckP_n D J l).1] at hd8
      rw [← HNL.out]
      exact hd8
    have HS8 := Lib.hid hs8
    have HO8 : Hid (Off Sd7 w7 w8) := ⟨ho8.os, ho8.tape, ho8.output, ho8.size, ho8.block⟩
    have HB8 : Hid (JBlk w8 jb d J sv (.slice Ar J.recs.length capr)) := HB7.out.off HO8.out HJ7.out
    have HH8 : Hid (w8.heap[hb]? = _) := (HO8.out.block hb (Nat.lt_of_lt_of_le HS6.out HO7.out.size) HH7N.out).trans HH7.out
    have HA8 := Lib.hid (ck_arg2 HA6.out HO7.out HAS.out HO8.out HAS7.out)
    clear hd8 hs8 ho8
    go_wp2_with fail
    refine hK.out _ _ ?kpy87 (fun hNew => ?_)
    case kpy87 => (try dsimp only); exact ⟨HB8.out.cell 1, cell_blk HH8.out 0, cell_blk HH8.out 1, cell_blk HH8.out 2, cell_blk HH8.out 3⟩
    clear hK K hHeld
    have hHeld := hNew
    clear hNew
    try simp only [Act.put, List.setIfInBounds_toArray, List.set_cons_zero, List.set_cons_succ]
    refine wpAnyH_done (by kernel_rfl) ?_ _
    refine NoPanic.normal ?_
    clear hHeld
    have c9 : w8.cell? ⟨jb, 9, none⟩ = some (.int .i64 0) := HB8.out.cell 9
    go_upto_region 10 with fail
    refine wp_region_noPanic ?_
    refine wp_region_held_drew (S := fun w' => w'.cell? ⟨hb, 0, none⟩ = some (Value.int .i64 ((J.gen : Int) + 1)) ∧ w'.cell? ⟨hb, 1, none⟩ = some (Value.int .i64 (J.op : Int)) ∧ w'.cell? ⟨hb, 2, none⟩ = some (Value.int .i64 ((J.first : Int) + (J.recs.length : Int))) ∧ w'.cell? ⟨hb, 3, none⟩ = some (Value.int .i64 (n : Int))) (by kernel_rfl) ?hSpy10 (fun hHeld => ?_)
    case hSpy10 => exact ⟨cell_blk HH8.out 0, cell_blk HH8.out 1, cell_blk HH8.out 2, cell_blk HH8.out 3⟩
    refine wpAnyH_take (i := 0) (oi := ⟨_, _, _, _, _, _⟩) (v := ?vpy100) rfl (by kernel_rfl) (by kernel_rfl) (by kernel_rfl) (fun _ _ _ h => h) (Or.inl ⟨by rfl, ?hypy100⟩) hHeld ?_
    case hypy100 => (intro wS hSw; (try dsimp only at hSw); go_simp; (first | done | with_reducible rfl))
    try simp only [Act.put, List.setIfInBounds_toArray, List.set_cons_zero, List.set_cons_succ]
    refine wpAnyH_take (i := 1) (oi := ⟨_, _, _, _, _, _⟩) (v := ?vpy101) rfl (by kernel_rfl) (by kernel_rfl) (by kernel_rfl) (fun _ _ _ h => h) (Or.inl ⟨by rfl, ?hypy101⟩) hHeld ?_
    case hypy101 => (intro wS hSw; (try dsimp only at hSw); go_simp; (first | done | with_reducible rfl))
    try simp only [Act.put, List.setIfInBounds_toArray, List.set_cons_zero, List.set_cons_succ]
    refine wpAnyH_take (i := 2) (oi := ⟨_, _, _, _, _, _⟩) (v := ?vpy102) rfl (by kernel_rfl) (by kernel_rfl) (by kernel_rfl) (fun _ _ _ h => h) (Or.inl ⟨by rfl, ?hypy102⟩) hHeld ?_
    case hypy102 => (intro wS hSw; (try dsimp only at hSw); go_simp; (first | done | with_reducible rfl))
    try simp only [Act.put, List.setIfInBounds_toArray, List.set_cons_zero, List.set_cons_succ]
    refine wpAnyH_take (i := 3) (oi := ⟨_, _, _, _, _, _⟩) (v := ?vpy103) rfl (by kernel_rfl) (by kernel_rfl) (by kernel_rfl) (fun _ _ _ h => h) (Or.inl ⟨by rfl, ?hypy103⟩) hHeld ?_
    case hypy103 => (intro wS hSw; (try dsimp only at hSw); go_simp; (first | done | with_reducible rfl))
    try simp only [Act.put, List.setIfInBounds_toArray, List.set_cons_zero, List.set_cons_succ]
    refine wpAnyH_take (i := 4) (oi := ⟨_, _, _, _, _, _⟩) (v := ?vpy104) rfl (by kernel_rfl) (by kernel_rfl) (by kernel_rfl) (fun _ _ _ h => h) (Or.inl ⟨by rfl, ?hypy104⟩) hHeld ?_
    case hypy104 => (intro wS hSw; (try dsimp only at hSw); go_simp; (first | done | with_reducible rfl))
    try simp only [Act.put, List.setIfInBounds_toArray, List.set_cons_zero, List.set_cons_succ]
    refine wpAnyH_take (i := 5) (oi := ⟨_, _, _, _, _, _⟩) (v := ?vpy105) rfl (by kernel_rfl) (by kernel_rfl) (by kernel_rfl) (fun _ _ _ h => h) (Or.inl ⟨by rfl, ?hypy105⟩) hHeld ?_
    case hypy105 => (intro wS hSw; (try dsimp only at hSw); go_simp; (first | done | with_reducible rfl))
    try simp only [Act.put, List.setIfInBounds_toArray, List.set_cons_zero, List.set_cons_succ]
    refine wpAnyH_take (i := 6) (oi := ⟨_, _, _, _, _, _⟩) (v := ?vpy106) rfl (by kernel_rfl) (by kernel_rfl) (by kernel_rfl) (fun _ _ _ h => h) (Or.inl ⟨by rfl, ?hypy106⟩) hHeld ?_
    case hypy106 => (intro wS hSw; (try dsimp only at hSw); go_simp; (first | done | with_reducible rfl))
    try simp only [Act.put, List.setIfInBounds_toArray, List.set_cons_zero, List.set_cons_succ]
    refine wpAnyH_take (i := 7) (oi := ⟨_, _, _, _, _, _⟩) (v := ?vpy107) rfl (by kernel_rfl) (by kernel_rfl) (by kernel_rfl) (fun _ _ _ h => h) (Or.inl ⟨by rfl, ?hypy107⟩) hHeld ?_
    case hypy107 => (intro wS hSw; (try dsimp only at hSw); go_simp; (first | done | with_reducible rfl))
    try simp only [Act.put, List.setIfInBounds_toArray, List.set_cons_zero, List.set_cons_succ]
    refine wpAnyH_take (i := 10) (oi := ⟨_, _, _, _, _, _⟩) (v := ?vpy1010) rfl (by kernel_rfl) (by kernel_rfl) (by kernel_rfl) (fun _ _ _ h => h) (Or.inl ⟨by rfl, ?hypy1010⟩) hHeld ?_
    case hypy1010 => (intro wS hSw; (try dsimp only at hSw); go_simp; (first | done | with_reducible rfl))
    try simp only [Act.put, List.setIfInBounds_toArray, List.set_cons_zero, List.set_cons_succ]
    refine wpAnyH_take (i := 11) (oi := ⟨_, _, _, _, _, _⟩) (v := ?vpy1011) rfl (by kernel_rfl) (by kernel_rfl) (by kernel_rfl) (fun _ _ _ h => h) (Or.inl ⟨by rfl, ?hypy1011⟩) hHeld ?_
    case hypy1011 => (intro wS hSw; (try dsimp only at hSw); go_simp; (first | done | with_reducible rfl))
    try simp only [Act.put, List.setIfInBounds_toArray, List.set_cons_zero, List.set_cons_succ]
    refine wpAnyH_take (i := 13) (oi := ⟨_, _, _, _, _, _⟩) (v := ?vpy1013) rfl (by kernel_rfl) (by kernel_rfl) (by kernel_rfl) (fun _ _ _ h => h) (Or.inl ⟨by rfl, ?hypy1013⟩) hHeld ?_
    case hypy1013 => (intro wS hSw; (try dsimp only at hSw); go_simp; (first | done | with_reducible rfl))
    try simp only [Act.put, List.setIfInBounds_toArray, List.set_cons_zero, List.set_cons_succ]
    refine wpAnyH_take (i := 14) (oi := ⟨_, _, _, _, _, _⟩) (v := ?vpy1014) rfl (by kernel_rfl) (by kernel_rfl) (by kernel_rfl) (fun _ _ _ h => h) (Or.inl ⟨by rfl, ?hypy1014⟩) hHeld ?_
    case hypy1014 => (intro wS hSw; (try dsimp only at hSw); go_simp; (first | done | with_reducible rfl))
    try simp only [Act.put, List.setIfInBounds_toArray, List.set_cons_zero, List.set_cons_succ]
    refine wpAnyH_ready (rs := [8, 12]) (by kernel_rfl) (by simp) ?_
    refine AllReadyH.cons (o := ⟨_, _, _, _, _, _⟩) rfl (fun K hK => ?_) (AllReadyH.cons (o := ⟨_, _, _, _, _, _⟩) rfl (fun K hK => ?_) AllReadyH.nil)
    · have c1 : w8.cell? ⟨jb, 1, none⟩ = some (.int .i64 (J.area : Int)) := HB8.out.cell 1
      go_simp
      clear c1
      refine hK.out _ _ ?kpy10a8 (fun hNew => ?_)
      case kpy10a8 => (try dsimp only); exact ⟨cell_blk HH8.out 0, cell_blk HH8.out 1, cell_blk HH8.out 2, cell_blk HH8.out 3⟩
      clear hK K hHeld
      have hHeld := hNew
      clear hNew
      try simp only [Act.put, List.setIfInBounds_toArray, List.set_cons_zero, List.set_cons_succ]
      refine wpAnyH_take (i := 9) (oi := ⟨_, _, _, _, _, _⟩) (v := Value.int .i64 (1 - (J.area : Int))) rfl (by kernel_rfl) (by kernel_rfl) (by kernel_rfl) (fun _ _ _ h => h) (Or.inl ⟨by rfl, ?hypy10a9⟩) hHeld ?_
      case hypy10a9 => (intro wS hSw; (try dsimp only at hSw); go_simp; rw [HW2.out])
      try simp only [Act.put, List.setIfInBounds_toArray, List.set_cons_zero, List.set_cons_succ]
      refine wpAnyH_ready (rs := [12]) (by kernel_rfl) (by simp) ?_
      refine AllReadyH.cons (o := ⟨_, _, _, _, _, _⟩) rfl (fun K hK => ?_) AllReadyH.nil
      go_simp
      refine (clone_row A l n cap _ HNL.out.symm (by exact HA8.out.imp (fun h => h.2) id) (by have := HLM.out; have := HNL.out; omega)).mono ?_
      rintro e w9 ⟨y, rfl, hr9, hb9⟩
      obtain ⟨Ay, capy, rfl, _, _⟩ := row_len hr9
      have HR9 := Lib.hid hr9
      have HB9 : Hid (Below w8.heap.size w8 w9) := ⟨hb9.os, hb9.tape, hb9.output, hb9.size, hb9.block⟩
      clear hr9 hb9
      have HJ9 : Hid (JBlk w9 jb d J sv (.slice Ar J.recs.length capr)) := (HB9.out.block jb HB8.out.lt).trans HB8.out
      have HH9 : Hid (w9.heap[hb]? = _) := (HB9.out.block hb (Array.getElem?_eq_some_iff.1 HH8.out).1).trans HH8.out
      go_wp2_with fail
      refine hK.out _ _ ?kpy10a12 (fun hNew => ?_)
      case kpy10a12 => (try dsimp only); exact ⟨cell_blk HH9.out 0, cell_blk HH9.out 1, cell_blk HH9.out 2, cell_blk HH9.out 3⟩
      clear hK K hHeld
      have hHeld := hNew
      clear hNew
      try simp only [Act.put, List.setIfInBounds_toArray, List.set_cons_zero, List.set_cons_succ]
      refine wpAnyH_ready (rs := [15]) (by kernel_rfl) (by simp) ?_
      refine AllReadyH.cons (o := ⟨_, _, _, _, _, _⟩) rfl (fun K hK => ?_) AllReadyH.nil
      go_simp
      refine (count_at n (by have h1 := HLM.out; have h2 := HNL.out; omega) _).mono ?_
      rintro e wq ⟨rfl, hwq⟩
      have hwq := hwq.symm
      subst hwq
      go_wp2_with fail
      refine hK.out _ _ ?kpy10a15 (fun hNew => ?_)
      case kpy10a15 => (try dsimp only); exact ⟨cell_blk HH9.out 0, cell_blk HH9.out 1, cell_blk HH9.out 2, cell_blk HH9.out 3⟩
      clear hK K hHeld
      have hHeld := hNew
      clear hNew
      try simp only [Act.put, List.setIfInBounds_toArray, List.set_cons_zero, List.set_cons_succ]
      have k1 : w9.cell? ⟨jb, 1, none⟩ = some (.int .i64 (J.area : Int)) := HJ9.out.cell 1
      have k2 : w9.cell? ⟨jb, 2, none⟩ = some (.int .i64 (J.gen : Int)) := HJ9.out.cell 2
      have k3 : w9.cell? ⟨jb, 3, none⟩ = some (.int .i64 (J.op : Int)) := HJ9.out.cell 3
      have k4 : w9.cell? ⟨jb, 4, none⟩ = some (.int .i64 (J.first : Int)) := HJ9.out.cell 4
      have k5 : w9.cell? ⟨jb, 5, none⟩ = some (.int .i64 (J.size : Int)) := HJ9.out.cell 5
      have k6 : w9.cell? ⟨jb, 6, none⟩ = some (sv) := HJ9.out.cell 6
      have k7 : w9.cell? ⟨jb, 7, none⟩ = some (.slice Ar J.recs.length capr) := HJ9.out.cell 7
      have k8 : w9.cell? ⟨jb, 8, none⟩ = some (.int .i64 (J.used : Int)) := HJ9.out.cell 8
      have k9 : w9.cell? ⟨jb, 9, none⟩ = some (.int .i64 0) := HJ9.out.cell 9
      have kf : ∀ j, w9.frozen? ⟨jb, j, none⟩ = false := HJ9.out.free
      refine wpAnyH_take (i := 16) (oi := ⟨_, _, _, _, _, _⟩) (v := ?vpy10a16) rfl (by kernel_rfl) (by kernel_rfl) (by kernel_rfl) (fun _ _ _ h => h) (Or.inl ⟨by rfl, ?hypy10a16⟩) hHeld ?_
      case hypy10a16 => (intro wS hSw; (try dsimp only at hSw); go_simp; (first | done | with_reducible rfl))
      try simp only [Act.put, List.setIfInBounds_toArray, List.set_cons_zero, List.set_cons_succ]
      refine wpAnyH_take (i := 17) (oi := ⟨_, _, _, _, _, _⟩) (v := ?vpy10a17) rfl (by kernel_rfl) (by kernel_rfl) (by kernel_rfl) (fun _ _ _ h => h) (Or.inl ⟨by rfl, ?hypy10a17⟩) hHeld ?_
      case hypy10a17 => (intro wS hSw; (try dsimp only at hSw); go_simp; (first | done | with_reducible rfl))
      try simp only [Act.put, List.setIfInBounds_toArray, List.set_cons_zero, List.set_cons_succ]
      refine wpAnyH_ready (rs := [18]) (by kernel_rfl) (by simp) ?_
      refine AllReadyH.cons (o := ⟨_, _, _, _, _, _⟩) rfl (fun K hK => ?_) AllReadyH.nil
      go_simp
      refine hK.out _ _ ?kpy10a18 (fun hNew => ?_)
      case kpy10a18 => (try dsimp only); exact ⟨cell_blk (C := HC4 ((J.gen : Int) + 1) (J.op : Int) ((J.first : Int) + (J.recs.length : Int)) (n : Int)) (t := 54) (keepH (HH9.out) HHB2.out) 0, cell_blk (C := HC4 ((J.gen : Int) + 1) (J.op : Int) ((J.first : Int) + (J.recs.length : Int)) (n : Int)) (t := 54) (keepH (HH9.out) HHB2.out) 1, cell_blk (C := HC4 ((J.gen : Int) + 1) (J.op : Int) ((J.first : Int) + (J.recs.length : Int)) (n : Int)) (t := 54) (keepH (HH9.out) HHB2.out) 2, cell_blk (C := HC4 ((J.gen : Int) + 1) (J.op : Int) ((J.first : Int) + (J.recs.length : Int)) (n : Int)) (t := 54) (keepH (HH9.out) HHB2.out) 3⟩
      clear hK K hHeld
      have hHeld := hNew
      clear hNew
      try simp only [Act.put, List.setIfInBounds_toArray, List.set_cons_zero, List.set_cons_succ]
      refine wpAnyH_take (i := 19) (oi := ⟨_, _, _, _, _, _⟩) (v := ?vpy10a19) rfl (by kernel_rfl) (by kernel_rfl) (by kernel_rfl) (fun _ _ _ h => h) (Or.inl ⟨by rfl, ?hypy10a19⟩) hHeld ?_
      case hypy10a19 => (intro wS hSw; (try dsimp only at hSw); go_simp; (first | done | with_reducible rfl))
      try simp only [Act.put, List.setIfInBounds_toArray, List.set_cons_zero, List.set_cons_succ]
      refine wpAnyH_take (i := 20) (oi := ⟨_, _, _, _, _, _⟩) (v := ?vpy10a20) rfl (by kernel_rfl) (by kernel_rfl) (by kernel_rfl) (fun _ _ _ h => h) (Or.inl ⟨by rfl, ?hypy10a20⟩) hHeld ?_
      case hypy10a20 => (intro wS hSw; (try dsimp only at hSw); go_simp; (first | done | with_reducible rfl))
      try simp only [Act.put, List.setIfInBounds_toArray, List.set_cons_zero, List.set_cons_succ]
      refine wpAnyH_ready (rs := [21]) (by kernel_rfl) (by simp) ?_
      refine AllReadyH.cons (o := ⟨_, _, _, _, _, _⟩) rfl (fun K hK => ?_) AllReadyH.nil
      go_simp
      refine hK.out _ _ ?kpy10a21 (fun hNew => ?_)
      case kpy10a21 => (try dsimp only); exact ⟨cell_blk (C := HC4 ((J.gen : Int) + 1) (J.op : Int) ((J.first : Int) + (J.recs.length : Int)) (n : Int)) (t := 54) (keepH (keepH (keepH (keepH (keepH (HH9.out) HHB2.out) HHB2.out) HHB2.out) HHB2.out) HHB2.out) 0, cell_blk (C := HC4 ((J.gen : Int) + 1) (J.op : Int) ((J.first : Int) + (J.recs.length : Int)) (n : Int)) (t := 54) (keepH (keepH (keepH (keepH (keepH (HH9.out) HHB2.out) HHB2.out) HHB2.out) HHB2.out) HHB2.out) 1, cell_blk (C := HC4 ((J.gen : Int) + 1) (J.op : Int) ((J.first : Int) + (J.recs.length : Int)) (n : Int)) (t := 54) (keepH (keepH (keepH (keepH (keepH (HH9.out) HHB2.out) HHB2.out) HHB2.out) HHB2.out) HHB2.out) 2, cell_blk (C := HC4 ((J.gen : Int) + 1) (J.op : Int) ((J.first : Int) + (J.recs.length : Int)) (n : Int)) (t := 54) (keepH (keepH (keepH (keepH (keepH (HH9.out) HHB2.out) HHB2.out) HHB2.out) HHB2.out) HHB2.out) 3⟩
      clear hK K hHeld
      have hHeld := hNew
      clear hNew
      try simp only [Act.put, List.setIfInBounds_toArray, List.set_cons_zero, List.set_cons_succ]
      refine wpAnyH_take (i := 22) (oi := ⟨_, _, _, _, _, _⟩) (v := ?vpy10a22) rfl (by kernel_rfl) (by kernel_rfl) (by kernel_rfl) (fun _ _ _ h => h) (Or.inl ⟨by rfl, ?hypy10a22⟩) hHeld ?_
      case hypy10a22 => (intro wS hSw; (try dsimp only at hSw); go_simp; (first | done | with_reducible rfl))
      try simp only [Act.put, List.setIfInBounds_toArray, List.set_cons_zero, List.set_cons_succ]
      refine wpAnyH_take (i := 23) (oi := ⟨_, _, _, _, _, _⟩) (v := ?vpy10a23) rfl (by kernel_rfl) (by kernel_rfl) (by kernel_rfl) (fun _ _ _ h => h) (Or.inl ⟨by rfl, ?hypy10a23⟩) hHeld ?_
      case hypy10a23 => (intro wS hSw; (try dsimp only at hSw); go_simp; (first | done | with_reducible rfl))
      try simp only [Act.put, List.setIfInBounds_toArray, List.set_cons_zero, List.set_cons_succ]
      refine wpAnyH_ready (rs := [24]) (by kernel_rfl) (by simp) ?_
      refine AllReadyH.cons (o := ⟨_, _, _, _, _, _⟩) rfl (fun K hK => ?_) AllReadyH.nil
      go_simp
      refine hK.out _ _ ?kpy10a24 (fun hNew => ?_)
      case kpy10a24 => (try dsimp only); exact ⟨cell_blk (C := HC4 ((J.gen : Int) + 1) (J.op : Int) ((J.first : Int) + (J.recs.length : Int)) (n : Int)) (t := 54) (keepH (keepH (keepH (keepH (keepH (keepH (HH9.out) HHB2.out) HHB2.out) HHB2.out) HHB2.out) HHB2.out) HHB2.out) 0, cell_blk (C := HC4 ((J.gen : Int) + 1) (J.op : Int) ((J.first : Int) + (J.recs.length : Int)) (n : Int)) (t := 54) (keepH (keepH (keepH (keepH (keepH (keepH (HH9.out) HHB2.out) HHB2.out) HHB2.out) HHB2.out) HHB2.out) HHB2.out) 1, cell_blk (C := HC4 ((J.gen : Int) + 1) (J.op : Int) ((J.first : Int) + (J.recs.length : Int)) (n : Int)) (t := 54) (keepH (keepH (keepH (keepH (keepH (keepH (HH9.out) HHB2.out) HHB2.out) HHB2.out) HHB2.out) HHB2.out) HHB2.out) 2, cell_blk (C := HC4 ((J.gen : Int) + 1) (J.op : Int) ((J.first : Int) + (J.recs.length : Int)) (n : Int)) (t := 54) (keepH (keepH (keepH (keepH (keepH (keepH (HH9.out) HHB2.out) HHB2.out) HHB2.out) HHB2.out) HHB2.out) HHB2.out) 3⟩
      clear hK K hHeld
      have hHeld := hNew
      clear hNew
      try simp only [Act.put, List.setIfInBounds_toArray, List.set_cons_zero, List.set_cons_succ]
      refine wpAnyH_take (i := 25) (oi := ⟨_, _, _, _, _, _⟩) (v := ?vpy10a25) rfl (by kernel_rfl) (by kernel_rfl) (by kernel_rfl) (fun _ _ _ h => h) (Or.inl ⟨by rfl, ?hypy10a25⟩) hHeld ?_
      case hypy10a25 => (intro wS hSw; (try dsimp only at hSw); go_simp; (first | done | with_reducible rfl))
      try simp only [Act.put, List.setIfInBounds_toArray, List.set_cons_zero, List.set_cons_succ]
      refine wpAnyH_take (i := 26) (oi := ⟨_, _, _, _, _, _⟩) (v := ?vpy10a26) rfl (by kernel_rfl) (by kernel_rfl) (by kernel_rfl) (fun _ _ _ h => h) (Or.inl ⟨by rfl, ?hypy10a26⟩) hHeld ?_
      case hypy10a26 => (intro wS hSw; (try dsimp only at hSw); go_simp; (first | done | with_reducible rfl))
      try simp only [Act.put, List.setIfInBounds_toArray, List.set_cons_zero, List.set_cons_succ]
      refine wpAnyH_ready (rs := [27]) (by kernel_rfl) (by simp) ?_
      refine AllReadyH.cons (o := ⟨_, _, _, _, _, _⟩) rfl (fun K hK => ?_) AllReadyH.nil
      go_simp
      refine hK.out _ _ ?kpy10a27 (fun hNew => ?_)
      case kpy10a27 => (try dsimp only); exact ⟨cell_blk (C := HC4 ((J.gen : Int) + 1) (J.op : Int) ((J.first : Int) + (J.recs.length : Int)) (n : Int)) (t := 54) (keepH (keepH (keepH (keepH (keepH (keepH (keepH (HH9.out) HHB2.out) HHB2.out) HHB2.out) HHB2.out) HHB2.out) HHB2.out) HHB2.out) 0, cell_blk (C := HC4 ((J.gen : Int) + 1) (J.op : Int) ((J.first : Int) + (J.recs.length : Int)) (n : Int)) (t := 54) (keepH (keepH (keepH (keepH (keepH (keepH (keepH (HH9.out) HHB2.out) HHB2.out) HHB2.out) HHB2.out) HHB2.out) HHB2.out) HHB2.out) 1, cell_blk (C := HC4 ((J.gen : Int) + 1) (J.op : Int) ((J.first : Int) + (J.recs.length : Int)) (n : Int)) (t := 54) (keepH (keepH (keepH (keepH (keepH (keepH (keepH (HH9.out) HHB2.out) HHB2.out) HHB2.out) HHB2.out) HHB2.out) HHB2.out) HHB2.out) 2, cell_blk (C := HC4 ((J.gen : Int) + 1) (J.op : Int) ((J.first : Int) + (J.recs.length : Int)) (n : Int)) (t := 54) (keepH (keepH (keepH (keepH (keepH (keepH (keepH (HH9.out) HHB2.out) HHB2.out) HHB2.out) HHB2.out) HHB2.out) HHB2.out) HHB2.out) 3⟩
      clear hK K hHeld
      have hHeld := hNew
      clear hNew
      try simp only [Act.put, List.setIfInBounds_toArray, List.set_cons_zero, List.set_cons_succ]
      refine wpAnyH_take (i := 28) (oi := ⟨_, _, _, _, _, _⟩) (v := ?vpy10a28) rfl (by kernel_rfl) (by kernel_rfl) (by kernel_rfl) (fun _ _ _ h => h) (Or.inl ⟨by rfl, ?hypy10a28⟩) hHeld ?_
      case hypy10a28 => (intro wS hSw; (try dsimp only at hSw); go_simp; (first | done | with_reducible rfl))
      try simp only [Act.put, List.setIfInBounds_toArray, List.set_cons_zero, List.set_cons_succ]
      refine wpAnyH_take (i := 29) (oi := ⟨_, _, _, _, _, _⟩) (v := ?vpy10a29) rfl (by kernel_rfl) (by kernel_rfl) (by kernel_rfl) (fun _ _ _ h => h) (Or.inl ⟨by rfl, ?hypy10a29⟩) hHeld ?_
      case hypy10a29 => (intro wS hSw; (try dsimp only at hSw); go_simp; (first | done | with_reducible rfl))
      try simp only [Act.put, List.setIfInBounds_toArray, List.set_cons_zero, List.set_cons_succ]
      refine wpAnyH_ready (rs := [30]) (by kernel_rfl) (by simp) ?_
      refine AllReadyH.cons (o := ⟨_, _, _, _, _, _⟩) rfl (fun K hK => ?_) AllReadyH.nil
      go_simp
      refine hK.out _ _ ?kpy10a30 (fun hNew => ?_)
      case kpy10a30 => (try dsimp only); exact ⟨cell_blk (C := HC4 ((J.gen : Int) + 1) (J.op : Int) ((J.first : Int) + (J.recs.length : Int)) (n : Int)) (t := 54) (keepH (keepH (keepH (keepH (keepH (keepH (keepH (keepH (HH9.out) HHB2.out) HHB2.out) HHB2.out) HHB2.out) HHB2.out) HHB2.out) HHB2.out) HHB2.out) 0, cell_blk (C := HC4 ((J.gen : Int) + 1) (J.op : Int) ((J.first : Int) + (J.recs.length : Int)) (n : Int)) (t := 54) (keepH (keepH (keepH (keepH (keepH (keepH (keepH (keepH (HH9.out) HHB2.out) HHB2.out) HHB2.out) HHB2.out) HHB2.out) HHB2.out) HHB2.out) HHB2.out) 1, cell_blk (C := HC4 ((J.gen : Int) + 1) (J.op : Int) ((J.first : Int) + (J.recs.length : Int)) (n : Int)) (t := 54) (keepH (keepH (keepH (keepH (keepH (keepH (keepH (keepH (HH9.out) HHB2.out) HHB2.out) HHB2.out) HHB2.out) HHB2.out) HHB2.out) HHB2.out) HHB2.out) 2, cell_blk (C := HC4 ((J.gen : Int) + 1) (J.op : Int) ((J.first : Int) + (J.recs.length : Int)) (n : Int)) (t := 54) (keepH (keepH (keepH (keepH (keepH (keepH (keepH (keepH (HH9.out) HHB2.out) HHB2.out) HHB2.out) HHB2.out) HHB2.out) HHB2.out) HHB2.out) HHB2.out) 3⟩
      clear hK K hHeld
      have hHeld := hNew
      clear hNew
      try simp only [Act.put, List.setIfInBounds_toArray, List.set_cons_zero, List.set_cons_succ]
      refine wpAnyH_done (by kernel_rfl) ?_ _
      refine NoPanic.normal ?_
      clear hHeld
      go_wp2_with fail
      go_ret
      refine ⟨rfl, ?_⟩
      have hx : putC w9 jb ((1 - J.area : Nat) : Int) ((J.gen + 1 : Nat) : Int) (J.op : Int) ((J.first + J.recs.length : Nat) : Int) (l.length : Int) (.slice Ay l.length capy) (parts l.length : Int) = putC w9 jb (1 - (J.area : Int)) ((J.gen : Int) + 1) (J.op : Int) ((J.first : Int) + (J.recs.length : Int)) (n : Int) (.slice Ay l.length capy) (parts n : Int) := by
        rw [← HNL.out, show ((1 - J.area : Nat) : Int) = 1 - (J.area : Int) by have := HAR.out; omega, Int.natCast_add, Int.natCast_add]
        rfl
      clear k1 k2 k3 k4 k5 k6 k7 k8 k9 kf
      exact ck_end HI.out HG6.out HO7.out HO8.out HB9.out (by exact HR9.out) HSS.out HS7.out HS8.out HD8.out (by rw [hx]; exact ⟨rfl, rfl, rfl, Nat.le_refl _, fun _ _ _ => rfl⟩)
    · go_simp
      refine (clone_row A l n cap _ HNL.out.symm (by exact HA8.out.imp (fun h => h.2) id) (by have := HLM.out; have := HNL.out; omega)).mono ?_
      rintro e w9 ⟨y, rfl, hr9, hb9⟩
      obtain ⟨Ay, capy, rfl, _, _⟩ := row_len hr9
      have HR9 := Lib.hid hr9
      have HB9 : Hid (Below w8.heap.size w8 w9) := ⟨hb9.os, hb9.tape, hb9.output, hb9.size, hb9.block⟩
      clear hr9 hb9
      have HJ9 : Hid (JBlk w9 jb d J sv (.slice Ar J.recs.length capr)) := (HB9.out.block jb HB8.out.lt).trans HB8.out
      have HH9 : Hid (w9.heap[hb]? = _) := (HB9.out.block hb (Array.getElem?_eq_some_iff.1 HH8.out).1).trans HH8.out
      go_wp2_with fail
      refine hK.out _ _ ?kpy10b12 (fun hNew => ?_)
      case kpy10b12 => (try dsimp only); exact ⟨cell_blk HH9.out 0, cell_blk HH9.out 1, cell_blk HH9.out 2, cell_blk HH9.out 3⟩
      clear hK K hHeld
      have hHeld := hNew
      clear hNew
      try simp only [Act.put, List.setIfInBounds_toArray, List.set_cons_zero, List.set_cons_succ]
      refine wpAnyH_ready (rs := [8, 15]) (by kernel_rfl) (by simp) ?_
      refine AllReadyH.cons (o := ⟨_, _, _, _, _, _⟩) rfl (fun K hK => ?_) (AllReadyH.cons (o := ⟨_, _, _, _, _, _⟩) rfl (fun K hK => ?_) AllReadyH.nil)
      · have c1 : w9.cell? ⟨jb, 1, none⟩ = some (.int .i64 (J.area : Int)) := HJ9.out.cell 1
        go_simp
        clear c1
        refine hK.out _ _ ?kpy10c8 (fun hNew => ?_)
        case kpy10c8 => (try dsimp only); exact ⟨cell_blk HH9.out 0, cell_blk HH9.out 1, cell_blk HH9.out 2, cell_blk HH9.out 3⟩
        clear hK K hHeld
        have hHeld := hNew
        clear hNew
        try simp only [Act.put, List.setIfInBounds_toArray, List.set_cons_zero, List.set_cons_succ]
        refine wpAnyH_take (i := 9) (oi := ⟨_, _, _, _, _, _⟩) (v := Value.int .i64 (1 - (J.area : Int))) rfl (by kernel_rfl) (by kernel_rfl) (by kernel_rfl) (fun _ _ _ h => h) (Or.inl ⟨by rfl, ?hypy10c9⟩) hHeld ?_
        case hypy10c9 => (intro wS hSw; (try dsimp only at hSw); go_simp; rw [HW2.out])
        try simp only [Act.put, List.setIfInBounds_toArray, List.set_cons_zero, List.set_cons_succ]
        refine wpAnyH_ready (rs := [15]) (by kernel_rfl) (by simp) ?_
        refine AllReadyH.cons (o := ⟨_, _, _, _, _, _⟩) rfl (fun K hK => ?_) AllReadyH.nil
        go_simp
        refine (count_at n (by have h1 := HLM.out; have h2 := HNL.out; omega) _).mono ?_
        rintro e wq ⟨rfl, hwq⟩
        have hwq := hwq.symm
        subst hwq
        go_wp2_with fail
        refine hK.out _ _ ?kpy10c15 (fun hNew => ?_)
        case kpy10c15 => (try dsimp only); exact ⟨cell_blk HH9.out 0, cell_blk HH9.out 1, cell_blk HH9.out 2, cell_blk HH9.out 3⟩
        clear hK K hHeld
        have hHeld := hNew
        clear hNew
        try simp only [Act.put, List.setIfInBounds_toArray, List.set_cons_zero, List.set_cons_succ]
        have k1 : w9.cell? ⟨jb, 1, none⟩ = some (.int .i64 (J.area : Int)) := HJ9.out.cell 1
        have k2 : w9.cell? ⟨jb, 2, none⟩ = some (.int .i64 (J.gen : Int)) := HJ9.out.cell 2
        have k3 : w9.cell? ⟨jb, 3, none⟩ = some (.int .i64 (J.op : Int)) := HJ9.out.cell 3
        have k4 : w9.cell? ⟨jb, 4, none⟩ = some (.int .i64 (J.first : Int)) := HJ9.out.cell 4
        have k5 : w9.cell? ⟨jb, 5, none⟩ = some (.int .i64 (J.size : Int)) := HJ9.out.cell 5
        have k6 : w9.cell? ⟨jb, 6, none⟩ = some (sv) := HJ9.out.cell 6
        have k7 : w9.cell? ⟨jb, 7, none⟩ = some (.slice Ar J.recs.length capr) := HJ9.out.cell 7
        have k8 : w9.cell? ⟨jb, 8, none⟩ = some (.int .i64 (J.used : Int)) := HJ9.out.cell 8
        have k9 : w9.cell? ⟨jb, 9, none⟩ = some (.int .i64 0) := HJ9.out.cell 9
        have kf : ∀ j, w9.frozen? ⟨jb, j, none⟩ = false := HJ9.out.free
        refine wpAnyH_take (i := 16) (oi := ⟨_, _, _, _, _, _⟩) (v := ?vpy10c16) rfl (by kernel_rfl) (by kernel_rfl) (by kernel_rfl) (fun _ _ _ h => h) (Or.inl ⟨by rfl, ?hypy10c16⟩) hHeld ?_
        case hypy10c16 => (intro wS hSw; (try dsimp only at hSw); go_simp; (first | done | with_reducible rfl))
        try simp only [Act.put, List.setIfInBounds_toArray, List.set_cons_zero, List.set_cons_succ]
        refine wpAnyH_take (i := 17) (oi := ⟨_, _, _, _, _, _⟩) (v := ?vpy10c17) rfl (by kernel_rfl) (by kernel_rfl) (by kernel_rfl) (fun _ _ _ h => h) (Or.inl ⟨by rfl, ?hypy10c17⟩) hHeld ?_
        case hypy10c17 => (intro wS hSw; (try dsimp only at hSw); go_simp; (first | done | with_reducible rfl))
        try simp only [Act.put, List.setIfInBounds_toArray, List.set_cons_zero, List.set_cons_succ]
        refine wpAnyH_ready (rs := [18]) (by kernel_rfl) (by simp) ?_
        refine AllReadyH.cons (o := ⟨_, _, _, _, _, _⟩) rfl (fun K hK => ?_) AllReadyH.nil
        go_simp
        refine hK.out _ _ ?kpy10c18 (fun hNew => ?_)
        case kpy10c18 => (try dsimp only); exact ⟨cell_blk (C := HC4 ((J.gen : Int) + 1) (J.op : Int) ((J.first : Int) + (J.recs.length : Int)) (n : Int)) (t := 54) (keepH (HH9.out) HHB2.out) 0, cell_blk (C := HC4 ((J.gen : Int) + 1) (J.op : Int) ((J.first : Int) + (J.recs.length : Int)) (n : Int)) (t := 54) (keepH (HH9.out) HHB2.out) 1, cell_blk (C := HC4 ((J.gen : Int) + 1) (J.op : Int) ((J.first : Int) + (J.recs.length : Int)) (n : Int)) (t := 54) (keepH (HH9.out) HHB2.out) 2, cell_blk (C := HC4 ((J.gen : Int) + 1) (J.op : Int) ((J.first : Int) + (J.recs.length : Int)) (n : Int)) (t := 54) (keepH (HH9.out) HHB2.out) 3⟩
        clear hK K hHeld
        have hHeld := hNew
        clear hNew
        try simp only [Act.put, List.setIfInBounds_toArray, List.set_cons_zero, List.set_cons_succ]
        refine wpAnyH_take (i := 19) (oi := ⟨_, _, _, _, _, _⟩) (v := ?vpy10c19) rfl (by kernel_rfl) (by kernel_rfl) (by kernel_rfl) (fun _ _ _ h => h) (Or.inl ⟨by rfl, ?hypy10c19⟩) hHeld ?_
        case hypy10c19 => (intro wS hSw; (try dsimp only at hSw); go_simp; (first | done | with_reducible rfl))
        try simp only [Act.put, List.setIfInBounds_toArray, List.set_cons_zero, List.set_cons_succ]
        refine wpAnyH_take (i := 20) (oi := ⟨_, _, _, _, _, _⟩) (v := ?vpy10c20) rfl (by kernel_rfl) (by kernel_rfl) (by kernel_rfl) (fun _ _ _ h => h) (Or.inl ⟨by rfl, ?hypy10c20⟩) hHeld ?_
        case hypy10c20 => (intro wS hSw; (try dsimp only at hSw); go_simp; (first | done | with_reducible rfl))
        try simp only [Act.put, List.setIfInBounds_toArray, List.set_cons_zero, List.set_cons_succ]
        refine wpAnyH_ready (rs := [21]) (by kernel_rfl) (by simp) ?_
        refine AllReadyH.cons (o := ⟨_, _, _, _, _, _⟩) rfl (fun K hK => ?_) AllReadyH.nil
        go_simp
        refine hK.out _ _ ?kpy10c21 (fun hNew => ?_)
        case kpy10c21 => (try dsimp only); exact ⟨cell_blk (C := HC4 ((J.gen : Int) + 1) (J.op : Int) ((J.first : Int) + (J.recs.length : Int)) (n : Int)) (t := 54) (keepH (keepH (keepH (keepH (keepH (HH9.out) HHB2.out) HHB2.out) HHB2.out) HHB2.out) HHB2.out) 0, cell_blk (C := HC4 ((J.gen : Int) + 1) (J.op : Int) ((J.first : Int) + (J.recs.length : Int)) (n : Int)) (t := 54) (keepH (keepH (keepH (keepH (keepH (HH9.out) HHB2.out) HHB2.out) HHB2.out) HHB2.out) HHB2.out) 1, cell_blk (C := HC4 ((J.gen : Int) + 1) (J.op : Int) ((J.first : Int) + (J.recs.length : Int)) (n : Int)) (t := 54) (keepH (keepH (keepH (keepH (keepH (HH9.out) HHB2.out) HHB2.out) HHB2.out) HHB2.out) HHB2.out) 2, cell_blk (C := HC4 ((J.gen : Int) + 1) (J.op : Int) ((J.first : Int) + (J.recs.length : Int)) (n : Int)) (t := 54) (keepH (keepH (keepH (keepH (keepH (HH9.out) HHB2.out) HHB2.out) HHB2.out) HHB2.out) HHB2.out) 3⟩
        clear hK K hHeld
        have hHeld := hNew
        clear hNew
        try simp only [Act.put, List.setIfInBounds_toArray, List.set_cons_zero, List.set_cons_succ]
        refine wpAnyH_take (i := 22) (oi := ⟨_, _, _, _, _, _⟩) (v := ?vpy10c22) rfl (by kernel_rfl) (by kernel_rfl) (by kernel_rfl) (fun _ _ _ h => h) (Or.inl ⟨by rfl, ?hypy10c22⟩) hHeld ?_
        case hypy10c22 => (intro wS hSw; (try dsimp only at hSw); go_simp; (first | done | with_reducible rfl))
        try simp only [Act.put, List.setIfInBounds_toArray, List.set_cons_zero, List.set_cons_succ]
        refine wpAnyH_take (i := 23) (oi := ⟨_, _, _, _, _, _⟩) (v := ?vpy10c23) rfl (by kernel_rfl) (by kernel_rfl) (by kernel_rfl) (fun _ _ _ h => h) (Or.inl ⟨by rfl, ?hypy10c23⟩) hHeld ?_
        case hypy10c23 => (intro wS hSw; (try dsimp only at hSw); go_simp; (first | done | with_reducible rfl))
        try simp only [Act.put, List.setIfInBounds_toArray, List.set_cons_zero, List.set_cons_succ]
        refine wpAnyH_ready (rs := [24]) (by kernel_rfl) (by simp) ?_
        refine AllReadyH.cons (o := ⟨_, _, _, _, _, _⟩) rfl (fun K hK => ?_) AllReadyH.nil
        go_simp
        refine hK.out _ _ ?kpy10c24 (fun hNew => ?_)
        case kpy10c24 => (try dsimp only); exact ⟨cell_blk (C := HC4 ((J.gen : Int) + 1) (J.op : Int) ((J.first : Int) + (J.recs.length : Int)) (n : Int)) (t := 54) (keepH (keepH (keepH (keepH (keepH (keepH (HH9.out) HHB2.out) HHB2.out) HHB2.out) HHB2.out) HHB2.out) HHB2.out) 0, cell_blk (C := HC4 ((J.gen : Int) + 1) (J.op : Int) ((J.first : Int) + (J.recs.length : Int)) (n : Int)) (t := 54) (keepH (keepH (keepH (keepH (keepH (keepH (HH9.out) HHB2.out) HHB2.out) HHB2.out) HHB2.out) HHB2.out) HHB2.out) 1, cell_blk (C := HC4 ((J.gen : Int) + 1) (J.op : Int) ((J.first : Int) + (J.recs.length : Int)) (n : Int)) (t := 54) (keepH (keepH (keepH (keepH (keepH (keepH (HH9.out) HHB2.out) HHB2.out) HHB2.out) HHB2.out) HHB2.out) HHB2.out) 2, cell_blk (C := HC4 ((J.gen : Int) + 1) (J.op : Int) ((J.first : Int) + (J.recs.length : Int)) (n : Int)) (t := 54) (keepH (keepH (keepH (keepH (keepH (keepH (HH9.out) HHB2.out) HHB2.out) HHB2.out) HHB2.out) HHB2.out) HHB2.out) 3⟩
        clear hK K hHeld
        have hHeld := hNew
        clear hNew
        try simp only [Act.put, List.setIfInBounds_toArray, List.set_cons_zero, List.set_cons_succ]
        refine wpAnyH_take (i := 25) (oi := ⟨_, _, _, _, _, _⟩) (v := ?vpy10c25) rfl (by kernel_rfl) (by kernel_rfl) (by kernel_rfl) (fun _ _ _ h => h) (Or.inl ⟨by rfl, ?hypy10c25⟩) hHeld ?_
        case hypy10c25 => (intro wS hSw; (try dsimp only at hSw); go_simp; (first | done | with_reducible rfl))
        try simp only [Act.put, List.setIfInBounds_toArray, List.set_cons_zero, List.set_cons_succ]
        refine wpAnyH_take (i := 26) (oi := ⟨_, _, _, _, _, _⟩) (v := ?vpy10c26) rfl (by kernel_rfl) (by kernel_rfl) (by kernel_rfl) (fun _ _ _ h => h) (Or.inl ⟨by rfl, ?hypy10c26⟩) hHeld ?_
        case hypy10c26 => (intro wS hSw; (try dsimp only at hSw); go_simp; (first | done | with_reducible rfl))
        try simp only [Act.put, List.setIfInBounds_toArray, List.set_cons_zero, List.set_cons_succ]
        refine wpAnyH_ready (rs := [27]) (by kernel_rfl) (by simp) ?_
        refine AllReadyH.cons (o := ⟨_, _, _, _, _, _⟩) rfl (fun K hK => ?_) AllReadyH.nil
        go_simp
        refine hK.out _ _ ?kpy10c27 (fun hNew => ?_)
        case kpy10c27 => (try dsimp only); exact ⟨cell_blk (C := HC4 ((J.gen : Int) + 1) (J.op : Int) ((J.first : Int) + (J.recs.length : Int)) (n : Int)) (t := 54) (keepH (keepH (keepH (keepH (keepH (keepH (keepH (HH9.out) HHB2.out) HHB2.out) HHB2.out) HHB2.out) HHB2.out) HHB2.out) HHB2.out) 0, cell_blk (C := HC4 ((J.gen : Int) + 1) (J.op : Int) ((J.first : Int) + (J.recs.length : Int)) (n : Int)) (t := 54) (keepH (keepH (keepH (keepH (keepH (keepH (keepH (HH9.out) HHB2.out) HHB2.out) HHB2.out) HHB2.out) HHB2.out) HHB2.out) HHB2.out) 1, cell_blk (C := HC4 ((J.gen : Int) + 1) (J.op : Int) ((J.first : Int) + (J.recs.length : Int)) (n : Int)) (t := 54) (keepH (keepH (keepH (keepH (keepH (keepH (keepH (HH9.out) HHB2.out) HHB2.out) HHB2.out) HHB2.out) HHB2.out) HHB2.out) HHB2.out) 2, cell_blk (C := HC4 ((J.gen : Int) + 1) (J.op : Int) ((J.first : Int) + (J.recs.length : Int)) (n : Int)) (t := 54) (keepH (keepH (keepH (keepH (keepH (keepH (keepH (HH9.out) HHB2.out) HHB2.out) HHB2.out) HHB2.out) HHB2.out) HHB2.out) HHB2.out) 3⟩
        clear hK K hHeld
        have hHeld := hNew
        clear hNew
        try simp only [Act.put, List.setIfInBounds_toArray, List.set_cons_zero, List.set_cons_succ]
        refine wpAnyH_take (i := 28) (oi := ⟨_, _, _, _, _, _⟩) (v := ?vpy10c28) rfl (by kernel_rfl) (by kernel_rfl) (by kernel_rfl) (fun _ _ _ h => h) (Or.inl ⟨by rfl, ?hypy10c28⟩) hHeld ?_
        case hypy10c28 => (intro wS hSw; (try dsimp only at hSw); go_simp; (first | done | with_reducible rfl))
        try simp only [Act.put, List.setIfInBounds_toArray, List.set_cons_zero, List.set_cons_succ]
        refine wpAnyH_take (i := 29) (oi := ⟨_, _, _, _, _, _⟩) (v := ?vpy10c29) rfl (by kernel_rfl) (by kernel_rfl) (by kernel_rfl) (fun _ _ _ h => h) (Or.inl ⟨by rfl, ?hypy10c29⟩) hHeld ?_
        case hypy10c29 => (intro wS hSw; (try dsimp only at hSw); go_simp; (first | done | with_reducible rfl))
        try simp only [Act.put, List.setIfInBounds_toArray, List.set_cons_zero, List.set_cons_succ]
        refine wpAnyH_ready (rs := [30]) (by kernel_rfl) (by simp) ?_
        refine AllReadyH.cons (o := ⟨_, _, _, _, _, _⟩) rfl (fun K hK => ?_) AllReadyH.nil
        go_simp
        refine hK.out _ _ ?kpy10c30 (fun hNew => ?_)
        case kpy10c30 => (try dsimp only); exact ⟨cell_blk (C := HC4 ((J.gen : Int) + 1) (J.op : Int) ((J.first : Int) + (J.recs.length : Int)) (n : Int)) (t := 54) (keepH (keepH (keepH (keepH (keepH (keepH (keepH (keepH (HH9.out) HHB2.out) HHB2.out) HHB2.out) HHB2.out) HHB2.out) HHB2.out) HHB2.out) HHB2.out) 0, cell_blk (C := HC4 ((J.gen : Int) + 1) (J.op : Int) ((J.first : Int) + (J.recs.length : Int)) (n : Int)) (t := 54) (keepH (keepH (keepH (keepH (keepH (keepH (keepH (keepH (HH9.out) HHB2.out) HHB2.out) HHB2.out) HHB2.out) HHB2.out) HHB2.out) HHB2.out) HHB2.out) 1, cell_blk (C := HC4 ((J.gen : Int) + 1) (J.op : Int) ((J.first : Int) + (J.recs.length : Int)) (n : Int)) (t := 54) (keepH (keepH (keepH (keepH (keepH (keepH (keepH (keepH (HH9.out) HHB2.out) HHB2.out) HHB2.out) HHB2.out) HHB2.out) HHB2.out) HHB2.out) HHB2.out) 2, cell_blk (C := HC4 ((J.gen : Int) + 1) (J.op : Int) ((J.first : Int) + (J.recs.length : Int)) (n : Int)) (t := 54) (keepH (keepH (keepH (keepH (keepH (keepH (keepH (keepH (HH9.out) HHB2.out) HHB2.out) HHB2.out) HHB2.out) HHB2.out) HHB2.out) HHB2.out) HHB2.out) 3⟩
        clear hK K hHeld
        have hHeld := hNew
        clear hNew
        try simp only [Act.put, List.setIfInBounds_toArray, List.set_cons_zero, List.set_cons_succ]
        refine wpAnyH_done (by kernel_rfl) ?_ _
        refine NoPanic.normal ?_
        clear hHeld
        go_wp2_with fail
        go_ret
        refine ⟨rfl, ?_⟩
        have hx : putC w9 jb ((1 - J.area : Nat) : Int) ((J.gen + 1 : Nat) : Int) (J.op : Int) ((J.first + J.recs.length : Nat) : Int) (l.length : Int) (.slice Ay l.length capy) (parts l.length : Int) = putC w9 jb (1 - (J.area : Int)) ((J.gen : Int) + 1) (J.op : Int) ((J.first : Int) + (J.recs.length : Int)) (n : Int) (.slice Ay l.length capy) (parts n : Int) := by
          rw [← HNL.out, show ((1 - J.area : Nat) : Int) = 1 - (J.area : Int) by have := HAR.out; omega, Int.natCast_add, Int.natCast_add]
          rfl
        clear k1 k2 k3 k4 k5 k6 k7 k8 k9 kf
        exact ck_end HI.out HG6.out HO7.out HO8.out HB9.out (by exact HR9.out) HSS.out HS7.out HS8.out HD8.out (by rw [hx]; exact ⟨rfl, rfl, rfl, Nat.le_refl _, fun _ _ _ => rfl⟩)
      · go_simp
        refine (count_at n (by have h1 := HLM.out; have h2 := HNL.out; omega) _).mono ?_
        rintro e wq ⟨rfl, hwq⟩
        have hwq := hwq.symm
        subst hwq
        go_wp2_with fail
        refine hK.out _ _ ?kpy10d15 (fun hNew => ?_)
        case kpy10d15 => (try dsimp only); exact ⟨cell_blk HH9.out 0, cell_blk HH9.out 1, cell_blk HH9.out 2, cell_blk HH9.out 3⟩
        clear hK K hHeld
        have hHeld := hNew
        clear hNew
        try simp only [Act.put, List.setIfInBounds_toArray, List.set_cons_zero, List.set_cons_succ]
        refine wpAnyH_ready (rs := [8]) (by kernel_rfl) (by simp) ?_
        refine AllReadyH.cons (o := ⟨_, _, _, _, _, _⟩) rfl (fun K hK => ?_) AllReadyH.nil
        have c1 : w9.cell? ⟨jb, 1, none⟩ = some (.int .i64 (J.area : Int)) := HJ9.out.cell 1
        go_simp
        clear c1
        refine hK.out _ _ ?kpy10d8 (fun hNew => ?_)
        case kpy10d8 => (try dsimp only); exact ⟨cell_blk HH9.out 0, cell_blk HH9.out 1, cell_blk HH9.out 2, cell_blk HH9.out 3⟩
        clear hK K hHeld
        have hHeld := hNew
        clear hNew
        try simp only [Act.put, List.setIfInBounds_toArray, List.set_cons_zero, List.set_cons_succ]
        refine wpAnyH_take (i := 9) (oi := ⟨_, _, _, _, _, _⟩) (v := Value.int .i64 (1 - (J.area : Int))) rfl (by kernel_rfl) (by kernel_rfl) (by kernel_rfl) (fun _ _ _ h => h) (Or.inl ⟨by rfl, ?hypy10d9⟩) hHeld ?_
        case hypy10d9 => (intro wS hSw; (try dsimp only at hSw); go_simp; rw [HW2.out])
        try simp only [Act.put, List.setIfInBounds_toArray, List.set_cons_zero, List.set_cons_succ]
        have k1 : w9.cell? ⟨jb, 1, none⟩ = some (.int .i64 (J.area : Int)) := HJ9.out.cell 1
        have k2 : w9.cell? ⟨jb, 2, none⟩ = some (.int .i64 (J.gen : Int)) := HJ9.out.cell 2
        have k3 : w9.cell? ⟨jb, 3, none⟩ = some (.int .i64 (J.op : Int)) := HJ9.out.cell 3
        have k4 : w9.cell? ⟨jb, 4, none⟩ = some (.int .i64 (J.first : Int)) := HJ9.out.cell 4
        have k5 : w9.cell? ⟨jb, 5, none⟩ = some (.int .i64 (J.size : Int)) := HJ9.out.cell 5
        have k6 : w9.cell? ⟨jb, 6, none⟩ = some (sv) := HJ9.out.cell 6
        have k7 : w9.cell? ⟨jb, 7, none⟩ = some (.slice Ar J.recs.length capr) := HJ9.out.cell 7
        have k8 : w9.cell? ⟨jb, 8, none⟩ = some (.int .i64 (J.used : Int)) := HJ9.out.cell 8
        have k9 : w9.cell? ⟨jb, 9, none⟩ = some (.int .i64 0) := HJ9.out.cell 9
        have kf : ∀ j, w9.frozen? ⟨jb, j, none⟩ = false := HJ9.out.free
        refine wpAnyH_take (i := 16) (oi := ⟨_, _, _, _, _, _⟩) (v := ?vpy10d16) rfl (by kernel_rfl) (by kernel_rfl) (by kernel_rfl) (fun _ _ _ h => h) (Or.inl ⟨by rfl, ?hypy10d16⟩) hHeld ?_
        case hypy10d16 => (intro wS hSw; (try dsimp only at hSw); go_simp; (first | done | with_reducible rfl))
        try simp only [Act.put, List.setIfInBounds_toArray, List.set_cons_zero, List.set_cons_succ]
        refine wpAnyH_take (i := 17) (oi := ⟨_, _, _, _, _, _⟩) (v := ?vpy10d17) rfl (by kernel_rfl) (by kernel_rfl) (by kernel_rfl) (fun _ _ _ h => h) (Or.inl ⟨by rfl, ?hypy10d17⟩) hHeld ?_
        case hypy10d17 => (intro wS hSw; (try dsimp only at hSw); go_simp; (first | done | with_reducible rfl))
        try simp only [Act.put, List.setIfInBounds_toArray, List.set_cons_zero, List.set_cons_succ]
        refine wpAnyH_ready (rs := [18]) (by kernel_rfl) (by simp) ?_
        refine AllReadyH.cons (o := ⟨_, _, _, _, _, _⟩) rfl (fun K hK => ?_) AllReadyH.nil
        go_simp
        refine hK.out _ _ ?kpy10d18 (fun hNew => ?_)
        case kpy10d18 => (try dsimp only); exact ⟨cell_blk (C := HC4 ((J.gen : Int) + 1) (J.op : Int) ((J.first : Int) + (J.recs.length : Int)) (n : Int)) (t := 54) (keepH (HH9.out) HHB2.out) 0, cell_blk (C := HC4 ((J.gen : Int) + 1) (J.op : Int) ((J.first : Int) + (J.recs.length : Int)) (n : Int)) (t := 54) (keepH (HH9.out) HHB2.out) 1, cell_blk (C := HC4 ((J.gen : Int) + 1) (J.op : Int) ((J.first : Int) + (J.recs.length : Int)) (n : Int)) (t := 54) (keepH (HH9.out) HHB2.out) 2, cell_blk (C := HC4 ((J.gen : Int) + 1) (J.op : Int) ((J.first : Int) + (J.recs.length : Int)) (n : Int)) (t := 54) (keepH (HH9.out) HHB2.out) 3⟩
        clear hK K hHeld
        have hHeld := hNew
        clear hNew
        try simp only [Act.put, List.setIfInBounds_toArray, List.set_cons_zero, List.set_cons_succ]
        refine wpAnyH_take (i := 19) (oi := ⟨_, _, _, _, _, _⟩) (v := ?vpy10d19) rfl (by kernel_rfl) (by kernel_rfl) (by kernel_rfl) (fun _ _ _ h => h) (Or.inl ⟨by rfl, ?hypy10d19⟩) hHeld ?_
        case hypy10d19 => (intro wS hSw; (try dsimp only at hSw); go_simp; (first | done | with_reducible rfl))
        try simp only [Act.put, List.setIfInBounds_toArray, List.set_cons_zero, List.set_cons_succ]
        refine wpAnyH_take (i := 20) (oi := ⟨_, _, _, _, _, _⟩) (v := ?vpy10d20) rfl (by kernel_rfl) (by kernel_rfl) (by kernel_rfl) (fun _ _ _ h => h) (Or.inl ⟨by rfl, ?hypy10d20⟩) hHeld ?_
        case hypy10d20 => (intro wS hSw; (try dsimp only at hSw); go_simp; (first | done | with_reducible rfl))
        try simp only [Act.put, List.setIfInBounds_toArray, List.set_cons_zero, List.set_cons_succ]
        refine wpAnyH_ready (rs := [21]) (by kernel_rfl) (by simp) ?_
        refine AllReadyH.cons (o := ⟨_, _, _, _, _, _⟩) rfl (fun K hK => ?_) AllReadyH.nil
        go_simp
        refine hK.out _ _ ?kpy10d21 (fun hNew => ?_)
        case kpy10d21 => (try dsimp only); exact ⟨cell_blk (C := HC4 ((J.gen : Int) + 1) (J.op : Int) ((J.first : Int) + (J.recs.length : Int)) (n : Int)) (t := 54) (keepH (keepH (keepH (keepH (keepH (HH9.out) HHB2.out) HHB2.out) HHB2.out) HHB2.out) HHB2.out) 0, cell_blk (C := HC4 ((J.gen : Int) + 1) (J.op : Int) ((J.first : Int) + (J.recs.length : Int)) (n : Int)) (t := 54) (keepH (keepH (keepH (keepH (keepH (HH9.out) HHB2.out) HHB2.out) HHB2.out) HHB2.out) HHB2.out) 1, cell_blk (C := HC4 ((J.gen : Int) + 1) (J.op : Int) ((J.first : Int) + (J.recs.length : Int)) (n : Int)) (t := 54) (keepH (keepH (keepH (keepH (keepH (HH9.out) HHB2.out) HHB2.out) HHB2.out) HHB2.out) HHB2.out) 2, cell_blk (C := HC4 ((J.gen : Int) + 1) (J.op : Int) ((J.first : Int) + (J.recs.length : Int)) (n : Int)) (t := 54) (keepH (keepH (keepH (keepH (keepH (HH9.out) HHB2.out) HHB2.out) HHB2.out) HHB2.out) HHB2.out) 3⟩
        clear hK K hHeld
        have hHeld := hNew
        clear hNew
        try simp only [Act.put, List.setIfInBounds_toArray, List.set_cons_zero, List.set_cons_succ]
        refine wpAnyH_take (i := 22) (oi := ⟨_, _, _, _, _, _⟩) (v := ?vpy10d22) rfl (by kernel_rfl) (by kernel_rfl) (by kernel_rfl) (fun _ _ _ h => h) (Or.inl ⟨by rfl, ?hypy10d22⟩) hHeld ?_
        case hypy10d22 => (intro wS hSw; (try dsimp only at hSw); go_simp; (first | done | with_reducible rfl))
        try simp only [Act.put, List.setIfInBounds_toArray, List.set_cons_zero, List.set_cons_succ]
        refine wpAnyH_take (i := 23) (oi := ⟨_, _, _, _, _, _⟩) (v := ?vpy10d23) rfl (by kernel_rfl) (by kernel_rfl) (by kernel_rfl) (fun _ _ _ h => h) (Or.inl ⟨by rfl, ?hypy10d23⟩) hHeld ?_
        case hypy10d23 => (intro wS hSw; (try dsimp only at hSw); go_simp; (first | done | with_reducible rfl))
        try simp only [Act.put, List.setIfInBounds_toArray, List.set_cons_zero, List.set_cons_succ]
        refine wpAnyH_ready (rs := [24]) (by kernel_rfl) (by simp) ?_
        refine AllReadyH.cons (o := ⟨_, _, _, _, _, _⟩) rfl (fun K hK => ?_) AllReadyH.nil
        go_simp
        refine hK.out _ _ ?kpy10d24 (fun hNew => ?_)
        case kpy10d24 => (try dsimp only); exact ⟨cell_blk (C := HC4 ((J.gen : Int) + 1) (J.op : Int) ((J.first : Int) + (J.recs.length : Int)) (n : Int)) (t := 54) (keepH (keepH (keepH (keepH (keepH (keepH (HH9.out) HHB2.out) HHB2.out) HHB2.out) HHB2.out) HHB2.out) HHB2.out) 0, cell_blk (C := HC4 ((J.gen : Int) + 1) (J.op : Int) ((J.first : Int) + (J.recs.length : Int)) (n : Int)) (t := 54) (keepH (keepH (keepH (keepH (keepH (keepH (HH9.out) HHB2.out) HHB2.out) HHB2.out) HHB2.out) HHB2.out) HHB2.out) 1, cell_blk (C := HC4 ((J.gen : Int) + 1) (J.op : Int) ((J.first : Int) + (J.recs.length : Int)) (n : Int)) (t := 54) (keepH (keepH (keepH (keepH (keepH (keepH (HH9.out) HHB2.out) HHB2.out) HHB2.out) HHB2.out) HHB2.out) HHB2.out) 2, cell_blk (C := HC4 ((J.gen : Int) + 1) (J.op : Int) ((J.first : Int) + (J.recs.length : Int)) (n : Int)) (t := 54) (keepH (keepH (keepH (keepH (keepH (keepH (HH9.out) HHB2.out) HHB2.out) HHB2.out) HHB2.out) HHB2.out) HHB2.out) 3⟩
        clear hK K hHeld
        have hHeld := hNew
        clear hNew
        try simp only [Act.put, List.setIfInBounds_toArray, List.set_cons_zero, List.set_cons_succ]
        refine wpAnyH_take (i := 25) (oi := ⟨_, _, _, _, _, _⟩) (v := ?vpy10d25) rfl (by kernel_rfl) (by kernel_rfl) (by kernel_rfl) (fun _ _ _ h => h) (Or.inl ⟨by rfl, ?hypy10d25⟩) hHeld ?_
        case hypy10d25 => (intro wS hSw; (try dsimp only at hSw); go_simp; (first | done | with_reducible rfl))
        try simp only [Act.put, List.setIfInBounds_toArray, List.set_cons_zero, List.set_cons_succ]
        refine wpAnyH_take (i := 26) (oi := ⟨_, _, _, _, _, _⟩) (v := ?vpy10d26) rfl (by kernel_rfl) (by kernel_rfl) (by kernel_rfl) (fun _ _ _ h => h) (Or.inl ⟨by rfl, ?hypy10d26⟩) hHeld ?_
        case hypy10d26 => (intro wS hSw; (try dsimp only at hSw); go_simp; (first | done | with_reducible rfl))
        try simp only [Act.put, List.setIfInBounds_toArray, List.set_cons_zero, List.set_cons_succ]
        refine wpAnyH_ready (rs := [27]) (by kernel_rfl) (by simp) ?_
        refine AllReadyH.cons (o := ⟨_, _, _, _, _, _⟩) rfl (fun K hK => ?_) AllReadyH.nil
        go_simp
        refine hK.out _ _ ?kpy10d27 (fun hNew => ?_)
        case kpy10d27 => (try dsimp only); exact ⟨cell_blk (C := HC4 ((J.gen : Int) + 1) (J.op : Int) ((J.first : Int) + (J.recs.length : Int)) (n : Int)) (t := 54) (keepH (keepH (keepH (keepH (keepH (keepH (keepH (HH9.out) HHB2.out) HHB2.out) HHB2.out) HHB2.out) HHB2.out) HHB2.out) HHB2.out) 0, cell_blk (C := HC4 ((J.gen : Int) + 1) (J.op : Int) ((J.first : Int) + (J.recs.length : Int)) (n : Int)) (t := 54) (keepH (keepH (keepH (keepH (keepH (keepH (keepH (HH9.out) HHB2.out) HHB2.out) HHB2.out) HHB2.out) HHB2.out) HHB2.out) HHB2.out) 1, cell_blk (C := HC4 ((J.gen : Int) + 1) (J.op : Int) ((J.first : Int) + (J.recs.length : Int)) (n : Int)) (t := 54) (keepH (keepH (keepH (keepH (keepH (keepH (keepH (HH9.out) HHB2.out) HHB2.out) HHB2.out) HHB2.out) HHB2.out) HHB2.out) HHB2.out) 2, cell_blk (C := HC4 ((J.gen : Int) + 1) (J.op : Int) ((J.first : Int) + (J.recs.length : Int)) (n : Int)) (t := 54) (keepH (keepH (keepH (keepH (keepH (keepH (keepH (HH9.out) HHB2.out) HHB2.out) HHB2.out) HHB2.out) HHB2.out) HHB2.out) HHB2.out) 3⟩
        clear hK K hHeld
        have hHeld := hNew
        clear hNew
        try simp only [Act.put, List.setIfInBounds_toArray, List.set_cons_zero, List.set_cons_succ]
        refine wpAnyH_take (i := 28) (oi := ⟨_, _, _, _, _, _⟩) (v := ?vpy10d28) rfl (by kernel_rfl) (by kernel_rfl) (by kernel_rfl) (fun _ _ _ h => h) (Or.inl ⟨by rfl, ?hypy10d28⟩) hHeld ?_
        case hypy10d28 => (intro wS hSw; (try dsimp only at hSw); go_simp; (first | done | with_reducible rfl))
        try simp only [Act.put, List.setIfInBounds_toArray, List.set_cons_zero, List.set_cons_succ]
        refine wpAnyH_take (i := 29) (oi := ⟨_, _, _, _, _, _⟩) (v := ?vpy10d29) rfl (by kernel_rfl) (by kernel_rfl) (by kernel_rfl) (fun _ _ _ h => h) (Or.inl ⟨by rfl, ?hypy10d29⟩) hHeld ?_
        case hypy10d29 => (intro wS hSw; (try dsimp only at hSw); go_simp; (first | done | with_reducible rfl))
        try simp only [Act.put, List.setIfInBounds_toArray, List.set_cons_zero, List.set_cons_succ]
        refine wpAnyH_ready (rs := [30]) (by kernel_rfl) (by simp) ?_
        refine AllReadyH.cons (o := ⟨_, _, _, _, _, _⟩) rfl (fun K hK => ?_) AllReadyH.nil
        go_simp
        refine hK.out _ _ ?kpy10d30 (fun hNew => ?_)
        case kpy10d30 => (try dsimp only); exact ⟨cell_blk (C := HC4 ((J.gen : Int) + 1) (J.op : Int) ((J.first : Int) + (J.recs.length : Int)) (n : Int)) (t := 54) (keepH (keepH (keepH (keepH (keepH (keepH (keepH (keepH (HH9.out) HHB2.out) HHB2.out) HHB2.out) HHB2.out) HHB2.out) HHB2.out) HHB2.out) HHB2.out) 0, cell_blk (C := HC4 ((J.gen : Int) + 1) (J.op : Int) ((J.first : Int) + (J.recs.length : Int)) (n : Int)) (t := 54) (keepH (keepH (keepH (keepH (keepH (keepH (keepH (keepH (HH9.out) HHB2.out) HHB2.out) HHB2.out) HHB2.out) HHB2.out) HHB2.out) HHB2.out) HHB2.out) 1, cell_blk (C := HC4 ((J.gen : Int) + 1) (J.op : Int) ((J.first : Int) + (J.recs.length : Int)) (n : Int)) (t := 54) (keepH (keepH (keepH (keepH (keepH (keepH (keepH (keepH (HH9.out) HHB2.out) HHB2.out) HHB2.out) HHB2.out) HHB2.out) HHB2.out) HHB2.out) HHB2.out) 2, cell_blk (C := HC4 ((J.gen : Int) + 1) (J.op : Int) ((J.first : Int) + (J.recs.length : Int)) (n : Int)) (t := 54) (keepH (keepH (keepH (keepH (keepH (keepH (keepH (keepH (HH9.out) HHB2.out) HHB2.out) HHB2.out) HHB2.out) HHB2.out) HHB2.out) HHB2.out) HHB2.out) 3⟩
        clear hK K hHeld
        have hHeld := hNew
        clear hNew
        try simp only [Act.put, List.setIfInBounds_toArray, List.set_cons_zero, List.set_cons_succ]
        refine wpAnyH_done (by kernel_rfl) ?_ _
        refine NoPanic.normal ?_
        clear hHeld
        go_wp2_with fail
        go_ret
        refine ⟨rfl, ?_⟩
        have hx : putC w9 jb ((1 - J.area : Nat) : Int) ((J.gen + 1 : Nat) : Int) (J.op : Int) ((J.first + J.recs.length : Nat) : Int) (l.length : Int) (.slice Ay l.length capy) (parts l.length : Int) = putC w9 jb (1 - (J.area : Int)) ((J.gen : Int) + 1) (J.op : Int) ((J.first : Int) + (J.recs.length : Int)) (n : Int) (.slice Ay l.length capy) (parts n : Int) := by
          rw [← HNL.out, show ((1 - J.area : Nat) : Int) = 1 - (J.area : Int) by have := HAR.out; omega, Int.natCast_add, Int.natCast_add]
          rfl
        clear k1 k2 k3 k4 k5 k6 k7 k8 k9 kf
        exact ck_end HI.out HG6.out HO7.out HO8.out HB9.out (by exact HR9.out) HSS.out HS7.out HS8.out HD8.out (by rw [hx]; exact ⟨rfl, rfl, rfl, Nat.le_refl _, fun _ _ _ => rfl⟩)
end Go.Proofs.Ytgdedgfohjplmaa.Jnl
