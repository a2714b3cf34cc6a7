/- The journal: Append. -/
import Derived.Test.YtgdedgfohjplmaaJI
namespace Go.Proofs.Ytgdedgfohjplmaa.Jnl
open Go.RowKit Go.Maps Sec

/-- What Append writes. -/
def Jn.app (J : Jn) (l : List UInt8) : Jn := { J with recs := J.recs ++ [l], used := J.used + parts l.length }
def appD (D : Dsk) (J : Jn) (l : List UInt8) : Dsk := pushes D (J.area * (D.n / 2) + (1 + J.used)) (fun i => partB 82 J.op (J.first + J.recs.length) i (parts l.length) (chunk l i)) (upto (parts l.length))

set_option maxRecDepth 100000 in
set_option maxHeartbeats 4000000 in
theorem append_no (Sd S : Nat → Prop) (d jb : Nat) (D : Dsk) (J : Jn) (l : List UInt8) (A : Option Addr) (cap : Nat) (w : World) (h : DiskAt w Sd d D) (hj : JAt w S jb d J) (hu : J.used ≤ D.n / 2 - 1) (h4 : 4 ≤ D.n) (hl : l.length ≤ 1048576) (hcap : l.length ≤ cap) (_ : cap ≤ maxLen) (hno : D.n / 2 - 1 - J.used < parts l.length) :
    Calls Try.prog 18 #[.pointer (some ⟨jb, 0, none⟩), .slice A l.length cap] w fun e w' => e = .returned (.int .i64 31) ∧ ∃ m, w' = w.drewN m := by
  have HD := Lib.hid h
  have HJ := Lib.hid hj
  have HU := Lib.hid hu
  have HN := Lib.hid h4
  have HE : Hid (askedJ l.length 1048576 (D.n / 2 - 1 - J.used) = 31) := by
    show _ = _
    unfold askedJ
    rw [if_neg (by omega), if_pos hno]
  have HLL : Hid (l.length < 1000000000000) := by show _ < _; omega
  obtain ⟨n, hn⟩ : ∃ n, n = l.length := ⟨_, rfl⟩
  rw [← hn] at hcap ⊢
  have HNL := Lib.hid hn
  have c1 : (n : Int) ≤ (cap : Int) := by omega
  clear h hj hu h4 hl hno hn
  go_enter Try.func18, Try.ntmps18
  go_wp2_with fail
  refine (free_at Sd S d jb D J w HD.out HJ.out HU.out HN.out).mono ?_
  rintro e wq ⟨rfl, m, rfl⟩
  go_wp2_with fail
  obtain ⟨sv, rv, vs, hj⟩ := HJ.out
  have HB := Lib.hid hj.blk
  clear hj
  rw [HNL.out]
  refine (asked_at jb d J sv rv l.length 1048576 (D.n / 2 - 1 - J.used) HLL.out (w.drewN m) HB.out).mono ?_
  rintro e wq ⟨rfl, rfl⟩
  rw [HE.out]
  go_wp2_with fail
  go_ret
  exact ⟨rfl, m, rfl⟩

theorem jcell {w w' : World} {T : Nat → Prop} {jb d : Nat} {J : Jn} {sv rv : Value} (h : JBlk w jb d J sv rv) (ho : Off T w w') (hT : ¬ T jb) (j : Nat) : w'.cell? ⟨jb, j, none⟩ = (JC d J sv rv)[j]? := (h.off ho hT).cell j
section
variable {ops : Array Oper} {o : Oper} {a : Act} {w : World} {K : Act → World → Prop} {Q : Exit → Act → World → Prop} {E : Prop}
set_option maxRecDepth 100000 in
theorem step_append_rec (hg : o.guard = none) (s x : Operand) (hop : o.op = Op.call { callee := Callee.builtin Builtin.append, args := #[s, x], argTypes := #[55, 55] })
    (B : Nat) (v y : Value) (n : Nat) (vs : List Value) (hs : a.eval s = v) (hown : w.ownsRow B 23 1 v n vs) (g : Nat) (hx : a.eval x = .slice (some ⟨g, 0, none⟩) 1 1) (hc : w.cell? ⟨g, 0, none⟩ = some y) (hy : y.oneCell' = true) (hb : n < 100000000) (hB : B ≤ w.heap.size)
    (hK : ∀ v' w', w'.ownsRow B 23 1 v' (n + 1) (vs ++ [y]) → w.grownBy w' v.ownBlock → (v'.ownBlock = v.ownBlock ∨ v'.ownBlock = some w.heap.size) → K (a.put o.dst v') w') :
    if Region.wanted o (yielded ops a.tmps) = true then Oper.wp Try.prog o a w K Q else E := by
  have hw : Region.wanted o (yielded ops a.tmps) = true := by simp [Region.wanted, hg]
  rw [if_pos hw]
  obtain ⟨i0, hi0, he⟩ := Option.map_eq_some_iff.1 info_bytes
  simp only [Prod.mk.injEq] at he
  obtain ⟨v', w', hrun, hown', hgr, _, hob⟩ := run_append_own_at (P := Try.prog) w B 55 o.type 23 i0 _ 1 24 Try.underlying55 hi0 he.1 he.2.1 he.2.2 rfl (by decide) v n vs hown ⟨g, 0, none⟩ 1 1 [y] rfl
    (by
      intro j z hj
      match j, hj with
      | 0, hj =>
        simp at hj
        rw [Addr.add_lit, ← hj]
        exact hc
      | j + 1, hj => simp at hj) (by intro z hz; simp at hz; subst hz; exact hy) (by unfold maxLen; omega) (by omega) hB
  unfold Oper.wp
  simp [execOp, hop, resolve, invoke, builtin, hs, hx, hrun, Result.andThen]
  exact hK v' w' hown' hgr hob
end
theorem brow_one {w : World} {B : Nat} {v : Value} {l : List UInt8} (h : BRow w B v l) : v.oneCell' = true := by
  obtain ⟨A, cap, rfl, _⟩ := row_len h
  rfl
theorem cell_new (w : World) (y : Value) (t : TypeId) : (w.alloc (.cells #[y] t)).cell? ⟨w.heap.size, 0, none⟩ = some y := by
  simp only [World.cell?]
  rw [show (w.alloc (.cells #[y] t)).heap[w.heap.size]? = some (.cells #[y] t) from by show (w.heap.push _)[w.heap.size]? = _; simp]
  rfl
theorem pushes_off (D : Dsk) (base : Nat) (f : Nat → List UInt8) (is : List Nat) : (pushes D base f is).off = D.off ∧ (pushes D base f is).armed = D.armed ∧ (pushes D base f is).n = D.n := ⟨(pushes_n D base f is).2.1, (pushes_n D base f is).2.2.1, (pushes_n D base f is).1⟩
theorem app_room {a n u p : Nat} (ha : a ≤ 1) (hn : 4 ≤ n) (hu : u ≤ n / 2 - 1) (hp : p ≤ n / 2 - 1 - u) : a * (n / 2) + (1 + u) + p ≤ n := by
  obtain h1 | h1 : a = 0 ∨ a = 1 := by omega
  · rw [h1]; omega
  · rw [h1]; omega
theorem row_ne_blk {w : World} {B sz n jb : Nat} {e t : TypeId} {v : Value} {xs : List Value} {C : Array Value} (h : w.ownsRow B e sz v n xs) (hb : w.heap[jb]? = some (.cells C t)) (he : e ≠ t) : v.ownBlock ≠ some jb := by
  intro e2
  obtain ⟨_, ⟨rfl, _⟩ | ⟨g, cap, cur, rfl, _, hbb, _⟩⟩ := h
  · simp [Value.ownBlock] at e2
  · simp [Value.ownBlock] at e2
    rw [e2, hb] at hbb
    injection hbb with hbb
    injection hbb with _ hbb
    exact he hbb.symm
theorem rows_ne {w : World} {B B' sz sz' n n' : Nat} {e e' : TypeId} {v v' : Value} {xs xs' : List Value} (h : w.ownsRow B e sz v n xs) (h' : w.ownsRow B' e' sz' v' n' xs') (he : e ≠ e') : ∀ g, v.ownBlock = some g → v'.ownBlock ≠ some g := by
  intro g hg
  obtain ⟨_, ⟨rfl, _⟩ | ⟨g1, cap, cur, rfl, _, hbb, _⟩⟩ := h
  · simp [Value.ownBlock] at hg
  · simp [Value.ownBlock] at hg
    subst hg
    exact row_ne_blk h' hbb (fun x => he x.symm)
theorem app_mid7 {w5 w6 w7 : World} {S : Nat → Prop} {jb d : Nat} {J : Jn} {sv rv : Value} {vs : List Value} (h5 : JIn w5 S jb d J sv rv vs) (hb6 : Below w5.heap.size w5 w6) (hg7 : w6.grownBy w7 none) :
    JBlk w7 jb d J sv rv ∧ w7.ownsRow 0 23 1 rv J.recs.length vs := by
  have hj6 : JBlk w6 jb d J sv rv := (hb6.block jb h5.blk.lt).trans h5.blk
  have hj7 : JBlk w7 jb d J sv rv := hj6.grown hg7
  exact ⟨hj7, (Sec.row_off h5.rows (S := fun _ => False) ⟨hb6.os, hb6.tape, hb6.output, hb6.size, fun k hk _ => hb6.block k hk⟩ (fun _ _ h => h)) |> fun h => Sec.row_off h (Off.of_grown hg7 (S := fun _ => False) (by simp)) (fun _ _ h => h)⟩
theorem app_mid8 {w7 w8 : World} {jb d : Nat} {J : Jn} {sv rv : Value} {vs : List Value} (h : JBlk w7 jb d J sv rv ∧ w7.ownsRow 0 23 1 rv J.recs.length vs) (hg8 : w7.grownBy w8 rv.ownBlock) : JBlk w8 jb d J sv rv :=
  (hg8.block jb h.1.lt (fun e => row_ne_blk h.2 h.1 (by decide) e.symm)).trans h.1
theorem range_keep {w w' : World} {T : Nat → Prop} {g off : Nat} {xs : List Value} (h : w.rangeAt g off xs) (ho : Off T w w') (hg : g < w.heap.size) (hT : ¬ T g) : w'.rangeAt g off xs := fun j v hv => by
  have h1 := h j v hv
  simp only [World.cell?] at h1 ⊢
  rw [ho.block g hg hT]
  exact h1
/-- A record more. -/
theorem app_done {w5 w6 w7 w8 w9 : World} {S : Nat → Prop} {jb d : Nat} {J : Jn} {sv rv v8 y : Value} {vs : List Value} {l : List UInt8} (h5 : JIn w5 S jb d J sv rv vs) (hb6 : Below w5.heap.size w5 w6) (hr : BRow w6 w5.heap.size y l) (hg7 : w6.grownBy w7 none) (ho8 : w8.ownsRow 0 23 1 v8 (J.recs.length + 1) (vs ++ [y])) (hg8 : w7.grownBy w8 rv.ownBlock) (hob : v8.ownBlock = rv.ownBlock ∨ v8.ownBlock = some w7.heap.size) (hw9 : w9 = (w8.setCell ⟨jb, 7, none⟩ v8).setCell ⟨jb, 8, none⟩ (.int .i64 ((J.used + parts l.length : Nat) : Int))) :
    JIn w9 (fun b => (S b ∨ w5.heap.size ≤ b) ∧ b < w9.heap.size) jb d (J.app l) sv v8 (vs ++ [y]) ∧ Off S w5 w9 := by
  have hs56 := hb6.size
  have hs67 := hg7.size
  have hs78 := hg8.size
  have hj6 : JBlk w6 jb d J sv rv := (hb6.block jb h5.blk.lt).trans h5.blk
  have hj7 : JBlk w7 jb d J sv rv := hj6.grown hg7
  have hrow7 : w7.ownsRow 0 23 1 rv J.recs.length vs := (Sec.row_off h5.rows (S := fun _ => False) ⟨hb6.os, hb6.tape, hb6.output, hb6.size, fun k hk _ => hb6.block k hk⟩ (fun _ _ h => h)) |> fun h => Sec.row_off h (Off.of_grown hg7 (S := fun _ => False) (by simp)) (fun _ _ h => h)
  have hjr : rv.ownBlock ≠ some jb := row_ne_blk hrow7 hj7 (by decide)
  have hj8 : JBlk w8 jb d J sv rv := (hg8.block jb hj7.lt (fun e => hjr e.symm)).trans hj7
  have f1 := heap_setCell_same w8 jb 7 _ _ v8 hj8
  have f2 := heap_setCell_same _ jb 8 _ _ (.int .i64 ((J.used + parts l.length : Nat) : Int)) f1
  rw [← hw9] at f2
  have hg9 : w8.grownBy w9 (some jb) := by rw [hw9]; exact grown_trans (grown_set _ _ _ _) (grown_set _ _ _ _)
  have hs89 := hg9.size
  have o89 : Off (fun b => b = jb) w8 w9 := Off.of_grown hg9 (fun k e => by cases e; rfl)
  have o57 : Off (fun _ => False) w5 w7 := (⟨hb6.os, hb6.tape, hb6.output, hb6.size, fun k hk _ => hb6.block k hk⟩ : Off (fun _ => False) w5 w6).trans (Off.of_grown hg7 (by simp))
  have o78 : Off (fun b => rv.ownBlock = some b) w7 w8 := Off.of_grown hg8 (fun k e => e)
  -- a row of bytes stays
  have keep : ∀ {B : Nat} {v : Value} {m : List UInt8}, BRow w7 B v m → BRow w9 B v m := fun hv => by
    have h1 : BRow w8 _ _ _ := Sec.row_off hv o78 (fun g hg => rows_ne hv hrow7 (by decide) g hg)
    exact Sec.row_off h1 o89 (fun g hg e => row_ne_blk h1 hj8 (by decide) (e ▸ hg))
  have keep5 : ∀ {B : Nat} {v : Value} {m : List UInt8}, BRow w5 B v m → BRow w9 B v m := fun hv => keep (Sec.row_off hv o57 (fun _ _ h => h))
  have hS9 : ∀ b, S b → b < w9.heap.size := fun b hb => by have := h5.lt b hb; omega
  have hv8 : ∀ g, v8.ownBlock = some g → (S g ∨ w5.heap.size ≤ g) ∧ g < w9.heap.size := fun g hg => by
    have h1 := (ho8.lt g hg).2
    refine ⟨?_, by omega⟩
    rcases hob with e | e
    · exact .inl (h5.own.2.2.1 g (e ▸ hg))
    · rw [e] at hg
      cases hg
      exact .inr (by omega)
  have hy : ∀ g, y.ownBlock = some g → (S g ∨ w5.heap.size ≤ g) ∧ g < w9.heap.size := fun g hg => by
    have h1 := World.ownsRow.lt hr g hg
    exact ⟨.inr h1.1, by omega⟩
  have hlv : vs.length = J.recs.length := by have h1 : vs.length = J.recs.length * 1 := h5.rows.1; omega
  refine ⟨⟨f2, keep5 h5.st, ?_, ?_, ⟨⟨.inl h5.own.1, hS9 _ h5.own.1⟩, fun g hg => ⟨.inl (h5.own.2.1 g hg), hS9 _ (h5.own.2.1 g hg)⟩, hv8, ?_⟩, fun b hb => hb.2⟩, ?_⟩
  · show World.ownsRow _ _ _ _ _ (J.recs ++ [l]).length _
    rw [List.length_append]
    exact Sec.row_off ho8 o89 (fun g hg e => row_ne_blk ho8 hj8 (by decide) (e ▸ hg))
  · intro i l2 hi
    by_cases hlt : i < J.recs.length
    · have hi2 : J.recs[i]? = some l2 := by
        have h1 : (J.recs ++ [l])[i]? = some l2 := hi
        rwa [List.getElem?_append_left hlt] at h1
      obtain ⟨v, hv, hrr⟩ := h5.recs i l2 hi2
      exact ⟨v, by rw [List.getElem?_append_left (by omega)]; exact hv, keep5 hrr⟩
    · have h1 : (J.recs ++ [l])[i]? = some l2 := hi
      rw [List.getElem?_append_right (by omega)] at h1
      obtain ⟨e1, e2⟩ : i - J.recs.length = 0 ∧ l = l2 := by
        cases hx : i - J.recs.length with
        | zero => rw [hx] at h1; exact ⟨rfl, by simpa using h1⟩
        | succ x => rw [hx] at h1; simp at h1
      refine ⟨y, ?_, e2 ▸ keep (brow_less (Sec.row_off hr (Off.of_grown hg7 (S := fun _ => False) (by simp)) (fun _ _ h => h)) (Nat.zero_le _))⟩
      rw [List.getElem?_append_right (by omega), hlv, e1]
      rfl
  · intro v hv g hg
    rcases List.mem_append.1 hv with hv | hv
    · exact ⟨.inl (h5.own.2.2.2 v hv g hg), hS9 _ (h5.own.2.2.2 v hv g hg)⟩
    · rw [List.mem_singleton.1 hv] at hg
      exact hy g hg
  · refine ((o57.mono (fun _ _ h => h.elim)).trans (o78.mono (fun k _ e => h5.own.2.2.1 k e))).trans (o89.mono (fun k _ e => e ▸ h5.own.1))

/-- The end of Append. -/
theorem app_end {w w5 w6 w7 w8 x : World} {S Sd Sd5 : Nat → Prop} {jb d : Nat} {D5 : Dsk} {J : Jn} {sv rv v8 y : Value} {vs : List Value} {l : List UInt8} (ho5 : Off Sd w w5) (hjw : ∀ b, S b → b < w.heap.size) (h5 : JIn w5 S jb d J sv rv vs) (hb6 : Below w5.heap.size w5 w6) (hr : BRow w6 w5.heap.size y l) (hg7 : w6.grownBy w7 none) (ho8 : w8.ownsRow 0 23 1 v8 (J.recs.length + 1) (vs ++ [y])) (hg8 : w7.grownBy w8 rv.ownBlock) (hob : v8.ownBlock = rv.ownBlock ∨ v8.ownBlock = some w7.heap.size)
    (hx : Off (fun _ => False) ((w8.setCell ⟨jb, 7, none⟩ v8).setCell ⟨jb, 8, none⟩ (.int .i64 ((J.used + parts l.length : Nat) : Int))) x) (hSS : ∀ b, S b → ¬ Sd b) (hs5 : ∀ b, Sd5 b → (Sd b ∨ w.heap.size ≤ b) ∧ b < w5.heap.size) (hd5 : DiskAt w5 Sd5 d D5) :
    ∃ S' Sd', JAt x S' jb d (J.app l) ∧ DiskAt x Sd' d D5 ∧ (∀ b, S' b → ¬ Sd' b) ∧ (∀ b, S' b → S b ∨ w.heap.size ≤ b) ∧ (∀ b, Sd' b → (Sd b ∨ w.heap.size ≤ b) ∧ b < x.heap.size) ∧ Off (fun b => S b ∨ Sd b) w x := by
  obtain ⟨hj, ho⟩ := app_done h5 hb6 hr hg7 ho8 hg8 hob rfl
  have hs := ho5.size
  have ho2 : Off S w5 x := ho.trans (hx.mono (fun _ _ h => h.elim))
  have hs2 := ho2.size
  have hdis : ∀ b, Sd5 b → ¬ S b := fun b hb hS => by
    rcases (hs5 b hb).1 with h1 | h1
    · exact hSS b hS h1
    · have := hjw b hS
      omega
  refine ⟨_, Sd5, ⟨_, _, _, hj.off hx (fun _ _ h => h)⟩, hd5.off ho2 (fun k _ hk => hdis k hk), fun b hb hd => ?_, fun b hb => ?_, fun b hb => ⟨(hs5 b hb).1, by have := (hs5 b hb).2; omega⟩, (ho5.mono (fun _ _ h => .inr h)).trans (ho2.mono (fun _ _ h => .inl h))⟩
  · rcases hb.1 with h1 | h1
    · exact hdis b hd h1
    · have := (hs5 b hd).2
      omega
  · rcases hb.1 with h1 | h1
    · exact .inl h1
    · exact .inr (by omega)
set_option maxRecDepth 100000 in
set_option maxHeartbeats 8000000 in
theorem append_yes (Sd S : Nat → Prop) (d jb : Nat) (D : Dsk) (J : Jn) (l : List UInt8) (A : Option Addr) (cap : Nat) (w : World) (h : DiskAt w Sd d D) (hlt : ∀ b, Sd b → b < w.heap.size) (hj : JAt w S jb d J) (hSS : ∀ b, S b → ¬ Sd b) (ho : D.off = false) (harm : D.armed = none) (hwr : D.wr.length + 70000 < 1000000) (h4 : 4 ≤ D.n) (ha : J.area ≤ 1) (hu : J.used ≤ D.n / 2 - 1) (hl : l.length ≤ 1048576) (hcap : l.length ≤ cap) (hcm : cap ≤ maxLen) (hok : parts l.length ≤ D.n / 2 - 1 - J.used)
    (hop : J.op ≤ 4611686018427387904 ∧ J.first + J.recs.length ≤ 4611686018427387904) (hrl : J.recs.length < 10000000)
    (hA : (l = [] ∧ cap = 0) ∨ ∃ g off, A = some ⟨g, off, none⟩ ∧ g < w.heap.size ∧ ¬ Sd g ∧ w.rangeAt g off (u8s l)) :
    Calls Try.prog 18 #[.pointer (some ⟨jb, 0, none⟩), .slice A l.length cap] w fun e w' => e = .returned (.int .i64 0) ∧ ∃ S' Sd', JAt w' S' jb d (J.app l) ∧ DiskAt w' Sd' d (appD D J l) ∧ (∀ b, S' b → ¬ Sd' b) ∧ (∀ b, S' b → S b ∨ w.heap.size ≤ b) ∧ (∀ b, Sd' b → (Sd b ∨ w.heap.size ≤ b) ∧ b < w'.heap.size) ∧ Off (fun b => S b ∨ Sd b) w w' := by
  have HD := Lib.hid h
  have HLT := Lib.hid hlt
  have HSS := Lib.hid hSS
  have HO := Lib.hid ho
  have HARM := Lib.hid harm
  have HWR := Lib.hid hwr
  have HAR := Lib.hid ha
  have HJ := Lib.hid hj
  have HU := Lib.hid hu
  have HN := Lib.hid h4
  have HOP := Lib.hid hop
  have HRL := Lib.hid hrl
  have HA := Lib.hid hA
  have HE : Hid (askedJ l.length 1048576 (D.n / 2 - 1 - J.used) = 0) := by
    show _ = _
    unfold askedJ
    rw [if_neg (by omega), if_neg (by omega)]
  have HOK := Lib.hid hok
  have HLL : Hid (l.length < 1000000000000) := by show _ < _; omega
  have HLM := Lib.hid hl
  have HCM := Lib.hid hcm
  have HDN := Lib.hid h.1
  obtain ⟨n, hn⟩ : ∃ n, n = l.length := ⟨_, rfl⟩
  rw [← hn] at hcap ⊢
  have HNL := Lib.hid hn
  have HCAP := Lib.hid hcap
  have c1 : (n : Int) ≤ (cap : Int) := by omega
  clear h hlt hSS ho harm hwr ha hj hu h4 hl hn hop hrl hA hok hcm
  go_enter Try.func18, Try.ntmps18
  go_wp2_with fail
  refine (free_at Sd S d jb D J w HD.out HJ.out HU.out HN.out).mono ?_
  rintro e wq ⟨rfl, m, rfl⟩
  go_wp2_with fail
  obtain ⟨sv, rv, vs, hj⟩ := HJ.out
  obtain ⟨Ar, capr, hrv, hcr, hmr⟩ := row_len hj.rows
  subst hrv
  have HI := Lib.hid hj
  have HB := Lib.hid hj.blk
  have HJS : Hid (¬ Sd jb) := HSS.out jb hj.own.1
  clear hj hcr hmr
  rw [HNL.out]
  refine (asked_at jb d J sv _ l.length 1048576 (D.n / 2 - 1 - J.used) HLL.out (w.drewN m) HB.out).mono ?_
  rintro e wq ⟨rfl, rfl⟩
  rw [HE.out, ← HNL.out]
  have HC : Hid (∀ k, (w.drewN k).cell? ⟨jb, 1, none⟩ = some (.int .i64 (J.area : Int)) ∧ (w.drewN k).cell? ⟨jb, 8, none⟩ = some (.int .i64 (J.used : Int)) ∧ (w.drewN k).cell? ⟨jb, 3, none⟩ = some (.int .i64 (J.op : Int))) := fun k => ⟨HB.out.cell 1, HB.out.cell 8, HB.out.cell 3⟩
  have HW2 : Hid (IntKind.i64.wrap ((J.used : Int) + (parts n : Int)) = ((J.used + parts n : Nat) : Int)) := by
    show _ = _
    have h1 := HU.out
    have h2 := HDN.out
    have h3 := HOK.out
    rw [← HNL.out] at h3
    rw [IntKind.wrap_i64]
    omega
  have HW1 : Hid (IntKind.i64.wrap (1 + (J.used : Int)) = 1 + (J.used : Int)) := by show _ = _; have h1 := HU.out; have h2 := HDN.out; rw [IntKind.wrap_i64]; omega
  go_wp2_with fail
  refine wp_region_noPanic ?_
  refine wp_region_held_drew (S := fun w' => w'.cell? ⟨jb, 1, none⟩ = some (Value.int .i64 (J.area : Int)) ∧ w'.cell? ⟨jb, 8, none⟩ = some (Value.int .i64 (J.used : Int)) ∧ w'.cell? ⟨jb, 3, none⟩ = some (Value.int .i64 (J.op : Int))) (by kernel_rfl) ?hSp (fun hHeld => ?_)
  case hSp => exact HC.out (m + 1)
  refine wpAnyH_take (i := 0) (oi := ⟨_, _, _, _, _, _⟩) (v := ?vp0) rfl (by kernel_rfl) (by kernel_rfl) (by kernel_rfl) (fun _ _ _ h => h) (Or.inl ⟨by rfl, ?hyp0⟩) hHeld ?_
  case hyp0 => (intro wS hSw; (try dsimp only at hSw); go_simp; (first | done | with_reducible rfl))
  try simp only [Act.put, List.setIfInBounds_toArray, List.set_cons_zero, List.set_cons_succ]
  refine wpAnyH_take (i := 1) (oi := ⟨_, _, _, _, _, _⟩) (v := ?vp1) rfl (by kernel_rfl) (by kernel_rfl) (by kernel_rfl) (fun _ _ _ h => h) (Or.inl ⟨by rfl, ?hyp1⟩) hHeld ?_
  case hyp1 => (intro wS hSw; (try dsimp only at hSw); go_simp; (first | done | with_reducible rfl))
  try simp only [Act.put, List.setIfInBounds_toArray, List.set_cons_zero, List.set_cons_succ]
  refine wpAnyH_take (i := 2) (oi := ⟨_, _, _, _, _, _⟩) (v := ?vp2) rfl (by kernel_rfl) (by kernel_rfl) (by kernel_rfl) (fun _ _ _ h => h) (Or.inl ⟨by rfl, ?hyp2⟩) hHeld ?_
  case hyp2 => (intro wS hSw; (try dsimp only at hSw); go_simp; (first | done | with_reducible rfl))
  try simp only [Act.put, List.setIfInBounds_toArray, List.set_cons_zero, List.set_cons_succ]
  refine wpAnyH_take (i := 3) (oi := ⟨_, _, _, _, _, _⟩) (v := ?vp3) rfl (by kernel_rfl) (by kernel_rfl) (by kernel_rfl) (fun _ _ _ h => h) (Or.inl ⟨by rfl, ?hyp3⟩) hHeld ?_
  case hyp3 => (intro wS hSw; (try dsimp only at hSw); go_simp; (first | done | with_reducible rfl))
  try simp only [Act.put, List.setIfInBounds_toArray, List.set_cons_zero, List.set_cons_succ]
  refine wpAnyH_take (i := 4) (oi := ⟨_, _, _, _, _, _⟩) (v := ?vp4) rfl (by kernel_rfl) (by kernel_rfl) (by kernel_rfl) (fun _ _ _ h => h) (Or.inl ⟨by rfl, ?hyp4⟩) hHeld ?_
  case hyp4 => (intro wS hSw; (try dsimp only at hSw); go_simp; (first | done | with_reducible rfl))
  try simp only [Act.put, List.setIfInBounds_toArray, List.set_cons_zero, List.set_cons_succ]
  refine wpAnyH_take (i := 5) (oi := ⟨_, _, _, _, _, _⟩) (v := ?vp5) rfl (by kernel_rfl) (by kernel_rfl) (by kernel_rfl) (fun _ _ _ h => h) (Or.inl ⟨by rfl, ?hyp5⟩) hHeld ?_
  case hyp5 => (intro wS hSw; (try dsimp only at hSw); go_simp; (first | done | with_reducible rfl))
  try simp only [Act.put, List.setIfInBounds_toArray, List.set_cons_zero, List.set_cons_succ]
  refine wpAnyH_take (i := 6) (oi := ⟨_, _, _, _, _, _⟩) (v := ?vp6) rfl (by kernel_rfl) (by kernel_rfl) (by kernel_rfl) (fun _ _ _ h => h) (Or.inl ⟨by rfl, ?hyp6⟩) hHeld ?_
  case hyp6 => (intro wS hSw; (try dsimp only at hSw); go_simp; (first | done | with_reducible rfl))
  try simp only [Act.put, List.setIfInBounds_toArray, List.set_cons_zero, List.set_cons_succ]
  refine wpAnyH_take (i := 7) (oi := ⟨_, _, _, _, _, _⟩) (v := ?vp7) rfl (by kernel_rfl) (by kernel_rfl) (by kernel_rfl) (fun _ _ _ h => h) (Or.inl ⟨by rfl, ?hyp7⟩) hHeld ?_
  case hyp7 => (intro wS hSw; (try dsimp only at hSw); go_simp; (first | done | with_reducible rfl))
  try simp only [Act.put, List.setIfInBounds_toArray, List.set_cons_zero, List.set_cons_succ]
  refine wpAnyH_take (i := 8) (oi := ⟨_, _, _, _, _, _⟩) (v := ?vp8) rfl (by kernel_rfl) (by kernel_rfl) (by kernel_rfl) (fun _ _ _ h => h) (Or.inl ⟨by rfl, ?hyp8⟩) hHeld ?_
  case hyp8 => (intro wS hSw; (try dsimp only at hSw); go_simp; (first | done | with_reducible rfl))
  try simp only [Act.put, List.setIfInBounds_toArray, List.set_cons_zero, List.set_cons_succ]
  refine wpAnyH_take (i := 9) (oi := ⟨_, _, _, _, _, _⟩) (v := Value.int .i64 (1 + (J.used : Int))) rfl (by kernel_rfl) (by kernel_rfl) (by kernel_rfl) (fun _ _ _ h => h) (Or.inl ⟨by rfl, ?hyp9⟩) hHeld ?_
  case hyp9 => (intro wS hSw; (try dsimp only at hSw); go_simp; rw [HW1.out])
  try simp only [Act.put, List.setIfInBounds_toArray, List.set_cons_zero, List.set_cons_succ]
  refine wpAnyH_take (i := 10) (oi := ⟨_, _, _, _, _, _⟩) (v := ?vp10) rfl (by kernel_rfl) (by kernel_rfl) (by kernel_rfl) (fun _ _ _ h => h) (Or.inl ⟨by rfl, ?hyp10⟩) hHeld ?_
  case hyp10 => (intro wS hSw; (try dsimp only at hSw); go_simp; (first | done | with_reducible rfl))
  try simp only [Act.put, List.setIfInBounds_toArray, List.set_cons_zero, List.set_cons_succ]
  refine wpAnyH_take (i := 11) (oi := ⟨_, _, _, _, _, _⟩) (v := ?vp11) rfl (by kernel_rfl) (by kernel_rfl) (by kernel_rfl) (fun _ _ _ h => h) (Or.inl ⟨by rfl, ?hyp11⟩) hHeld ?_
  case hyp11 => (intro wS hSw; (try dsimp only at hSw); go_simp; (first | done | with_reducible rfl))
  try simp only [Act.put, List.setIfInBounds_toArray, List.set_cons_zero, List.set_cons_succ]
  refine wpAnyH_take (i := 12) (oi := ⟨_, _, _, _, _, _⟩) (v := ?vp12) rfl (by kernel_rfl) (by kernel_rfl) (by kernel_rfl) (fun _ _ _ h => h) (Or.inl ⟨by rfl, ?hyp12⟩) hHeld ?_
  case hyp12 => (intro wS hSw; (try dsimp only at hSw); go_simp; (first | done | with_reducible rfl))
  try simp only [Act.put, List.setIfInBounds_toArray, List.set_cons_zero, List.set_cons_succ]
  refine wpAnyH_take (i := 13) (oi := ⟨_, _, _, _, _, _⟩) (v := ?vp13) rfl (by kernel_rfl) (by kernel_rfl) (by kernel_rfl) (fun _ _ _ h => h) (Or.inl ⟨by rfl, ?hyp13⟩) hHeld ?_
  case hyp13 => (intro wS hSw; (try dsimp only at hSw); go_simp; (first | done | with_reducible rfl))
  try simp only [Act.put, List.setIfInBounds_toArray, List.set_cons_zero, List.set_cons_succ]
  refine wpAnyH_take (i := 14) (oi := ⟨_, _, _, _, _, _⟩) (v := ?vp14) rfl (by kernel_rfl) (by kernel_rfl) (by kernel_rfl) (fun _ _ _ h => h) (Or.inl ⟨by rfl, ?hyp14⟩) hHeld ?_
  case hyp14 => (intro wS hSw; (try dsimp only at hSw); go_simp; (first | done | with_reducible rfl))
  try simp only [Act.put, List.setIfInBounds_toArray, List.set_cons_zero, List.set_cons_succ]
  refine wpAnyH_take (i := 15) (oi := ⟨_, _, _, _, _, _⟩) (v := ?vp15) rfl (by kernel_rfl) (by kernel_rfl) (by kernel_rfl) (fun _ _ _ h => h) (Or.inl ⟨by rfl, ?hyp15⟩) hHeld ?_
  case hyp15 => (intro wS hSw; (try dsimp only at hSw); go_simp; (first | done | with_reducible rfl))
  try simp only [Act.put, List.setIfInBounds_toArray, List.set_cons_zero, List.set_cons_succ]
  refine wpAnyH_take (i := 17) (oi := ⟨_, _, _, _, _, _⟩) (v := ?vp17) rfl (by kernel_rfl) (by kernel_rfl) (by kernel_rfl) (fun _ _ _ h => h) (Or.inl ⟨by rfl, ?hyp17⟩) hHeld ?_
  case hyp17 => (intro wS hSw; (try dsimp only at hSw); go_simp; (first | done | with_reducible rfl))
  try simp only [Act.put, List.setIfInBounds_toArray, List.set_cons_zero, List.set_cons_succ]
  refine wpAnyH_ready (rs := [16]) (by kernel_rfl) (by simp) ?_
  refine AllReadyH.cons (o := ⟨_, _, _, _, _, _⟩) rfl (fun K hK => ?_) AllReadyH.nil
  go_simp
  refine (next_blk jb d J sv _ Ar J.recs.length capr rfl (by have := HOP.out; omega) (w.drewN m).drew HB.out).mono ?_
  rintro e wq ⟨rfl, m2, rfl⟩
  go_wp2_with fail
  refine hK.out _ _ ?kp16 (fun hNew => ?_)
  case kp16 => (try dsimp only); exact HC.out (m + 1 + m2)
  clear hK K hHeld
  have hHeld := hNew
  clear hNew
  try simp only [Act.put, List.setIfInBounds_toArray, List.set_cons_zero, List.set_cons_succ]
  refine wpAnyH_ready (rs := [18]) (by kernel_rfl) (by simp) ?_
  refine AllReadyH.cons (o := ⟨_, _, _, _, _, _⟩) rfl (fun K hK => ?_) AllReadyH.nil
  go_simp
  rw [show (1 : Int) + (J.used : Int) = ((1 + J.used : Nat) : Int) by omega, show (J.first : Int) + (J.recs.length : Int) = ((J.first + J.recs.length : Nat) : Int) by omega, HNL.out]
  refine (put_at Sd d D jb J sv _ J.area (1 + J.used) 82 J.op (J.first + J.recs.length) l A cap (by have := HOP.out; omega) (by have := HOP.out; omega) (by have := HLM.out; omega) (by rw [← HNL.out]; exact HCAP.out) HCM.out (w.drewN (m + 1 + m2)) (HD.out.grown ⟨rfl, rfl, rfl, Nat.le_refl _, fun _ _ _ => rfl⟩) HLT.out HB.out HJS.out (app_room HAR.out HN.out HU.out HOK.out) HO.out HARM.out (by have := HWR.out; omega) HA.out).mono ?_
  rw [← HNL.out]
  rintro e w5 ⟨rfl, Sd5, hd5, hs5, ho5⟩
  have HD5 := Lib.hid hd5
  have HS5 := Lib.hid hs5
  have HO5 : Hid (Off Sd w w5) := ⟨ho5.os, ho5.tape, ho5.output, ho5.size, ho5.block⟩
  have HB5 : Hid (JBlk w5 jb d J sv (.slice Ar J.recs.length capr)) := HB.out.off HO5.out HJS.out
  clear hd5 hs5 ho5
  go_wp2_with fail
  refine hK.out _ _ ?kp18 (fun hNew => ?_)
  case kp18 => (try dsimp only); exact ⟨HB5.out.cell 1, HB5.out.cell 8, HB5.out.cell 3⟩
  clear hK K hHeld
  have hHeld := hNew
  clear hNew
  try simp only [Act.put, List.setIfInBounds_toArray, List.set_cons_zero, List.set_cons_succ]
  refine wpAnyH_done (by kernel_rfl) ?_ _
  refine NoPanic.normal ?_
  clear hHeld
  have c9 : w5.cell? ⟨jb, 9, none⟩ = some (.int .i64 0) := HB5.out.cell 9
  have HI5 : Hid (JIn w5 S jb d J sv (.slice Ar J.recs.length capr) vs) := HI.out.off HO5.out HSS.out
  have HA5 : Hid ((l = [] ∧ cap = 0) ∨ ∃ g off, A = some ⟨g, off, none⟩ ∧ w5.rangeAt g off (u8s l)) := by
    show _
    rcases HA.out with h1 | ⟨g, off, h1, h2, h4, h3⟩
    · exact .inl h1
    · exact .inr ⟨g, off, h1, range_keep h3 HO5.out h2 h4⟩
  have HC7 : Hid (w5.cell? ⟨jb, 7, none⟩ = some (.slice Ar J.recs.length capr)) := HB5.out.cell 7
  go_upto_region 6 with fail
  refine wp_region_noPanic ?_
  refine wp_region_held_drew (S := fun _ => True) (by kernel_rfl) ?hSq (fun hHeld => ?_)
  case hSq => trivial
  refine wpAnyH_take (i := 0) (oi := ⟨_, _, _, _, _, _⟩) (v := ?vq0) rfl (by kernel_rfl) (by kernel_rfl) (by kernel_rfl) (fun _ _ _ h => h) (Or.inl ⟨by rfl, ?hyq0⟩) hHeld ?_
  case hyq0 => (intro wS hSw; (try dsimp only at hSw); go_simp; (first | done | with_reducible rfl))
  try simp only [Act.put, List.setIfInBounds_toArray, List.set_cons_zero, List.set_cons_succ]
  refine wpAnyH_take (i := 1) (oi := ⟨_, _, _, _, _, _⟩) (v := ?vq1) rfl (by kernel_rfl) (by kernel_rfl) (by kernel_rfl) (fun _ _ _ h => h) (Or.inl ⟨by rfl, ?hyq1⟩) hHeld ?_
  case hyq1 => (intro wS hSw; (try dsimp only at hSw); go_simp; (first | done | with_reducible rfl))
  try simp only [Act.put, List.setIfInBounds_toArray, List.set_cons_zero, List.set_cons_succ]
  refine wpAnyH_take (i := 2) (oi := ⟨_, _, _, _, _, _⟩) (v := ?vq2) rfl (by kernel_rfl) (by kernel_rfl) (by kernel_rfl) (fun _ _ _ h => h) (Or.inl ⟨by rfl, ?hyq2⟩) hHeld ?_
  case hyq2 => (intro wS hSw; (try dsimp only at hSw); go_simp; (first | done | with_reducible rfl))
  try simp only [Act.put, List.setIfInBounds_toArray, List.set_cons_zero, List.set_cons_succ]
  refine wpAnyH_take (i := 3) (oi := ⟨_, _, _, _, _, _⟩) (v := ?vq3) rfl (by kernel_rfl) (by kernel_rfl) (by kernel_rfl) (fun _ _ _ h => h) (Or.inl ⟨by rfl, ?hyq3⟩) hHeld ?_
  case hyq3 => (intro wS hSw; (try dsimp only at hSw); go_simp; (first | done | with_reducible rfl))
  try simp only [Act.put, List.setIfInBounds_toArray, List.set_cons_zero, List.set_cons_succ]
  refine wpAnyH_take (i := 5) (oi := ⟨_, _, _, _, _, _⟩) (v := ?vq5) rfl (by kernel_rfl) (by kernel_rfl) (by kernel_rfl) (fun _ _ _ h => h) (Or.inl ⟨by rfl, ?hyq5⟩) hHeld ?_
  case hyq5 => (intro wS hSw; (try dsimp only at hSw); go_simp; (first | done | with_reducible rfl))
  try simp only [Act.put, List.setIfInBounds_toArray, List.set_cons_zero, List.set_cons_succ]
  refine wpAnyH_ready (rs := [4, 6]) (by kernel_rfl) (by simp) ?_
  refine AllReadyH.cons (o := ⟨_, _, _, _, _, _⟩) rfl (fun K hK => ?_) (AllReadyH.cons (o := ⟨_, _, _, _, _, _⟩) rfl (fun K hK => ?_) AllReadyH.nil)
  · have c7 := HC7.out
    go_simp
    clear c7
    refine hK.out _ _ ?kqa4 (fun hNew => ?_)
    case kqa4 => (try dsimp only); (try trivial)
    clear hK K hHeld
    have hHeld := hNew
    clear hNew
    try simp only [Act.put, List.setIfInBounds_toArray, List.set_cons_zero, List.set_cons_succ]
    refine wpAnyH_ready (rs := [6]) (by kernel_rfl) (by simp) ?_
    refine AllReadyH.cons (o := ⟨_, _, _, _, _, _⟩) rfl (fun K hK => ?_) AllReadyH.nil
    go_simp
    refine (clone_row A l n cap _ HNL.out.symm (by exact HA5.out) (by have := HLM.out; have := HNL.out; omega)).mono ?_
    rintro e w6 ⟨y, rfl, hr6, hb6⟩
    obtain ⟨Ay, capy, rfl, _, _⟩ := row_len hr6
    have HR6 := Lib.hid hr6
    have HB6 : Hid (Below w5.heap.size w5 w6) := ⟨hb6.os, hb6.tape, hb6.output, hb6.size, hb6.block⟩
    clear hr6 hb6
    have HC7b : Hid (w6.cell? ⟨jb, 7, none⟩ = some (.slice Ar J.recs.length capr)) := JBlk.cell ((HB6.out.block jb HI5.out.blk.lt).trans HI5.out.blk) 7
    have HM7 := Lib.hid (app_mid7 HI5.out HB6.out (World.grownBy_alloc w6 (.cells #[.slice Ay l.length capy] 23) none))
    go_wp2_with fail
    refine hK.out _ _ ?kqa6 (fun hNew => ?_)
    case kqa6 => (try dsimp only); (try trivial)
    clear hK K hHeld
    have hHeld := hNew
    clear hNew
    try simp only [Act.put, List.setIfInBounds_toArray, List.set_cons_zero, List.set_cons_succ]
    refine wpAnyH_ready (rs := [7]) (by kernel_rfl) (by simp) ?_
    refine AllReadyH.cons (o := ⟨_, _, _, _, _, _⟩) rfl (fun K hK => ?_) AllReadyH.nil
    go_simp
    refine hK.out _ _ ?kqa7 (fun hNew => ?_)
    case kqa7 => (try dsimp only); (try trivial)
    clear hK K hHeld
    have hHeld := hNew
    clear hNew
    try simp only [Act.put, List.setIfInBounds_toArray, List.set_cons_zero, List.set_cons_succ]
    refine wpAnyH_ready (rs := [8]) (by kernel_rfl) (by simp) ?_
    refine AllReadyH.cons (o := ⟨_, _, _, _, _, _⟩) rfl (fun K hK => ?_) AllReadyH.nil
    refine step_append_rec rfl (.tmp 43) (.tmp 46) rfl 0 (.slice Ar J.recs.length capr) (.slice Ay l.length capy) J.recs.length vs rfl HM7.out.2 w6.heap.size rfl (cell_new w6 _ _) rfl (by have := HRL.out; omega) (Nat.zero_le _) ?_
    intro v8 w8 h8 hg8 hob8
    obtain ⟨A8, cap8, rfl, _, _⟩ := row_len h8
    have HM8 := Lib.hid (app_mid8 HM7.out hg8)
    have H8 := Lib.hid h8
    have HG8 := Lib.hid hg8
    have HOB8 := Lib.hid hob8
    clear h8 hg8 hob8
    refine hK.out _ _ ?kqa8 (fun hNew => ?_)
    case kqa8 => (try dsimp only); (try trivial)
    clear hK K hHeld
    have hHeld := hNew
    clear hNew
    try simp only [Act.put, List.setIfInBounds_toArray, List.set_cons_zero, List.set_cons_succ]
    refine wpAnyH_take (i := 9) (oi := ⟨_, _, _, _, _, _⟩) (v := ?vqa9) rfl (by kernel_rfl) (by kernel_rfl) (by kernel_rfl) (fun _ _ _ h => h) (Or.inl ⟨by rfl, ?hyqa9⟩) hHeld ?_
    case hyqa9 => (intro wS hSw; (try dsimp only at hSw); go_simp; (first | done | with_reducible rfl))
    try simp only [Act.put, List.setIfInBounds_toArray, List.set_cons_zero, List.set_cons_succ]
    refine wpAnyH_take (i := 10) (oi := ⟨_, _, _, _, _, _⟩) (v := ?vqa10) rfl (by kernel_rfl) (by kernel_rfl) (by kernel_rfl) (fun _ _ _ h => h) (Or.inl ⟨by rfl, ?hyqa10⟩) hHeld ?_
    case hyqa10 => (intro wS hSw; (try dsimp only at hSw); go_simp; (first | done | with_reducible rfl))
    try simp only [Act.put, List.setIfInBounds_toArray, List.set_cons_zero, List.set_cons_succ]
    refine wpAnyH_ready (rs := [11]) (by kernel_rfl) (by simp) ?_
    refine AllReadyH.cons (o := ⟨_, _, _, _, _, _⟩) rfl (fun K hK => ?_) AllReadyH.nil
    have c8 : w8.cell? ⟨jb, 7, none⟩ = some (.slice Ar J.recs.length capr) := HM8.out.cell 7
    have z8 := frozen_blk HM8.out 7
    go_simp
    clear c8 z8
    refine hK.out _ _ ?kqa11 (fun hNew => ?_)
    case kqa11 => (try dsimp only); (try trivial)
    clear hK K hHeld
    have hHeld := hNew
    clear hNew
    try simp only [Act.put, List.setIfInBounds_toArray, List.set_cons_zero, List.set_cons_succ]
    refine wpAnyH_done (by kernel_rfl) ?_ _
    refine NoPanic.normal ?_
    clear hHeld
    have HB9 := Lib.hid (heap_setCell_same w8 jb 7 _ _ (.slice A8 (J.recs.length + 1) cap8) HM8.out)
    obtain ⟨w9, hw9⟩ : ∃ x, x = w8.setCell ⟨jb, 7, none⟩ (.slice A8 (J.recs.length + 1) cap8) := ⟨_, rfl⟩
    rw [← hw9] at HB9 ⊢
    have HW9 := Lib.hid hw9
    clear hw9
    have c8 : w9.cell? ⟨jb, 8, none⟩ = some (.int .i64 (J.used : Int)) := cell_blk HB9.out 8
    have z8 : w9.frozen? ⟨jb, 8, none⟩ = false := frozen_blk HB9.out 8
    have c9 : w9.cell? ⟨jb, 9, none⟩ = some (.int .i64 0) := cell_blk HB9.out 9
    go_upto_region 7 with fail
    refine wp_region_noPanic ?_
    refine wp_region_held_drew (S := fun _ => True) (by kernel_rfl) ?hSqa7 (fun hHeld => ?_)
    case hSqa7 => trivial
    refine wpAnyH_take (i := 0) (oi := ⟨_, _, _, _, _, _⟩) (v := ?vqa70) rfl (by kernel_rfl) (by kernel_rfl) (by kernel_rfl) (fun _ _ _ h => h) (Or.inl ⟨by rfl, ?hyqa70⟩) hHeld ?_
    case hyqa70 => (intro wS hSw; (try dsimp only at hSw); go_simp; (first | done | with_reducible rfl))
    try simp only [Act.put, List.setIfInBounds_toArray, List.set_cons_zero, List.set_cons_succ]
    refine wpAnyH_take (i := 1) (oi := ⟨_, _, _, _, _, _⟩) (v := ?vqa71) rfl (by kernel_rfl) (by kernel_rfl) (by kernel_rfl) (fun _ _ _ h => h) (Or.inl ⟨by rfl, ?hyqa71⟩) hHeld ?_
    case hyqa71 => (intro wS hSw; (try dsimp only at hSw); go_simp; (first | done | with_reducible rfl))
    try simp only [Act.put, List.setIfInBounds_toArray, List.set_cons_zero, List.set_cons_succ]
    refine wpAnyH_take (i := 2) (oi := ⟨_, _, _, _, _, _⟩) (v := ?vqa72) rfl (by kernel_rfl) (by kernel_rfl) (by kernel_rfl) (fun _ _ _ h => h) (Or.inl ⟨by rfl, ?hyqa72⟩) hHeld ?_
    case hyqa72 => (intro wS hSw; (try dsimp only at hSw); go_simp; (first | done | with_reducible rfl))
    try simp only [Act.put, List.setIfInBounds_toArray, List.set_cons_zero, List.set_cons_succ]
    refine wpAnyH_take (i := 4) (oi := ⟨_, _, _, _, _, _⟩) (v := ?vqa74) rfl (by kernel_rfl) (by kernel_rfl) (by kernel_rfl) (fun _ _ _ h => h) (Or.inl ⟨by rfl, ?hyqa74⟩) hHeld ?_
    case hyqa74 => (intro wS hSw; (try dsimp only at hSw); go_simp; (first | done | with_reducible rfl))
    try simp only [Act.put, List.setIfInBounds_toArray, List.set_cons_zero, List.set_cons_succ]
    refine wpAnyH_take (i := 5) (oi := ⟨_, _, _, _, _, _⟩) (v := ?vqa75) rfl (by kernel_rfl) (by kernel_rfl) (by kernel_rfl) (fun _ _ _ h => h) (Or.inl ⟨by rfl, ?hyqa75⟩) hHeld ?_
    case hyqa75 => (intro wS hSw; (try dsimp only at hSw); go_simp; (first | done | with_reducible rfl))
    try simp only [Act.put, List.setIfInBounds_toArray, List.set_cons_zero, List.set_cons_succ]
    refine wpAnyH_ready (rs := [3, 6]) (by kernel_rfl) (by simp) ?_
    refine AllReadyH.cons (o := ⟨_, _, _, _, _, _⟩) rfl (fun K hK => ?_) (AllReadyH.cons (o := ⟨_, _, _, _, _, _⟩) rfl (fun K hK => ?_) AllReadyH.nil)
    · go_simp
      refine hK.out _ _ ?kqa7x3 (fun hNew => ?_)
      case kqa7x3 => (try dsimp only); (try trivial)
      clear hK K hHeld
      have hHeld := hNew
      clear hNew
      try simp only [Act.put, List.setIfInBounds_toArray, List.set_cons_zero, List.set_cons_succ]
      refine wpAnyH_ready (rs := [6]) (by kernel_rfl) (by simp) ?_
      refine AllReadyH.cons (o := ⟨_, _, _, _, _, _⟩) rfl (fun K hK => ?_) AllReadyH.nil
      go_simp
      refine (count_at n (by have h1 := HLM.out; have h2 := HNL.out; omega) _).mono ?_
      rintro e wq ⟨rfl, rfl⟩
      go_wp2_with fail
      refine hK.out _ _ ?kqa7x6 (fun hNew => ?_)
      case kqa7x6 => (try dsimp only); (try trivial)
      clear hK K hHeld
      have hHeld := hNew
      clear hNew
      try simp only [Act.put, List.setIfInBounds_toArray, List.set_cons_zero, List.set_cons_succ]
      refine wpAnyH_ready (rs := [7]) (by kernel_rfl) (by simp) ?_
      refine AllReadyH.cons (o := ⟨_, _, _, _, _, _⟩) rfl (fun K hK => ?_) AllReadyH.nil
      go_simp
      rw [HW2.out]
      refine hK.out _ _ ?kqa7x7 (fun hNew => ?_)
      case kqa7x7 => (try dsimp only); (try trivial)
      clear hK K hHeld
      have hHeld := hNew
      clear hNew
      try simp only [Act.put, List.setIfInBounds_toArray, List.set_cons_zero, List.set_cons_succ]
      refine wpAnyH_take (i := 8) (oi := ⟨_, _, _, _, _, _⟩) (v := ?vqa7x8) rfl (by kernel_rfl) (by kernel_rfl) (by kernel_rfl) (fun _ _ _ h => h) (Or.inl ⟨by rfl, ?hyqa7x8⟩) hHeld ?_
      case hyqa7x8 => (intro wS hSw; (try dsimp only at hSw); go_simp; (first | done | with_reducible rfl))
      try simp only [Act.put, List.setIfInBounds_toArray, List.set_cons_zero, List.set_cons_succ]
      refine wpAnyH_take (i := 9) (oi := ⟨_, _, _, _, _, _⟩) (v := ?vqa7x9) rfl (by kernel_rfl) (by kernel_rfl) (by kernel_rfl) (fun _ _ _ h => h) (Or.inl ⟨by rfl, ?hyqa7x9⟩) hHeld ?_
      case hyqa7x9 => (intro wS hSw; (try dsimp only at hSw); go_simp; (first | done | with_reducible rfl))
      try simp only [Act.put, List.setIfInBounds_toArray, List.set_cons_zero, List.set_cons_succ]
      refine wpAnyH_ready (rs := [10]) (by kernel_rfl) (by simp) ?_
      refine AllReadyH.cons (o := ⟨_, _, _, _, _, _⟩) rfl (fun K hK => ?_) AllReadyH.nil
      go_simp
      refine hK.out _ _ ?kqa7x10 (fun hNew => ?_)
      case kqa7x10 => (try dsimp only); (try trivial)
      clear hK K hHeld
      have hHeld := hNew
      clear hNew
      try simp only [Act.put, List.setIfInBounds_toArray, List.set_cons_zero, List.set_cons_succ]
      refine wpAnyH_done (by kernel_rfl) ?_ _
      refine NoPanic.normal ?_
      clear hHeld
      go_wp2_with fail
      go_ret
      refine ⟨rfl, ?_⟩
      have ho5 := HO5.out
      have h5 := HI5.out
      have hb6 := HB6.out
      have hr := HR6.out
      have h8 := H8.out
      have hg8 := HG8.out
      have hob := HOB8.out
      have hd5 := HD5.out
      have hs5 := HS5.out
      have hjw := HI.out.lt
      have hlast := app_end (x := (w9.setCell ⟨jb, 8, none⟩ (.int .i64 ((J.used : Int) + (parts n : Int)))).drew) (D5 := appD D J l) (Sd5 := Sd5) ho5 (by exact hjw) h5 hb6 (by exact hr) (World.grownBy_alloc w6 _ none) (by exact h8) (by exact hg8) (by exact hob) (by rw [HW9.out, HNL.out, Int.natCast_add]; exact ⟨rfl, rfl, rfl, Nat.le_refl _, fun _ _ _ => rfl⟩) HSS.out (by exact hs5) (by unfold appD; rw [← HNL.out]; exact hd5)
      exact hlast
    · go_simp
      refine (count_at n (by have h1 := HLM.out; have h2 := HNL.out; omega) _).mono ?_
      rintro e wq ⟨rfl, rfl⟩
      go_wp2_with fail
      refine hK.out _ _ ?kqa7y6 (fun hNew => ?_)
      case kqa7y6 => (try dsimp only); (try trivial)
      clear hK K hHeld
      have hHeld := hNew
      clear hNew
      try simp only [Act.put, List.setIfInBounds_toArray, List.set_cons_zero, List.set_cons_succ]
      refine wpAnyH_ready (rs := [3]) (by kernel_rfl) (by simp) ?_
      refine AllReadyH.cons (o := ⟨_, _, _, _, _, _⟩) rfl (fun K hK => ?_) AllReadyH.nil
      go_simp
      refine hK.out _ _ ?kqa7y3 (fun hNew => ?_)
      case kqa7y3 => (try dsimp only); (try trivial)
      clear hK K hHeld
      have hHeld := hNew
      clear hNew
      try simp only [Act.put, List.setIfInBounds_toArray, List.set_cons_zero, List.set_cons_succ]
      refine wpAnyH_ready (rs := [7]) (by kernel_rfl) (by simp) ?_
      refine AllReadyH.cons (o := ⟨_, _, _, _, _, _⟩) rfl (fun K hK => ?_) AllReadyH.nil
      go_simp
      rw [HW2.out]
      refine hK.out _ _ ?kqa7y7 (fun hNew => ?_)
      case kqa7y7 => (try dsimp only); (try trivial)
      clear hK K hHeld
      have hHeld := hNew
      clear hNew
      try simp only [Act.put, List.setIfInBounds_toArray, List.set_cons_zero, List.set_cons_succ]
      refine wpAnyH_take (i := 8) (oi := ⟨_, _, _, _, _, _⟩) (v := ?vqa7y8) rfl (by kernel_rfl) (by kernel_rfl) (by kernel_rfl) (fun _ _ _ h => h) (Or.inl ⟨by rfl, ?hyqa7y8⟩) hHeld ?_
      case hyqa7y8 => (intro wS hSw; (try dsimp only at hSw); go_simp; (first | done | with_reducible rfl))
      try simp only [Act.put, List.setIfInBounds_toArray, List.set_cons_zero, List.set_cons_succ]
      refine wpAnyH_take (i := 9) (oi := ⟨_, _, _, _, _, _⟩) (v := ?vqa7y9) rfl (by kernel_rfl) (by kernel_rfl) (by kernel_rfl) (fun _ _ _ h => h) (Or.inl ⟨by rfl, ?hyqa7y9⟩) hHeld ?_
      case hyqa7y9 => (intro wS hSw; (try dsimp only at hSw); go_simp; (first | done | with_reducible rfl))
      try simp only [Act.put, List.setIfInBounds_toArray, List.set_cons_zero, List.set_cons_succ]
      refine wpAnyH_ready (rs := [10]) (by kernel_rfl) (by simp) ?_
      refine AllReadyH.cons (o := ⟨_, _, _, _, _, _⟩) rfl (fun K hK => ?_) AllReadyH.nil
      go_simp
      refine hK.out _ _ ?kqa7y10 (fun hNew => ?_)
      case kqa7y10 => (try dsimp only); (try trivial)
      clear hK K hHeld
      have hHeld := hNew
      clear hNew
      try simp only [Act.put, List.setIfInBounds_toArray, List.set_cons_zero, List.set_cons_succ]
      refine wpAnyH_done (by kernel_rfl) ?_ _
      refine NoPanic.normal ?_
      clear hHeld
      go_wp2_with fail
      go_ret
      refine ⟨rfl, ?_⟩
      have ho5 := HO5.out
      have h5 := HI5.out
      have hb6 := HB6.out
      have hr := HR6.out
      have h8 := H8.out
      have hg8 := HG8.out
      have hob := HOB8.out
      have hd5 := HD5.out
      have hs5 := HS5.out
      have hjw := HI.out.lt
      have hlast := app_end (x := (w9.setCell ⟨jb, 8, none⟩ (.int .i64 ((J.used : Int) + (parts n : Int)))).drew) (D5 := appD D J l) (Sd5 := Sd5) ho5 (by exact hjw) h5 hb6 (by exact hr) (World.grownBy_alloc w6 _ none) (by exact h8) (by exact hg8) (by exact hob) (by rw [HW9.out, HNL.out, Int.natCast_add]; exact ⟨rfl, rfl, rfl, Nat.le_refl _, fun _ _ _ => rfl⟩) HSS.out (by exact hs5) (by unfold appD; rw [← HNL.out]; exact hd5)
      exact hlast
  · go_simp
    refine (clone_row A l n cap _ HNL.out.symm (by exact HA5.out) (by have := HLM.out; have := HNL.out; omega)).mono ?_
    rintro e w6 ⟨y, rfl, hr6, hb6⟩
    obtain ⟨Ay, capy, rfl, _, _⟩ := row_len hr6
    have HR6 := Lib.hid hr6
    have HB6 : Hid (Below w5.heap.size w5 w6) := ⟨hb6.os, hb6.tape, hb6.output, hb6.size, hb6.block⟩
    clear hr6 hb6
    have HC7b : Hid (w6.cell? ⟨jb, 7, none⟩ = some (.slice Ar J.recs.length capr)) := JBlk.cell ((HB6.out.block jb HI5.out.blk.lt).trans HI5.out.blk) 7
    have HM7 := Lib.hid (app_mid7 HI5.out HB6.out (World.grownBy_alloc w6 (.cells #[.slice Ay l.length capy] 23) none))
    go_wp2_with fail
    refine hK.out _ _ ?kqb6 (fun hNew => ?_)
    case kqb6 => (try dsimp only); (try trivial)
    clear hK K hHeld
    have hHeld := hNew
    clear hNew
    try simp only [Act.put, List.setIfInBounds_toArray, List.set_cons_zero, List.set_cons_succ]
    refine wpAnyH_ready (rs := [4, 7]) (by kernel_rfl) (by simp) ?_
    refine AllReadyH.cons (o := ⟨_, _, _, _, _, _⟩) rfl (fun K hK => ?_) (AllReadyH.cons (o := ⟨_, _, _, _, _, _⟩) rfl (fun K hK => ?_) AllReadyH.nil)
    · have c7 := HC7b.out
      go_simp
      clear c7
      refine hK.out _ _ ?kqb4 (fun hNew => ?_)
      case kqb4 => (try dsimp only); (try trivial)
      clear hK K hHeld
      have hHeld := hNew
      clear hNew
      try simp only [Act.put, List.setIfInBounds_toArray, List.set_cons_zero, List.set_cons_succ]
      refine wpAnyH_ready (rs := [7]) (by kernel_rfl) (by simp) ?_
      refine AllReadyH.cons (o := ⟨_, _, _, _, _, _⟩) rfl (fun K hK => ?_) AllReadyH.nil
      go_simp
      refine hK.out _ _ ?kqb7 (fun hNew => ?_)
      case kqb7 => (try dsimp only); (try trivial)
      clear hK K hHeld
      have hHeld := hNew
      clear hNew
      try simp only [Act.put, List.setIfInBounds_toArray, List.set_cons_zero, List.set_cons_succ]
      refine wpAnyH_ready (rs := [8]) (by kernel_rfl) (by simp) ?_
      refine AllReadyH.cons (o := ⟨_, _, _, _, _, _⟩) rfl (fun K hK => ?_) AllReadyH.nil
      refine step_append_rec rfl (.tmp 43) (.tmp 46) rfl 0 (.slice Ar J.recs.length capr) (.slice Ay l.length capy) J.recs.length vs rfl HM7.out.2 w6.heap.size rfl (cell_new w6 _ _) rfl (by have := HRL.out; omega) (Nat.zero_le _) ?_
      intro v8 w8 h8 hg8 hob8
      obtain ⟨A8, cap8, rfl, _, _⟩ := row_len h8
      have HM8 := Lib.hid (app_mid8 HM7.out hg8)
      have H8 := Lib.hid h8
      have HG8 := Lib.hid hg8
      have HOB8 := Lib.hid hob8
      clear h8 hg8 hob8
      refine hK.out _ _ ?kqb8 (fun hNew => ?_)
      case kqb8 => (try dsimp only); (try trivial)
      clear hK K hHeld
      have hHeld := hNew
      clear hNew
      try simp only [Act.put, List.setIfInBounds_toArray, List.set_cons_zero, List.set_cons_succ]
      refine wpAnyH_take (i := 9) (oi := ⟨_, _, _, _, _, _⟩) (v := ?vqb9) rfl (by kernel_rfl) (by kernel_rfl) (by kernel_rfl) (fun _ _ _ h => h) (Or.inl ⟨by rfl, ?hyqb9⟩) hHeld ?_
      case hyqb9 => (intro wS hSw; (try dsimp only at hSw); go_simp; (first | done | with_reducible rfl))
      try simp only [Act.put, List.setIfInBounds_toArray, List.set_cons_zero, List.set_cons_succ]
      refine wpAnyH_take (i := 10) (oi := ⟨_, _, _, _, _, _⟩) (v := ?vqb10) rfl (by kernel_rfl) (by kernel_rfl) (by kernel_rfl) (fun _ _ _ h => h) (Or.inl ⟨by rfl, ?hyqb10⟩) hHeld ?_
      case hyqb10 => (intro wS hSw; (try dsimp only at hSw); go_simp; (first | done | with_reducible rfl))
      try simp only [Act.put, List.setIfInBounds_toArray, List.set_cons_zero, List.set_cons_succ]
      refine wpAnyH_ready (rs := [11]) (by kernel_rfl) (by simp) ?_
      refine AllReadyH.cons (o := ⟨_, _, _, _, _, _⟩) rfl (fun K hK => ?_) AllReadyH.nil
      have c8 : w8.cell? ⟨jb, 7, none⟩ = some (.slice Ar J.recs.length capr) := HM8.out.cell 7
      have z8 := frozen_blk HM8.out 7
      go_simp
      clear c8 z8
      refine hK.out _ _ ?kqb11 (fun hNew => ?_)
      case kqb11 => (try dsimp only); (try trivial)
      clear hK K hHeld
      have hHeld := hNew
      clear hNew
      try simp only [Act.put, List.setIfInBounds_toArray, List.set_cons_zero, List.set_cons_succ]
      refine wpAnyH_done (by kernel_rfl) ?_ _
      refine NoPanic.normal ?_
      clear hHeld
      have HB9 := Lib.hid (heap_setCell_same w8 jb 7 _ _ (.slice A8 (J.recs.length + 1) cap8) HM8.out)
      obtain ⟨w9, hw9⟩ : ∃ x, x = w8.setCell ⟨jb, 7, none⟩ (.slice A8 (J.recs.length + 1) cap8) := ⟨_, rfl⟩
      rw [← hw9] at HB9 ⊢
      have HW9 := Lib.hid hw9
      clear hw9
      have c8 : w9.cell? ⟨jb, 8, none⟩ = some (.int .i64 (J.used : Int)) := cell_blk HB9.out 8
      have z8 : w9.frozen? ⟨jb, 8, none⟩ = false := frozen_blk HB9.out 8
      have c9 : w9.cell? ⟨jb, 9, none⟩ = some (.int .i64 0) := cell_blk HB9.out 9
      go_upto_region 7 with fail
      refine wp_region_noPanic ?_
      refine wp_region_held_drew (S := fun _ => True) (by kernel_rfl) ?hSqb7 (fun hHeld => ?_)
      case hSqb7 => trivial
      refine wpAnyH_take (i := 0) (oi := ⟨_, _, _, _, _, _⟩) (v := ?vqb70) rfl (by kernel_rfl) (by kernel_rfl) (by kernel_rfl) (fun _ _ _ h => h) (Or.inl ⟨by rfl, ?hyqb70⟩) hHeld ?_
      case hyqb70 => (intro wS hSw; (try dsimp only at hSw); go_simp; (first | done | with_reducible rfl))
      try simp only [Act.put, List.setIfInBounds_toArray, List.set_cons_zero, List.set_cons_succ]
      refine wpAnyH_take (i := 1) (oi := ⟨_, _, _, _, _, _⟩) (v := ?vqb71) rfl (by kernel_rfl) (by kernel_rfl) (by kernel_rfl) (fun _ _ _ h => h) (Or.inl ⟨by rfl, ?hyqb71⟩) hHeld ?_
      case hyqb71 => (intro wS hSw; (try dsimp only at hSw); go_simp; (first | done | with_reducible rfl))
      try simp only [Act.put, List.setIfInBounds_toArray, List.set_cons_zero, List.set_cons_succ]
      refine wpAnyH_take (i := 2) (oi := ⟨_, _, _, _, _, _⟩) (v := ?vqb72) rfl (by kernel_rfl) (by kernel_rfl) (by kernel_rfl) (fun _ _ _ h => h) (Or.inl ⟨by rfl, ?hyqb72⟩) hHeld ?_
      case hyqb72 => (intro wS hSw; (try dsimp only at hSw); go_simp; (first | done | with_reducible rfl))
      try simp only [Act.put, List.setIfInBounds_toArray, List.set_cons_zero, List.set_cons_succ]
      refine wpAnyH_take (i := 4) (oi := ⟨_, _, _, _, _, _⟩) (v := ?vqb74) rfl (by kernel_rfl) (by kernel_rfl) (by kernel_rfl) (fun _ _ _ h => h) (Or.inl ⟨by rfl, ?hyqb74⟩) hHeld ?_
      case hyqb74 => (intro wS hSw; (try dsimp only at hSw); go_simp; (first | done | with_reducible rfl))
      try simp only [Act.put, List.setIfInBounds_toArray, List.set_cons_zero, List.set_cons_succ]
      refine wpAnyH_take (i := 5) (oi := ⟨_, _, _, _, _, _⟩) (v := ?vqb75) rfl (by kernel_rfl) (by kernel_rfl) (by kernel_rfl) (fun _ _ _ h => h) (Or.inl ⟨by rfl, ?hyqb75⟩) hHeld ?_
      case hyqb75 => (intro wS hSw; (try dsimp only at hSw); go_simp; (first | done | with_reducible rfl))
      try simp only [Act.put, List.setIfInBounds_toArray, List.set_cons_zero, List.set_cons_succ]
      refine wpAnyH_ready (rs := [3, 6]) (by kernel_rfl) (by simp) ?_
      refine AllReadyH.cons (o := ⟨_, _, _, _, _, _⟩) rfl (fun K hK => ?_) (AllReadyH.cons (o := ⟨_, _, _, _, _, _⟩) rfl (fun K hK => ?_) AllReadyH.nil)
      · go_simp
        refine hK.out _ _ ?kqb7x3 (fun hNew => ?_)
        case kqb7x3 => (try dsimp only); (try trivial)
        clear hK K hHeld
        have hHeld := hNew
        clear hNew
        try simp only [Act.put, List.setIfInBounds_toArray, List.set_cons_zero, List.set_cons_succ]
        refine wpAnyH_ready (rs := [6]) (by kernel_rfl) (by simp) ?_
        refine AllReadyH.cons (o := ⟨_, _, _, _, _, _⟩) rfl (fun K hK => ?_) AllReadyH.nil
        go_simp
        refine (count_at n (by have h1 := HLM.out; have h2 := HNL.out; omega) _).mono ?_
        rintro e wq ⟨rfl, rfl⟩
        go_wp2_with fail
        refine hK.out _ _ ?kqb7x6 (fun hNew => ?_)
        case kqb7x6 => (try dsimp only); (try trivial)
        clear hK K hHeld
        have hHeld := hNew
        clear hNew
        try simp only [Act.put, List.setIfInBounds_toArray, List.set_cons_zero, List.set_cons_succ]
        refine wpAnyH_ready (rs := [7]) (by kernel_rfl) (by simp) ?_
        refine AllReadyH.cons (o := ⟨_, _, _, _, _, _⟩) rfl (fun K hK => ?_) AllReadyH.nil
        go_simp
        rw [HW2.out]
        refine hK.out _ _ ?kqb7x7 (fun hNew => ?_)
        case kqb7x7 => (try dsimp only); (try trivial)
        clear hK K hHeld
        have hHeld := hNew
        clear hNew
        try simp only [Act.put, List.setIfInBounds_toArray, List.set_cons_zero, List.set_cons_succ]
        refine wpAnyH_take (i := 8) (oi := ⟨_, _, _, _, _, _⟩) (v := ?vqb7x8) rfl (by kernel_rfl) (by kernel_rfl) (by kernel_rfl) (fun _ _ _ h => h) (Or.inl ⟨by rfl, ?hyqb7x8⟩) hHeld ?_
        case hyqb7x8 => (intro wS hSw; (try dsimp only at hSw); go_simp; (first | done | with_reducible rfl))
        try simp only [Act.put, List.setIfInBounds_toArray, List.set_cons_zero, List.set_cons_succ]
        refine wpAnyH_take (i := 9) (oi := ⟨_, _, _, _, _, _⟩) (v := ?vqb7x9) rfl (by kernel_rfl) (by kernel_rfl) (by kernel_rfl) (fun _ _ _ h => h) (Or.inl ⟨by rfl, ?hyqb7x9⟩) hHeld ?_
        case hyqb7x9 => (intro wS hSw; (try dsimp only at hSw); go_simp; (first | done | with_reducible rfl))
        try simp only [Act.put, List.setIfInBounds_toArray, List.set_cons_zero, List.set_cons_succ]
        refine wpAnyH_ready (rs := [10]) (by kernel_rfl) (by simp) ?_
        refine AllReadyH.cons (o := ⟨_, _, _, _, _, _⟩) rfl (fun K hK => ?_) AllReadyH.nil
        go_simp
        refine hK.out _ _ ?kqb7x10 (fun hNew => ?_)
        case kqb7x10 => (try dsimp only); (try trivial)
        clear hK K hHeld
        have hHeld := hNew
        clear hNew
        try simp only [Act.put, List.setIfInBounds_toArray, List.set_cons_zero, List.set_cons_succ]
        refine wpAnyH_done (by kernel_rfl) ?_ _
        refine NoPanic.normal ?_
        clear hHeld
        go_wp2_with fail
        go_ret
        refine ⟨rfl, ?_⟩
        have ho5 := HO5.out
        have h5 := HI5.out
        have hb6 := HB6.out
        have hr := HR6.out
        have h8 := H8.out
        have hg8 := HG8.out
        have hob := HOB8.out
        have hd5 := HD5.out
        have hs5 := HS5.out
        have hjw := HI.out.lt
        have hlast := app_end (x := (w9.setCell ⟨jb, 8, none⟩ (.int .i64 ((J.used : Int) + (parts n : Int)))).drew) (D5 := appD D J l) (Sd5 := Sd5) ho5 (by exact hjw) h5 hb6 (by exact hr) (World.grownBy_alloc w6 _ none) (by exact h8) (by exact hg8) (by exact hob) (by rw [HW9.out, HNL.out, Int.natCast_add]; exact ⟨rfl, rfl, rfl, Nat.le_refl _, fun _ _ _ => rfl⟩) HSS.out (by exact hs5) (by unfold appD; rw [← HNL.out]; exact hd5)
        exact hlast
      · go_simp
        refine (count_at n (by have h1 := HLM.out; have h2 := HNL.out; omega) _).mono ?_
        rintro e wq ⟨rfl, rfl⟩
        go_wp2_with fail
        refine hK.out _ _ ?kqb7y6 (fun hNew => ?_)
        case kqb7y6 => (try dsimp only); (try trivial)
        clear hK K hHeld
        have hHeld := hNew
        clear hNew
        try simp only [Act.put, List.setIfInBounds_toArray, List.set_cons_zero, List.set_cons_succ]
        refine wpAnyH_ready (rs := [3]) (by kernel_rfl) (by simp) ?_
        refine AllReadyH.cons (o := ⟨_, _, _, _, _, _⟩) rfl (fun K hK => ?_) AllReadyH.nil
        go_simp
        refine hK.out _ _ ?kqb7y3 (fun hNew => ?_)
        case kqb7y3 => (try dsimp only); (try trivial)
        clear hK K hHeld
        have hHeld := hNew
        clear hNew
        try simp only [Act.put, List.setIfInBounds_toArray, List.set_cons_zero, List.set_cons_succ]
        refine wpAnyH_ready (rs := [7]) (by kernel_rfl) (by simp) ?_
        refine AllReadyH.cons (o := ⟨_, _, _, _, _, _⟩) rfl (fun K hK => ?_) AllReadyH.nil
        go_simp
        rw [HW2.out]
        refine hK.out _ _ ?kqb7y7 (fun hNew => ?_)
        case kqb7y7 => (try dsimp only); (try trivial)
        clear hK K hHeld
        have hHeld := hNew
        clear hNew
        try simp only [Act.put, List.setIfInBounds_toArray, List.set_cons_zero, List.set_cons_succ]
        refine wpAnyH_take (i := 8) (oi := ⟨_, _, _, _, _, _⟩) (v := ?vqb7y8) rfl (by kernel_rfl) (by kernel_rfl) (by kernel_rfl) (fun _ _ _ h => h) (Or.inl ⟨by rfl, ?hyqb7y8⟩) hHeld ?_
        case hyqb7y8 => (intro wS hSw; (try dsimp only at hSw); go_simp; (first | done | with_reducible rfl))
        try simp only [Act.put, List.setIfInBounds_toArray, List.set_cons_zero, List.set_cons_succ]
        refine wpAnyH_take (i := 9) (oi := ⟨_, _, _, _, _, _⟩) (v := ?vqb7y9) rfl (by kernel_rfl) (by kernel_rfl) (by kernel_rfl) (fun _ _ _ h => h) (Or.inl ⟨by rfl, ?hyqb7y9⟩) hHeld ?_
        case hyqb7y9 => (intro wS hSw; (try dsimp only at hSw); go_simp; (first | done | with_reducible rfl))
        try simp only [Act.put, List.setIfInBounds_toArray, List.set_cons_zero, List.set_cons_succ]
        refine wpAnyH_ready (rs := [10]) (by kernel_rfl) (by simp) ?_
        refine AllReadyH.cons (o := ⟨_, _, _, _, _, _⟩) rfl (fun K hK => ?_) AllReadyH.nil
        go_simp
        refine hK.out _ _ ?kqb7y10 (fun hNew => ?_)
        case kqb7y10 => (try dsimp only); (try trivial)
        clear hK K hHeld
        have hHeld := hNew
        clear hNew
        try simp only [Act.put, List.setIfInBounds_toArray, List.set_cons_zero, List.set_cons_succ]
        refine wpAnyH_done (by kernel_rfl) ?_ _
        refine NoPanic.normal ?_
        clear hHeld
        go_wp2_with fail
        go_ret
        refine ⟨rfl, ?_⟩
        have ho5 := HO5.out
        have h5 := HI5.out
        have hb6 := HB6.out
        have hr := HR6.out
        have h8 := H8.out
        have hg8 := HG8.out
        have hob := HOB8.out
        have hd5 := HD5.out
        have hs5 := HS5.out
        have hjw := HI.out.lt
        have hlast := app_end (x := (w9.setCell ⟨jb, 8, none⟩ (.int .i64 ((J.used : Int) + (parts n : Int)))).drew) (D5 := appD D J l) (Sd5 := Sd5) ho5 (by exact hjw) h5 hb6 (by exact hr) (World.grownBy_alloc w6 _ none) (by exact h8) (by exact hg8) (by exact hob) (by rw [HW9.out, HNL.out, Int.natCast_add]; exact ⟨rfl, rfl, rfl, Nat.le_refl _, fun _ _ _ => rfl⟩) HSS.out (by exact hs5) (by unfold appD; rw [← HNL.out]; exact hd5)
        exact hlast
    · go_simp
      refine hK.out _ _ ?kqc7 (fun hNew => ?_)
      case kqc7 => (try dsimp only); (try trivial)
      clear hK K hHeld
      have hHeld := hNew
      clear hNew
      try simp only [Act.put, List.setIfInBounds_toArray, List.set_cons_zero, List.set_cons_succ]
      refine wpAnyH_ready (rs := [4]) (by kernel_rfl) (by simp) ?_
      refine AllReadyH.cons (o := ⟨_, _, _, _, _, _⟩) rfl (fun K hK => ?_) AllReadyH.nil
      have c7 : (w6.alloc (.cells #[.slice Ay l.length capy] 23)).cell? ⟨jb, 7, none⟩ = some (.slice Ar J.recs.length capr) := HM7.out.1.cell 7
      go_simp
      clear c7
      refine hK.out _ _ ?kqc4 (fun hNew => ?_)
      case kqc4 => (try dsimp only); (try trivial)
      clear hK K hHeld
      have hHeld := hNew
      clear hNew
      try simp only [Act.put, List.setIfInBounds_toArray, List.set_cons_zero, List.set_cons_succ]
      refine wpAnyH_ready (rs := [8]) (by kernel_rfl) (by simp) ?_
      refine AllReadyH.cons (o := ⟨_, _, _, _, _, _⟩) rfl (fun K hK => ?_) AllReadyH.nil
      refine step_append_rec rfl (.tmp 43) (.tmp 46) rfl 0 (.slice Ar J.recs.length capr) (.slice Ay l.length capy) J.recs.length vs rfl HM7.out.2 w6.heap.size rfl (cell_new w6 _ _) rfl (by have := HRL.out; omega) (Nat.zero_le _) ?_
      intro v8 w8 h8 hg8 hob8
      obtain ⟨A8, cap8, rfl, _, _⟩ := row_len h8
      have HM8 := Lib.hid (app_mid8 HM7.out hg8)
      have H8 := Lib.hid h8
      have HG8 := Lib.hid hg8
      have HOB8 := Lib.hid hob8
      clear h8 hg8 hob8
      refine hK.out _ _ ?kqc8 (fun hNew => ?_)
      case kqc8 => (try dsimp only); (try trivial)
      clear hK K hHeld
      have hHeld := hNew
      clear hNew
      try simp only [Act.put, List.setIfInBounds_toArray, List.set_cons_zero, List.set_cons_succ]
      refine wpAnyH_take (i := 9) (oi := ⟨_, _, _, _, _, _⟩) (v := ?vqc9) rfl (by kernel_rfl) (by kernel_rfl) (by kernel_rfl) (fun _ _ _ h => h) (Or.inl ⟨by rfl, ?hyqc9⟩) hHeld ?_
      case hyqc9 => (intro wS hSw; (try dsimp only at hSw); go_simp; (first | done | with_reducible rfl))
      try simp only [Act.put, List.setIfInBounds_toArray, List.set_cons_zero, List.set_cons_succ]
      refine wpAnyH_take (i := 10) (oi := ⟨_, _, _, _, _, _⟩) (v := ?vqc10) rfl (by kernel_rfl) (by kernel_rfl) (by kernel_rfl) (fun _ _ _ h => h) (Or.inl ⟨by rfl, ?hyqc10⟩) hHeld ?_
      case hyqc10 => (intro wS hSw; (try dsimp only at hSw); go_simp; (first | done | with_reducible rfl))
      try simp only [Act.put, List.setIfInBounds_toArray, List.set_cons_zero, List.set_cons_succ]
      refine wpAnyH_ready (rs := [11]) (by kernel_rfl) (by simp) ?_
      refine AllReadyH.cons (o := ⟨_, _, _, _, _, _⟩) rfl (fun K hK => ?_) AllReadyH.nil
      have c8 : w8.cell? ⟨jb, 7, none⟩ = some (.slice Ar J.recs.length capr) := HM8.out.cell 7
      have z8 := frozen_blk HM8.out 7
      go_simp
      clear c8 z8
      refine hK.out _ _ ?kqc11 (fun hNew => ?_)
      case kqc11 => (try dsimp only); (try trivial)
      clear hK K hHeld
      have hHeld := hNew
      clear hNew
      try simp only [Act.put, List.setIfInBounds_toArray, List.set_cons_zero, List.set_cons_succ]
      refine wpAnyH_done (by kernel_rfl) ?_ _
      refine NoPanic.normal ?_
      clear hHeld
      have HB9 := Lib.hid (heap_setCell_same w8 jb 7 _ _ (.slice A8 (J.recs.length + 1) cap8) HM8.out)
      obtain ⟨w9, hw9⟩ : ∃ x, x = w8.setCell ⟨jb, 7, none⟩ (.slice A8 (J.recs.length + 1) cap8) := ⟨_, rfl⟩
      rw [← hw9] at HB9 ⊢
      have HW9 := Lib.hid hw9
      clear hw9
      have c8 : w9.cell? ⟨jb, 8, none⟩ = some (.int .i64 (J.used : Int)) := cell_blk HB9.out 8
      have z8 : w9.frozen? ⟨jb, 8, none⟩ = false := frozen_blk HB9.out 8
      have c9 : w9.cell? ⟨jb, 9, none⟩ = some (.int .i64 0) := cell_blk HB9.out 9
      go_upto_region 7 with fail
      refine wp_region_noPanic ?_
      refine wp_region_held_drew (S := fun _ => True) (by kernel_rfl) ?hSqc7 (fun hHeld => ?_)
      case hSqc7 => trivial
      refine wpAnyH_take (i := 0) (oi := ⟨_, _, _, _, _, _⟩) (v := ?vqc70) rfl (by kernel_rfl) (by kernel_rfl) (by kernel_rfl) (fun _ _ _ h => h) (Or.inl ⟨by rfl, ?hyqc70⟩) hHeld ?_
      case hyqc70 => (intro wS hSw; (try dsimp only at hSw); go_simp; (first | done | with_reducible rfl))
      try simp only [Act.put, List.setIfInBounds_toArray, List.set_cons_zero, List.set_cons_succ]
      refine wpAnyH_take (i := 1) (oi := ⟨_, _, _, _, _, _⟩) (v := ?vqc71) rfl (by kernel_rfl) (by kernel_rfl) (by kernel_rfl) (fun _ _ _ h => h) (Or.inl ⟨by rfl, ?hyqc71⟩) hHeld ?_
      case hyqc71 => (intro wS hSw; (try dsimp only at hSw); go_simp; (first | done | with_reducible rfl))
      try simp only [Act.put, List.setIfInBounds_toArray, List.set_cons_zero, List.set_cons_succ]
      refine wpAnyH_take (i := 2) (oi := ⟨_, _, _, _, _, _⟩) (v := ?vqc72) rfl (by kernel_rfl) (by kernel_rfl) (by kernel_rfl) (fun _ _ _ h => h) (Or.inl ⟨by rfl, ?hyqc72⟩) hHeld ?_
      case hyqc72 => (intro wS hSw; (try dsimp only at hSw); go_simp; (first | done | with_reducible rfl))
      try simp only [Act.put, List.setIfInBounds_toArray, List.set_cons_zero, List.set_cons_succ]
      refine wpAnyH_take (i := 4) (oi := ⟨_, _, _, _, _, _⟩) (v := ?vqc74) rfl (by kernel_rfl) (by kernel_rfl) (by kernel_rfl) (fun _ _ _ h => h) (Or.inl ⟨by rfl, ?hyqc74⟩) hHeld ?_
      case hyqc74 => (intro wS hSw; (try dsimp only at hSw); go_simp; (first | done | with_reducible rfl))
      try simp only [Act.put, List.setIfInBounds_toArray, List.set_cons_zero, List.set_cons_succ]
      refine wpAnyH_take (i := 5) (oi := ⟨_, _, _, _, _, _⟩) (v := ?vqc75) rfl (by kernel_rfl) (by kernel_rfl) (by kernel_rfl) (fun _ _ _ h => h) (Or.inl ⟨by rfl, ?hyqc75⟩) hHeld ?_
      case hyqc75 => (intro wS hSw; (try dsimp only at hSw); go_simp; (first | done | with_reducible rfl))
      try simp only [Act.put, List.setIfInBounds_toArray, List.set_cons_zero, List.set_cons_succ]
      refine wpAnyH_ready (rs := [3, 6]) (by kernel_rfl) (by simp) ?_
      refine AllReadyH.cons (o := ⟨_, _, _, _, _, _⟩) rfl (fun K hK => ?_) (AllReadyH.cons (o := ⟨_, _, _, _, _, _⟩) rfl (fun K hK => ?_) AllReadyH.nil)
      · go_simp
        refine hK.out _ _ ?kqc7x3 (fun hNew => ?_)
        case kqc7x3 => (try dsimp only); (try trivial)
        clear hK K hHeld
        have hHeld := hNew
        clear hNew
        try simp only [Act.put, List.setIfInBounds_toArray, List.set_cons_zero, List.set_cons_succ]
        refine wpAnyH_ready (rs := [6]) (by kernel_rfl) (by simp) ?_
        refine AllReadyH.cons (o := ⟨_, _, _, _, _, _⟩) rfl (fun K hK => ?_) AllReadyH.nil
        go_simp
        refine (count_at n (by have h1 := HLM.out; have h2 := HNL.out; omega) _).mono ?_
        rintro e wq ⟨rfl, rfl⟩
        go_wp2_with fail
        refine hK.out _ _ ?kqc7x6 (fun hNew => ?_)
        case kqc7x6 => (try dsimp only); (try trivial)
        clear hK K hHeld
        have hHeld := hNew
        clear hNew
        try simp only [Act.put, List.setIfInBounds_toArray, List.set_cons_zero, List.set_cons_succ]
        refine wpAnyH_ready (rs := [7]) (by kernel_rfl) (by simp) ?_
        refine AllReadyH.cons (o := ⟨_, _, _, _, _, _⟩) rfl (fun K hK => ?_) AllReadyH.nil
        go_simp
        rw [HW2.out]
        refine hK.out _ _ ?kqc7x7 (fun hNew => ?_)
        case kqc7x7 => (try dsimp only); (try trivial)
        clear hK K hHeld
        have hHeld := hNew
        clear hNew
        try simp only [Act.put, List.setIfInBounds_toArray, List.set_cons_zero, List.set_cons_succ]
        refine wpAnyH_take (i := 8) (oi := ⟨_, _, _, _, _, _⟩) (v := ?vqc7x8) rfl (by kernel_rfl) (by kernel_rfl) (by kernel_rfl) (fun _ _ _ h => h) (Or.inl ⟨by rfl, ?hyqc7x8⟩) hHeld ?_
        case hyqc7x8 => (intro wS hSw; (try dsimp only at hSw); go_simp; (first | done | with_reducible rfl))
        try simp only [Act.put, List.setIfInBounds_toArray, List.set_cons_zero, List.set_cons_succ]
        refine wpAnyH_take (i := 9) (oi := ⟨_, _, _, _, _, _⟩) (v := ?vqc7x9) rfl (by kernel_rfl) (by kernel_rfl) (by kernel_rfl) (fun _ _ _ h => h) (Or.inl ⟨by rfl, ?hyqc7x9⟩) hHeld ?_
        case hyqc7x9 => (intro wS hSw; (try dsimp only at hSw); go_simp; (first | done | with_reducible rfl))
        try simp only [Act.put, List.setIfInBounds_toArray, List.set_cons_zero, List.set_cons_succ]
        refine wpAnyH_ready (rs := [10]) (by kernel_rfl) (by simp) ?_
        refine AllReadyH.cons (o := ⟨_, _, _, _, _, _⟩) rfl (fun K hK => ?_) AllReadyH.nil
        go_simp
        refine hK.out _ _ ?kqc7x10 (fun hNew => ?_)
        case kqc7x10 => (try dsimp only); (try trivial)
        clear hK K hHeld
        have hHeld := hNew
        clear hNew
        try simp only [Act.put, List.setIfInBounds_toArray, List.set_cons_zero, List.set_cons_succ]
        refine wpAnyH_done (by kernel_rfl) ?_ _
        refine NoPanic.normal ?_
        clear hHeld
        go_wp2_with fail
        go_ret
        refine ⟨rfl, ?_⟩
        have ho5 := HO5.out
        have h5 := HI5.out
        have hb6 := HB6.out
        have hr := HR6.out
        have h8 := H8.out
        have hg8 := HG8.out
        have hob := HOB8.out
        have hd5 := HD5.out
        have hs5 := HS5.out
        have hjw := HI.out.lt
        have hlast := app_end (x := (w9.setCell ⟨jb, 8, none⟩ (.int .i64 ((J.used : Int) + (parts n : Int)))).drew) (D5 := appD D J l) (Sd5 := Sd5) ho5 (by exact hjw) h5 hb6 (by exact hr) (World.grownBy_alloc w6 _ none) (by exact h8) (by exact hg8) (by exact hob) (by rw [HW9.out, HNL.out, Int.natCast_add]; exact ⟨rfl, rfl, rfl, Nat.le_refl _, fun _ _ _ => rfl⟩) HSS.out (by exact hs5) (by unfold appD; rw [← HNL.out]; exact hd5)
        exact hlast
      · go_simp
        refine (count_at n (by have h1 := HLM.out; have h2 := HNL.out; omega) _).mono ?_
        rintro e wq ⟨rfl, rfl⟩
        go_wp2_with fail
        refine hK.out _ _ ?kqc7y6 (fun hNew => ?_)
        case kqc7y6 => (try dsimp only); (try trivial)
        clear hK K hHeld
        have hHeld := hNew
        clear hNew
        try simp only [Act.put, List.setIfInBounds_toArray, List.set_cons_zero, List.set_cons_succ]
        refine wpAnyH_ready (rs := [3]) (by kernel_rfl) (by simp) ?_
        refine AllReadyH.cons (o := ⟨_, _, _, _, _, _⟩) rfl (fun K hK => ?_) AllReadyH.nil
        go_simp
        refine hK.out _ _ ?kqc7y3 (fun hNew => ?_)
        case kqc7y3 => (try dsimp only); (try trivial)
        clear hK K hHeld
        have hHeld := hNew
        clear hNew
        try simp only [Act.put, List.setIfInBounds_toArray, List.set_cons_zero, List.set_cons_succ]
        refine wpAnyH_ready (rs := [7]) (by kernel_rfl) (by simp) ?_
        refine AllReadyH.cons (o := ⟨_, _, _, _, _, _⟩) rfl (fun K hK => ?_) AllReadyH.nil
        go_simp
        rw [HW2.out]
        refine hK.out _ _ ?kqc7y7 (fun hNew => ?_)
        case kqc7y7 => (try dsimp only); (try trivial)
        clear hK K hHeld
        have hHeld := hNew
        clear hNew
        try simp only [Act.put, List.setIfInBounds_toArray, List.set_cons_zero, List.set_cons_succ]
        refine wpAnyH_take (i := 8) (oi := ⟨_, _, _, _, _, _⟩) (v := ?vqc7y8) rfl (by kernel_rfl) (by kernel_rfl) (by kernel_rfl) (fun _ _ _ h => h) (Or.inl ⟨by rfl, ?hyqc7y8⟩) hHeld ?_
        case hyqc7y8 => (intro wS hSw; (try dsimp only at hSw); go_simp; (first | done | with_reducible rfl))
        try simp only [Act.put, List.setIfInBounds_toArray, List.set_cons_zero, List.set_cons_succ]
        refine wpAnyH_take (i := 9) (oi := ⟨_, _, _, _, _, _⟩) (v := ?vqc7y9) rfl (by kernel_rfl) (by kernel_rfl) (by kernel_rfl) (fun _ _ _ h => h) (Or.inl ⟨by rfl, ?hyqc7y9⟩) hHeld ?_
        case hyqc7y9 => (intro wS hSw; (try dsimp only at hSw); go_simp; (first | done | with_reducible rfl))
        try simp only [Act.put, List.setIfInBounds_toArray, List.set_cons_zero, List.set_cons_succ]
        refine wpAnyH_ready (rs := [10]) (by kernel_rfl) (by simp) ?_
        refine AllReadyH.cons (o := ⟨_, _, _, _, _, _⟩) rfl (fun K hK => ?_) AllReadyH.nil
        go_simp
        refine hK.out _ _ ?kqc7y10 (fun hNew => ?_)
        case kqc7y10 => (try dsimp only); (try trivial)
        clear hK K hHeld
        have hHeld := hNew
        clear hNew
        try simp only [Act.put, List.setIfInBounds_toArray, List.set_cons_zero, List.set_cons_succ]
        refine wpAnyH_done (by kernel_rfl) ?_ _
        refine NoPanic.normal ?_
        clear hHeld
        go_wp2_with fail
        go_ret
        refine ⟨rfl, ?_⟩
        have ho5 := HO5.out
        have h5 := HI5.out
        have hb6 := HB6.out
        have hr := HR6.out
        have h8 := H8.out
        have hg8 := HG8.out
        have hob := HOB8.out
        have hd5 := HD5.out
        have hs5 := HS5.out
        have hjw := HI.out.lt
        have hlast := app_end (x := (w9.setCell ⟨jb, 8, none⟩ (.int .i64 ((J.used : Int) + (parts n : Int)))).drew) (D5 := appD D J l) (Sd5 := Sd5) ho5 (by exact hjw) h5 hb6 (by exact hr) (World.grownBy_alloc w6 _ none) (by exact h8) (by exact hg8) (by exact hob) (by rw [HW9.out, HNL.out, Int.natCast_add]; exact ⟨rfl, rfl, rfl, Nat.le_refl _, fun _ _ _ => rfl⟩) HSS.out (by exact hs5) (by unfold appD; rw [← HNL.out]; exact hd5)
        exact hlast
end Go.Proofs.Ytgdedgfohjplmaa.Jnl
