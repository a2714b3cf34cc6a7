/- What a write lays: its block; the row of writes, one longer. -/
import Derived.OrdersHeld
import Derived.Deep.RegionHeld3
import Derived.Test.YtplnkpbfnpajjaaSecWOps
namespace Go.Proofs.Ytplnkpbfnpajjaa.Sec
open Go.RowKit Go.Maps

/-- A slice's bytes, in no block of S. -/
def RowB (w : World) (S : Nat → Prop) (A : Option Addr) (l : List UInt8) : Prop := l = [] ∨ ∃ b off, A = some ⟨b, off, none⟩ ∧ ¬ S b ∧ w.rangeAt b off (u8s l)
theorem RowB.off {w w' : World} {S : Nat → Prop} {A : Option Addr} {l : List UInt8} (h : RowB w S A l) (hb : Off S w w') : RowB w' S A l := by
  rcases h with h | ⟨b, off, e, hS, hr⟩
  · exact .inl h
  · refine .inr ⟨b, off, e, hS, fun j v hv => ?_⟩
    have := hr j v hv
    exact (World.cell?_of_block (a := ⟨b, off + j, none⟩) (hb.block b (World.block_lt_of_cell? w _ this) hS)).trans this
theorem RowB.grown {w w' : World} {S : Nat → Prop} {A : Option Addr} {l : List UInt8} (h : RowB w S A l) (hg : w.grownBy w' none) : RowB w' S A l := by
  rcases h with h | ⟨b, off, e, hB, hr⟩
  · exact .inl h
  · refine .inr ⟨b, off, e, hB, fun j v hv => ?_⟩
    exact hg.cell (hr j v hv) (by simp)
/-- A sector's bytes: those that are written, and noughts. -/
def pad (l : List UInt8) : List UInt8 := l ++ List.replicate (128 - l.length) 0
theorem pad_length (l : List UInt8) (h : l.length ≤ 128) : (pad l).length = 128 := by simp [pad]; omega

/-- A write's block, before its bytes are copied into it, and behind. -/
def wr0 (w : World) (i : Nat) : World := (w.alloc (.cells (wrA 0 noughts) 55)).setCells w.heap.size 0 (wrA i noughts).toList
theorem wr0_there (w : World) (i : Nat) : (wr0 w i).there w.heap.size 0 129 := by
  refine World.there_setCells ?_ _ _ _
  exact there_new w _ _ _ (by rw [wrA_size, noughts_length]; omega)
theorem wr0_size (w : World) (i : Nat) : (wr0 w i).heap.size = w.heap.size + 1 := by
  unfold wr0
  have h1 := grown_cells (w.alloc (.cells (wrA 0 noughts) 55)) w.heap.size (wrA i noughts).toList 0
  have h2 : ∀ (vs : List Value) (o : Nat) (w : World) (b : Nat), (w.setCells b o vs).heap.size = w.heap.size := by
    intro vs
    induction vs with
    | nil => intro _ _ _; rfl
    | cons v r ih => intro o w b; simp [World.setCells, ih]
  rw [h2, World.size_alloc]
theorem laid_size (w : World) (i : Nat) (l : List UInt8) : ((wr0 w i).setCells w.heap.size 1 (u8s l)).heap.size = w.heap.size + 1 := by
  have h2 : ∀ (vs : List Value) (o : Nat) (w : World) (b : Nat), (w.setCells b o vs).heap.size = w.heap.size := by
    intro vs
    induction vs with
    | nil => intro _ _ _; rfl
    | cons v r ih => intro o w b; simp [World.setCells, ih]
  rw [h2, wr0_size]
theorem wr0_grown (w : World) (i : Nat) : w.grownBy (wr0 w i) none := grown_new w _ _ 0
theorem laid_grown (w : World) (i : Nat) (l : List UInt8) : w.grownBy ((wr0 w i).setCells w.heap.size 1 (u8s l)) none := by
  have h1 := wr0_grown w i
  have h2 := grown_cells (wr0 w i) w.heap.size (u8s l) 1
  exact ⟨h2.os.trans h1.os, h2.tape.trans h1.tape, h2.output.trans h1.output, Nat.le_trans h1.size h2.size, fun j hj _ => (h2.block j (by rw [wr0_size]; omega) (fun e => by injection e with e; omega)).trans (h1.block j hj (by simp))⟩
theorem u8s_zero (l : List UInt8) (j : Nat) (h1 : l.length ≤ j) (h2 : j < 128) (hl : l.length ≤ 128) : (u8s (pad l))[j]? = (u8s noughts)[j]? := by
  simp only [u8s, pad, noughts, List.getElem?_map, List.getElem?_append_right h1, List.getElem?_replicate]
  rw [if_pos (by omega), if_pos h2]
theorem laid (w : World) (i : Nat) (l : List UInt8) (hl : l.length ≤ 128) : ((wr0 w i).setCells w.heap.size 1 (u8s l)).rangeAt w.heap.size 0 (wrA i (pad l)).toList := by
  have ht := wr0_there w i
  have hr : (wr0 w i).rangeAt w.heap.size 0 (wrA i noughts).toList := World.rangeAt_setCells_same _ _ _ _ (by
    have := there_new w (wrA 0 noughts) 55 129 (by rw [wrA_size, noughts_length]; omega)
    simpa [wrA_size, noughts_length] using this)
  intro j v hv
  rw [wrA_list] at hv
  by_cases h0 : j = 0
  · subst h0
    rw [World.cell?_setCells_out _ _ _ _ _ (fun _ _ => .inl (by simp))]
    exact hr 0 v (by rw [wrA_list]; simpa using hv)
  · obtain ⟨q, rfl⟩ : ∃ q, j = q + 1 := ⟨j - 1, by omega⟩
    rw [List.getElem?_cons_succ] at hv
    by_cases hq : q < l.length
    · have := World.rangeAt_setCells_same (wr0 w i) w.heap.size 1 (u8s l) (fun j hj => by
        have := ht (1 + j) (by simp [u8s_length] at hj; omega)
        rwa [Nat.zero_add] at this) q v (by
          rw [← hv]
          simp only [u8s, pad, List.map_append]
          rw [List.getElem?_append_left (by simpa using hq)])
      rwa [show 0 + (q + 1) = 1 + q by omega]
    · rw [World.cell?_setCells_out _ _ _ _ _ (fun _ _ => .inr (by simp [u8s_length]; omega))]
      refine hr (q + 1) v ?_
      rw [wrA_list, List.getElem?_cons_succ, ← u8s_zero l q (by omega) ?_ hl]
      · exact hv
      · have := (List.getElem?_eq_some_iff.1 hv).1
        rw [u8s_length, pad_length l hl] at this
        exact this

theorem wpList_store_wr {ops : Array Oper} {rest : List Oper} {op : Oper} {a : Act} {w : World} {Q : Exit → Act → World → Prop} (hgd : op.guard = none) (x y : Operand) (ho : op.op = .store 55 x y)
    (b : Nat) (i : Nat) (l : List UInt8) (hl : l.length = 128) (hx : a.eval x = .pointer (some ⟨b, 0, none⟩)) (hy : a.eval y = .agg (wrA i l)) (ht : w.there b 0 129)
    (h : wpList Try.prog ops Q rest (a.put op.dst undef) (w.setCells b 0 (wrA i l).toList)) : wpList Try.prog ops Q (op :: rest) a w :=
  wpList_store_mid hgd _ x y ho b 0 (wrA i l) hx hy (by simpa [wrA_size, hl] using ht) (by rw [size_wr]; simp [wrA_size, hl])
    (Array.all_eq_true_iff_forall_mem.2 (fun v hv => wrA_one i l v (by simpa using hv))) h
theorem run_copy_sec (w : World) (ty : TypeId) (g : Nat) (S : Nat → Prop) (A : Option Addr) (l : List UInt8) (cap : Nat) (hl : l.length ≤ 128) (hr : RowB w S A l) (ht : w.there g 0 129) :
    (Builtin.copy_ #[29, 29] ty #[.slice (some ⟨g, 1, none⟩) 128 128, .slice A l.length cap]).run Try.prog w = .ok (goInt l.length) (w.setCells g 1 (u8s l)) := by
  have hsz : (Try.prog.info? 5).map (·.size) = some 1 := by kernel_rfl
  rcases hr with rfl | ⟨b, off, rfl, _, hr⟩
  · exact run_copy_none w _ _ _ _ _ _ 128 128 0 cap Try.underlying29 hsz (by simp)
  · have := run_copy_cells (P := Try.prog) w 29 29 ty 5 g 1 128 128 ⟨b, off, none⟩ l.length cap (u8s l) Try.underlying29 hsz (by rw [u8s_length]; exact (Nat.min_eq_left hl).symm)
      (fun j v hv => by
        have hadd : (⟨b, off, none⟩ : Addr).add j = ⟨b, off + j, none⟩ := by unfold Addr.add; split <;> simp_all
        rw [hadd]
        exact hr j v hv)
      (fun j hj => by have := (ht (1 + j) (by rw [u8s_length] at hj; omega)).1; rwa [Nat.zero_add] at this)
      (fun j hj => by have := (ht (1 + j) (by rw [u8s_length] at hj; omega)).2; rwa [Nat.zero_add] at this) (u8s_one l)
    rwa [u8s_length] at this
theorem yields_wr {ops : Array Oper} {S : World → Prop} {op : Oper} {a : Act} (hw : Region.wanted op (yielded ops a.tmps) = true) (x : Operand) (ho : op.op = .load 55 x)
    (g : Nat) (hx : a.eval x = .pointer (some ⟨g, 0, none⟩)) (i : Nat) (l : List UInt8) (hl : l.length = 128) (hS : ∀ w, S w → w.rangeAt g 0 (wrA i l).toList) : YieldsIf Try.prog ops S op (.agg (wrA i l)) a := by
  have := yieldsIf_load_mid hw 55 x ho g 0 hx (wrA i l).toList _ hS Try.underlying55 rfl (by rw [size_wr]; simp [wrA_size, hl])
  rwa [Array.toArray_toList] at this
theorem wpList_load_wr {ops : Array Oper} {rest : List Oper} {op : Oper} {a : Act} {w : World} {Q : Exit → Act → World → Prop} (hgd : op.guard = none) (x : Operand) (ho : op.op = .load 55 x)
    (b o : Nat) (i : Nat) (l : List UInt8) (hl : l.length = 128) (hx : a.eval x = .pointer (some ⟨b, o, none⟩)) (hc : w.rangeAt b o (wrA i l).toList)
    (h : wpList Try.prog ops Q rest (a.put op.dst (.agg (wrA i l))) w) : wpList Try.prog ops Q (op :: rest) a w :=
  wpList_load_mid hgd _ x ho b o hx (wrA i l).toList _ hc Try.underlying55 rfl (by rw [size_wr]; simp [wrA_size, hl]) (by rwa [Array.toArray_toList])
theorem wp_one_wr {o : Oper} {a : Act} {w : World} {K : Act → World → Prop} {Q : Exit → Act → World → Prop} (x : Operand) (ho : o.op = .buildSlice 47 1 #[(0, x)]) (i : Nat) (l : List UInt8) (hl : l.length = 128) (hx : a.eval x = .agg (wrA i l))
    (h : K (a.put o.dst (.slice (some ⟨w.heap.size, 0, none⟩) 1 1)) (w.alloc (.cells (wrA i l) 55))) : o.wp Try.prog a w K Q := by
  unfold Oper.wp execOp
  have := run_one_wr w i l hl
  simp only [ho, List.map_toArray, List.map_cons, List.map_nil, hx, Sem.run_bind, this, Result.andThen_ok]
  exact h

theorem ArmedAt.keptBlk {w w' : World} {S : Nat → Prop} {pa : Option Addr} {k : Option Nat} {row : Option Nat} (h : ArmedAt w S pa k) (hg : w.grownBy w' row) (hr : ∀ b, row = some b → ∃ C t, t ≠ 3 ∧ w.heap[b]? = some (.cells C t)) : ArmedAt w' S pa k := by
  cases row with
  | none => exact h.grown hg
  | some b =>
    obtain ⟨C, t, ht, hb⟩ := hr b rfl
    exact h.kept hb ht hg
theorem SecMap.keptBlk {w w' : World} {m N : Nat} {f : Nat → List UInt8} {row : Option Nat} (h : SecMap w m N f) (hg : w.grownBy w' row) (hr : ∀ b, row = some b → ∃ C t, w.heap[b]? = some (.cells C t)) : SecMap w' m N f := by
  refine h.kept hg (fun e => ?_)
  obtain ⟨C, t, hb⟩ := hr m e.symm
  exact h.ne hb rfl

/-- The row of writes, one longer: the disk behind the store of the new row. -/
theorem DiskAt.push {w w4 w5 : World} {S : Nat → Prop} {d : Nat} {D : Dsk} {i : Nat} {l : List UInt8} {mb mn : Nat} {sv sv2 : Value} {pa : Option Addr}
    (hd : w.heap[d]? = some (.cells #[.int .i64 (D.n : Int), .map (some mb), .map (some mn), sv, .pointer pa, .bool D.off] 50)) (hB : S d) (hsb : SecMap w mb D.n D.base) (hsn : SecMap w mn D.n D.now)
    (hrow : w.ownsRow 0 55 129 sv D.wr.length (rows D.wr)) (hos : ∀ g, sv.ownBlock = some g → S g) (ha : ArmedAt w S pa D.armed) (hS : ∀ b, w.heap.size ≤ b → S b)
    (hg4 : w.grownBy w4 none) (hown : w5.ownsRow 0 55 129 sv2 (D.wr.length + 1) (rows D.wr ++ (wrA i l).toList)) (hg5 : w4.grownBy w5 sv.ownBlock) (hob : sv2.ownBlock = sv.ownBlock ∨ sv2.ownBlock = some w4.heap.size) :
    w5.heap[d]? = some (.cells #[.int .i64 (D.n : Int), .map (some mb), .map (some mn), sv, .pointer pa, .bool D.off] 50) ∧
    (w5.setCell ⟨d, 3, none⟩ sv2).heap[d]? = some (.cells #[.int .i64 (D.n : Int), .map (some mb), .map (some mn), sv2, .pointer pa, .bool D.off] 50) ∧
    SecMap (w5.setCell ⟨d, 3, none⟩ sv2) mb D.n D.base ∧ SecMap (w5.setCell ⟨d, 3, none⟩ sv2) mn D.n D.now ∧
    (w5.setCell ⟨d, 3, none⟩ sv2).ownsRow 0 55 129 sv2 (D.wr ++ [(i, l)]).length (rows (D.wr ++ [(i, l)])) ∧ (∀ g, sv2.ownBlock = some g → S g) ∧ ArmedAt (w5.setCell ⟨d, 3, none⟩ sv2) S pa D.armed ∧
    Off S w (w5.setCell ⟨d, 3, none⟩ sv2) := by
  have hdlt := (Array.getElem?_eq_some_iff.1 hd).1
  have hd4 := (hg4.block d hdlt (by simp)).trans hd
  have hblk : ∀ b, sv.ownBlock = some b → ∃ C, w4.heap[b]? = some (.cells C 55) := by
    intro b hb
    obtain ⟨_, ⟨e, _⟩ | ⟨g, cap, cur, e, h3, hcur, _⟩⟩ := hrow
    · rw [e] at hb; simp [Value.ownBlock] at hb
    · rw [e] at hb
      simp [Value.ownBlock] at hb
      subst hb
      exact ⟨cur, (hg4.block _ (Array.getElem?_eq_some_iff.1 hcur).1 (by simp)).trans hcur⟩
  have hne5 : some d ≠ sv.ownBlock := by
    intro e
    obtain ⟨C, hb⟩ := hblk d e.symm
    rw [hd4] at hb
    injection hb with hb
    injection hb with _ hb
    exact absurd hb (by decide)
  have hd5 := (hg5.block d (by have := hg4.size; omega) hne5).trans hd4
  have hg6 := grown_set w5 d 3 sv2
  have hd6 := heap_setCell_same w5 d 3 _ _ sv2 hd5
  have hb5 : ∀ b, sv.ownBlock = some b → ∃ C t, w4.heap[b]? = some (.cells C t) := fun b hb => let ⟨C, h⟩ := hblk b hb; ⟨C, _, h⟩
  have hb6 : ∀ b, some d = some b → ∃ C t, w5.heap[b]? = some (.cells C t) := fun b hb => by cases hb; exact ⟨_, _, hd5⟩
  refine ⟨hd5, by simpa using hd6, ((hsb.kept hg4 (by simp)).keptBlk hg5 hb5).keptBlk hg6 hb6, ((hsn.kept hg4 (by simp)).keptBlk hg5 hb5).keptBlk hg6 hb6, ?_, ?_, ?_, ?_⟩
  · have := row_kept hown hg6 (row_ne hown hd5 (by decide))
    rw [List.length_append]
    simpa [rows] using this
  · intro g hg
    rcases hob with e | e
    · exact hos g (e ▸ hg)
    · rw [e] at hg
      cases hg
      exact hS _ hg4.size
  · refine (((ha.grown hg4).keptBlk hg5 ?_).keptBlk hg6 ?_)
    · intro b hb
      obtain ⟨C, h⟩ := hblk b hb
      exact ⟨C, _, by decide, h⟩
    · intro b hb
      cases hb
      exact ⟨_, _, by decide, hd5⟩
  · exact ((Off.of_grown hg4 (by simp)).trans (Off.of_grown hg5 hos)).trans (grown_off hg6 hB)

theorem drew_grown (w : World) (row : Option Nat) : w.grownBy w.drew row := ⟨rfl, rfl, rfl, Nat.le_refl _, fun _ _ _ => rfl⟩
theorem drew_alloc_grown (w : World) (o : Obj) (row : Option Nat) : w.grownBy (w.drew.alloc o) row := (drew_grown w row).andThen (World.grownBy_alloc w.drew o row) (fun _ hj => .inr hj)
/-- The map of what is now has turned. -/
theorem disk_now {w w' : World} {S : Nat → Prop} {d : Nat} {D : Dsk} {f : Nat → List UInt8} {mb mn : Nat} {sv : Value} {pa : Option Addr} (h1 : D.n ≤ 16384) (h2 : ∀ p ∈ D.wr, p.1 < D.n ∧ p.2.length = 128)
    (hd : w.heap[d]? = some (.cells #[.int .i64 (D.n : Int), .map (some mb), .map (some mn), sv, .pointer pa, .bool D.off] 50)) (hB : S d) (hmb : S mb) (hmn : S mn) (hne : mb ≠ mn) (hsb : SecMap w mb D.n D.base) (hsn : SecMap w mn D.n D.now)
    (hrow : w.ownsRow 0 55 129 sv D.wr.length (rows D.wr)) (hos : ∀ g, sv.ownBlock = some g → S g) (ha : ArmedAt w S pa D.armed) (hg : w.grownBy w' (some mn)) (hsn' : SecMap w' mn D.n f) :
    DiskAt w' S d { D with now := f } ∧ Off S w w' := by
  have hdn : d ≠ mn := fun e => hsn.ne hd e.symm
  have hdlt := (Array.getElem?_eq_some_iff.1 hd).1
  refine ⟨⟨h1, h2, mb, mn, sv, pa, (hg.block d hdlt (fun e => hdn (Option.some.inj e))).trans hd, hB, hmb, hmn, hne, hsb.kept hg (fun e => hne (Option.some.inj e)), hsn', ?_, hos, ?_⟩, grown_off hg hmn⟩
  · refine row_kept hrow hg ?_
    intro e
    obtain ⟨_, ⟨rfl, _⟩ | ⟨g, cap, cur, rfl, _, hb, _⟩⟩ := hrow
    · simp [Value.ownBlock] at e
    · simp [Value.ownBlock] at e
      subst e
      exact hsn.ne hb rfl
  · cases hk : D.armed with
    | none => rw [hk] at ha; exact ha
    | some k =>
      rw [hk] at ha
      obtain ⟨b, e, hB, hb, hk⟩ := ha
      refine ⟨b, e, hB, (hg.block b (Array.getElem?_eq_some_iff.1 hb).1 (fun x => ?_)).trans hb, hk⟩
      exact hsn.ne hb (Option.some.inj x).symm
theorem row_shape {w : World} {B n : Nat} {e : TypeId} {sv : Value} {xs : List Value} (h : w.ownsRow B e 129 sv (n + 1) xs) : ∃ g cap, sv = .slice (some ⟨g, 0, none⟩) (n + 1) cap := by
  obtain ⟨_, ⟨_, e⟩ | ⟨g, cap, _, rfl, _⟩⟩ := h
  · cases e
  · exact ⟨g, cap, rfl⟩
end Go.Proofs.Ytplnkpbfnpajjaa.Sec
