/- The document's net in memory. No program's function in sight. -/
import Derived.Test.YtonfpifikblnjaaNetCountMore
namespace Go.Proofs.Ytonfpifikblnjaa.Net
open Go.RowKit

/-- The document's net, as data: all letters that ever were; row 0 is the road, row i + 1 the box of end i, by numbers. -/
structure Rf where
  n : Nat
  all : List Pk
  row : Nat → List Nat
def Rf.set (R : Rf) (j : Nat) (l : List Nat) : Rf := ⟨R.n, R.all, fun i => if i = j then l else R.row i⟩
def rcells (p : Pk) : List Value := [.int .i64 p.src, .int .i64 p.to, strV p.b]
/-- A row of numbers. -/
def IntRow (w : World) (v : Value) (ns : List Nat) : Prop := w.ownsRow 0 3 1 v ns.length (ns.map fun (n : Nat) => Value.int .i64 (n : Int))
def RAll (w : World) (v : Value) (ps : List Pk) : Prop := w.ownsRow 0 48 3 v ps.length (ps.flatMap rcells)
theorem IntRow.off {w w' : World} {v : Value} {ns : List Nat} {S : Nat → Prop} (h : IntRow w v ns) (ho : Off S w w') (hv : ∀ g, v.ownBlock = some g → ¬ S g) : IntRow w' v ns := by
  refine ⟨h.1, ?_⟩
  rcases h.2 with h2 | ⟨g, cap, cur, rfl, h3, hb, h4⟩
  · exact .inl h2
  · exact .inr ⟨g, cap, cur, rfl, h3, (ho.block g (Array.getElem?_eq_some_iff.1 hb).1 (hv g rfl)).trans hb, h4⟩
theorem RAll.off {w w' : World} {v : Value} {ps : List Pk} {S : Nat → Prop} (h : RAll w v ps) (ho : Off S w w') (hv : ∀ g, v.ownBlock = some g → ¬ S g) : RAll w' v ps := by
  refine ⟨h.1, ?_⟩
  rcases h.2 with h2 | ⟨g, cap, cur, rfl, h3, hb, h4⟩
  · exact .inl h2
  · exact .inr ⟨g, cap, cur, rfl, h3, (ho.block g (Array.getElem?_eq_some_iff.1 hb).1 (hv g rfl)).trans hb, h4⟩
theorem IntRow.typed {w : World} {v : Value} {ns : List Nat} (h : IntRow w v ns) : ∀ g, v.ownBlock = some g → Typed w g 3 := by
  intro g hg
  rcases h.2 with ⟨rfl, _⟩ | ⟨g', cap, cur, rfl, _, hb, _⟩
  · simp [Value.ownBlock] at hg
  · simp only [Value.ownBlock, Option.some.injEq] at hg
    subst hg
    exact ⟨_, _, hb⟩
theorem RAll.typed {w : World} {v : Value} {ps : List Pk} (h : RAll w v ps) : ∀ g, v.ownBlock = some g → Typed w g 48 := by
  intro g hg
  rcases h.2 with ⟨rfl, _⟩ | ⟨g', cap, cur, rfl, _, hb, _⟩
  · simp [Value.ownBlock] at hg
  · simp only [Value.ownBlock, Option.some.injEq] at hg
    subst hg
    exact ⟨_, _, hb⟩
theorem int_row {w : World} {v : Value} {ns : List Nat} (h : IntRow w v ns) : ∃ A cap, v = .slice A ns.length cap ∧ ∀ (k y : Nat), ns[k]? = some y → ∃ g, A = some ⟨g, 0, none⟩ ∧ w.cell? ⟨g, k, none⟩ = some (.int .i64 (y : Int)) := by
  obtain ⟨_, ⟨rfl, e⟩ | ⟨g, cap, cur, rfl, hB, hb, _, _, _, ht⟩⟩ := h
  · refine ⟨none, 0, by rw [e], fun k y hk => ?_⟩
    rw [List.eq_nil_of_length_eq_zero e] at hk
    simp at hk
  · refine ⟨_, cap, rfl, fun k y hk => ⟨g, rfl, ?_⟩⟩
    have h1 : (ns.map fun (n : Nat) => Value.int .i64 (n : Int))[k]? = some (.int .i64 (y : Int)) := by simp [hk]
    rw [← ht, List.getElem?_take] at h1
    simp only [World.cell?, hb]
    split at h1
    · simpa using h1
    · cases h1
theorem rflat_get (cs : List Pk) (i : Nat) (c : Pk) (h : cs[i]? = some c) : (cs.flatMap rcells)[i * 3]? = some (.int .i64 c.src) ∧ (cs.flatMap rcells)[i * 3 + 1]? = some (.int .i64 c.to) ∧ (cs.flatMap rcells)[i * 3 + 2]? = some (strV c.b) := by
  induction cs generalizing i with
  | nil => simp at h
  | cons d cs ih =>
    cases i with
    | zero =>
      simp at h
      subst h
      exact ⟨rfl, rfl, rfl⟩
    | succ i =>
      have := ih i (by simpa using h)
      rw [List.flatMap_cons, show (i + 1) * 3 = i * 3 + 3 by omega]
      exact this
theorem all_row {w : World} {v : Value} {ps : List Pk} (h : RAll w v ps) : ∃ A cap, v = .slice A ps.length cap ∧ ∀ (k : Nat) (p : Pk), ps[k]? = some p → ∃ g, A = some ⟨g, 0, none⟩ ∧ w.cell? ⟨g, k * 3, none⟩ = some (.int .i64 p.src) ∧ w.cell? ⟨g, k * 3 + 1, none⟩ = some (.int .i64 p.to) ∧ w.cell? ⟨g, k * 3 + 2, none⟩ = some (strV p.b) := by
  obtain ⟨_, ⟨rfl, e⟩ | ⟨g, cap, cur, rfl, hB, hb, _, _, _, ht⟩⟩ := h
  · refine ⟨none, 0, by rw [e], fun k y hk => ?_⟩
    rw [List.eq_nil_of_length_eq_zero e] at hk
    simp at hk
  · refine ⟨_, cap, rfl, fun k p hk => ⟨g, rfl, ?_⟩⟩
    have key : ∀ j u, (ps.flatMap rcells)[j]? = some u → w.cell? ⟨g, j, none⟩ = some u := by
      intro j u hu
      rw [← ht, List.getElem?_take] at hu
      simp only [World.cell?, hb]
      split at hu
      · simpa using hu
      · cases hu
    obtain ⟨k0, k1, k2⟩ := rflat_get ps k p hk
    exact ⟨key _ _ k0, key _ _ k1, key _ _ k2⟩

/-- The slices of the boxes. -/
def slots (n : Nat) (V : Nat → Value) (cx : Array Value) : Prop := ∀ j, j < n → cx[j]? = some (V (j + 1))
structure RefIn (w : World) (T : Nat → Prop) (m xb : Nat) (va : Value) (V : Nat → Value) (R : Rf) : Prop where
  lt : ∀ b, T b → b < w.heap.size
  tm : T m
  txb : T xb
  net : ∃ capx, w.heap[m]? = some (.cells #[va, V 0, .slice (some ⟨xb, 0, none⟩) R.n capx] 76) ∧ R.n ≤ capx
  box : ∃ cx, w.heap[xb]? = some (.cells cx 56) ∧ slots R.n V cx
  pos : 1 ≤ R.n ∧ R.n ≤ 64
  all : RAll w va R.all
  tall : ∀ g, va.ownBlock = some g → T g
  rows : ∀ j, j ≤ R.n → IntRow w (V j) (R.row j) ∧ ∀ g, (V j).ownBlock = some g → T g
  apart : ∀ i j, i ≤ R.n → j ≤ R.n → i ≠ j → ∀ g, (V i).ownBlock = some g → (V j).ownBlock ≠ some g
def RefAt (w : World) (T : Nat → Prop) (m : Nat) (R : Rf) : Prop := ∃ xb va V, RefIn w T m xb va V R
section
variable {w w' : World} {T : Nat → Prop} {m xb : Nat} {va : Value} {V : Nat → Value} {R : Rf}
theorem RefIn.other (h : RefIn w T m xb va V R) {U : Nat → Prop} (ho : Off U w w') (hTU : ∀ b, T b → ¬ U b) : RefIn w' T m xb va V R := by
  have hk : ∀ b, T b → w'.heap[b]? = w.heap[b]? := fun b hb => ho.block b (h.lt b hb) (hTU b hb)
  obtain ⟨capx, h1, h2⟩ := h.net
  obtain ⟨cx, h3, h4⟩ := h.box
  exact ⟨fun b hb => Nat.lt_of_lt_of_le (h.lt b hb) ho.size, h.tm, h.txb, ⟨capx, (hk m h.tm).trans h1, h2⟩, ⟨cx, (hk xb h.txb).trans h3, h4⟩, h.pos, h.all.off ho (fun g hg => hTU g (h.tall g hg)), h.tall, fun j hj => ⟨(h.rows j hj).1.off ho (fun g hg => hTU g ((h.rows j hj).2 g hg)), (h.rows j hj).2⟩, h.apart⟩
theorem RefAt.other (h : RefAt w T m R) {U : Nat → Prop} (ho : Off U w w') (hTU : ∀ b, T b → ¬ U b) : RefAt w' T m R := let ⟨xb, va, V, h⟩ := h; ⟨xb, va, V, h.other ho hTU⟩
theorem RefAt.grown (h : RefAt w T m R) (hg : w.grownBy w' none) : RefAt w' T m R := h.other (U := fun _ => False) (Off.of_grown hg (by simp)) (fun _ _ x => x)
theorem RefAt.lt (h : RefAt w T m R) : ∀ b, T b → b < w.heap.size := let ⟨_, _, _, h⟩ := h; h.lt
/-- Where the slice of row j lies. -/
def rb (m xb : Nat) : Nat → Nat
  | 0 => m
  | _ + 1 => xb
def ro : Nat → Nat
  | 0 => 1
  | j + 1 => j
def updV (V : Nat → Value) (j : Nat) (v : Value) : Nat → Value := fun i => if i = j then v else V i
theorem RefIn.cell (h : RefIn w T m xb va V R) {j : Nat} (hj : j ≤ R.n) : w.cell? ⟨rb m xb j, ro j, none⟩ = some (V j) ∧ w.frozen? ⟨rb m xb j, ro j, none⟩ = false := by
  obtain ⟨capx, h1, _⟩ := h.net
  obtain ⟨cx, h3, h4⟩ := h.box
  cases j with
  | zero => exact ⟨by simp only [rb, ro, World.cell?, h1]; rfl, by simp only [rb, ro, World.frozen?, h1]; simp⟩
  | succ j => exact ⟨by simp only [rb, ro, World.cell?, h3]; exact h4 j hj, by simp only [rb, ro, World.frozen?, h3]; simp⟩
theorem RefIn.mx (h : RefIn w T m xb va V R) : m ≠ xb := by
  obtain ⟨capx, h1, _⟩ := h.net
  obtain ⟨cx, h3, _⟩ := h.box
  rintro rfl
  rw [h1] at h3
  cases h3
/-- Row j gets a new slice. -/
theorem RefIn.put {w1 : World} {j : Nat} {v : Value} {l : List Nat} (h : RefIn w T m xb va V R) (hj : j ≤ R.n) (hg : w.grownBy w1 (V j).ownBlock) (hrow : IntRow w1 v l) (hv : v.ownBlock = (V j).ownBlock ∨ ∀ g, v.ownBlock = some g → w.heap.size ≤ g) :
    RefIn (w1.setCell ⟨rb m xb j, ro j, none⟩ v) (fun b => (T b ∨ w.heap.size ≤ b) ∧ b < (w1.setCell ⟨rb m xb j, ro j, none⟩ v).heap.size) m xb va (updV V j v) (R.set j l) ∧ Off T w (w1.setCell ⟨rb m xb j, ro j, none⟩ v) := by
  have hsz : (w1.setCell ⟨rb m xb j, ro j, none⟩ v).heap.size = w1.heap.size := by simp
  have hs := hg.size
  have hT' : ∀ b, T b → (T b ∨ w.heap.size ≤ b) ∧ b < (w1.setCell ⟨rb m xb j, ro j, none⟩ v).heap.size := fun b hb => ⟨.inl hb, by have := h.lt b hb; omega⟩
  have htyp := (h.rows j hj).1.typed
  obtain ⟨capx, h1, hcap⟩ := h.net
  obtain ⟨cx, h3, h4⟩ := h.box
  have tm : Typed w m 76 := ⟨_, _, h1⟩
  have tx : Typed w xb 56 := ⟨_, _, h3⟩
  have k1 : w1.heap[m]? = _ := (hg.block m tm.lt (fun e => ((htyp m e.symm).ne tm (by decide)) rfl)).trans h1
  have k3 : w1.heap[xb]? = _ := (hg.block xb tx.lt (fun e => ((htyp xb e.symm).ne tx (by decide)) rfl)).trans h3
  have hrb : T (rb m xb j) := by cases j with
    | zero => exact h.tm
    | succ j => exact h.txb
  -- the blocks of rows
  have hne : ∀ g t, Typed w1 g t → t ≠ 76 → t ≠ 56 → g ≠ rb m xb j := by
    intro g t ht h1' h2' e
    cases j with
    | zero => exact (ht.ne (show Typed w1 m _ from ⟨_, _, k1⟩) h1') e
    | succ j => exact (ht.ne (show Typed w1 xb _ from ⟨_, _, k3⟩) h2') e
  have hset : Off (fun b => b = rb m xb j) w1 (w1.setCell ⟨rb m xb j, ro j, none⟩ v) := (Off.cells (CellOff.set w1 _ _ _)).mono (fun b _ hb => hb.elim (fun _ e => e.1))
  have hog : Off (fun b => some b = (V j).ownBlock) w w1 := Off.of_grown hg (fun k e => e.symm)
  refine ⟨⟨fun b hb => hb.2, hT' m h.tm, hT' xb h.txb, ?_, ?_, h.pos, ?_, fun g hg' => hT' g (h.tall g hg'), fun i hi => ?_, fun i i' hi hi' hii g hgi => ?_⟩, ?_⟩
  · cases j with
    | zero =>
      refine ⟨capx, ?_, hcap⟩
      simp only [rb, ro, updV, if_pos]
      rw [heap_setCell_same w1 m 1 _ _ v k1]
      rfl
    | succ j =>
      refine ⟨capx, ?_, hcap⟩
      have : updV V (j + 1) v 0 = V 0 := if_neg (by omega)
      rw [this]
      simp only [rb, ro]
      exact (heap_setCell_other w1 ⟨xb, j, none⟩ m v h.mx).trans k1
  · cases j with
    | zero =>
      refine ⟨cx, ?_, fun i hi => by rw [h4 i hi]; exact congrArg some (if_neg (by omega)).symm⟩
      simp only [rb, ro]
      exact (heap_setCell_other w1 ⟨m, 1, none⟩ xb v h.mx.symm).trans k3
    | succ j =>
      refine ⟨cx.setIfInBounds j v, ?_, fun i hi => ?_⟩
      · simp only [rb, ro]
        exact heap_setCell_same w1 xb j _ _ v k3
      · rw [Array.getElem?_setIfInBounds]
        have hlt : i < cx.size := by have := h4 i hi; exact (Array.getElem?_eq_some_iff.1 this).1
        by_cases e : j = i
        · subst e
          rw [if_pos rfl, if_pos hlt]
          exact congrArg some (if_pos rfl).symm
        · rw [if_neg e, h4 i hi]
          exact congrArg some (if_neg (by omega)).symm
  · have ha1 : RAll w1 va R.all := h.all.off hog (fun g hg' e => ((h.all.typed g hg').ne (htyp g e.symm) (by decide)) rfl)
    exact ha1.off hset (fun g hg' e => hne g _ (ha1.typed g hg') (by decide) (by decide) e)
  · by_cases e : i = j
    · subst e
      have hvv : updV V i v i = v := if_pos rfl
      have hrr : (R.set i l).row i = l := if_pos rfl
      rw [hvv, hrr]
      refine ⟨hrow.off hset (fun g hg' e => hne g _ (hrow.typed g hg') (by decide) (by decide) e), fun g hg' => ?_⟩
      have hl1 := (hrow.lt g hg').2
      rcases hv with e | e
      · rw [e] at hg'; exact hT' g ((h.rows i hj).2 g hg')
      · exact ⟨.inr (e g hg'), by omega⟩
    · have hi : i ≤ R.n := hi
      have hvv : updV V j v i = V i := if_neg e
      have hrr : (R.set j l).row i = R.row i := if_neg e
      rw [hvv, hrr]
      have ha1 : IntRow w1 (V i) (R.row i) := (h.rows i hi).1.off hog (fun g hg' e' => h.apart i j hi hj e g hg' e'.symm)
      exact ⟨ha1.off hset (fun g hg' e => hne g _ (ha1.typed g hg') (by decide) (by decide) e), fun g hg' => hT' g ((h.rows i hi).2 g hg')⟩
  · have hi : i ≤ R.n := hi
    have hi' : i' ≤ R.n := hi'
    by_cases e : i = j
    · subst e
      have hvv : updV V i v i = v := if_pos rfl
      have hvv' : updV V i v i' = V i' := if_neg (fun x => hii x.symm)
      rw [hvv] at hgi
      rw [hvv']
      rcases hv with e2 | e2
      · rw [e2] at hgi; exact h.apart i i' hi hi' hii g hgi
      · intro e3
        have := h.lt g ((h.rows i' hi').2 g e3)
        have := e2 g hgi
        omega
    · have hvv : updV V j v i = V i := if_neg e
      rw [hvv] at hgi
      by_cases e' : i' = j
      · subst e'
        have hvv' : updV V i' v i' = v := if_pos rfl
        rw [hvv']
        intro e3
        rcases hv with e2 | e2
        · rw [e2] at e3; exact h.apart i i' hi hi' hii g hgi e3
        · have := h.lt g ((h.rows i hi).2 g hgi)
          have := e2 g e3
          omega
      · have hvv' : updV V j v i' = V i' := if_neg e'
        rw [hvv']
        exact h.apart i i' hi hi' hii g hgi
  · refine ⟨hg.os, hg.tape, hg.output, by omega, fun b hb hn => ?_⟩
    refine (hset.block b (by omega) (fun e => hn (e ▸ hrb))).trans (hg.block b hb (fun e => hn ((h.rows j hj).2 b e.symm)))
end
end Go.Proofs.Ytonfpifikblnjaa.Net
