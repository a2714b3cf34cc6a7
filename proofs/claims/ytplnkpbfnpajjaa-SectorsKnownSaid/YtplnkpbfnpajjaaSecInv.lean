/- What holds in the second loop of the law of cuts. No program in sight. -/
import Derived.Test.YtplnkpbfnpajjaaSecBeside
namespace Go.Proofs.Ytplnkpbfnpajjaa.Sec
open Go.RowKit Go.Maps

/-- In world wr, behind k of the calls: the disk, its writes' places in a row of their own, what was told at first. -/
structure Inv2 (w : World) (d B1 : Nat) (base0 : Nat → List UInt8) (first : Value) (k : Nat) (av : Value) (wr : World) (S : Nat → Prop) (D : Dsk) : Prop where
  disk : DiskAt wr S d D
  good : Good D
  base : D.base = base0
  few : D.wr.length ≤ k
  row : IntRow wr av (D.wr.map (·.1))
  rowS : ∀ g, av.ownBlock = some g → ¬ S g
  rowB : ∀ g, av.ownBlock = some g → w.heap.size ≤ g
  told : StrRow wr B1 first (tellV base0 8)
  toldS : ∀ g, first.ownBlock = some g → ¬ S g
  new : ∀ b, wr.heap.size ≤ b → S b
  from_ : ∀ b, S b → w.heap.size ≤ b
  off : Off (fun b => w.heap.size ≤ b) w wr

section
variable {w wr v : World} {d B1 k : Nat} {base0 : Nat → List UInt8} {first av : Value} {S : Nat → Prop} {D : Dsk}
theorem Inv2.behind_ (h : Inv2 w d B1 base0 first k av wr S D) (ho : Off S wr v) : IntRow v av (D.wr.map (·.1)) ∧ StrRow v B1 first (tellV base0 8) ∧ Off (fun b => w.heap.size ≤ b) w v ∧ ∀ b, v.heap.size ≤ b → S b :=
  ⟨row_off h.row ho h.rowS, row_off h.told ho h.toldS, h.off.trans (ho.from h.from_), fun b hb => h.new b (Nat.le_trans ho.size hb)⟩
/-- A write that was refused. -/
theorem Inv2.same (h : Inv2 w d B1 base0 first k av wr S D) (hd : DiskAt v S d D) (ho : Off S wr v) : Inv2 w d B1 base0 first (k + 1) av v S D := by
  obtain ⟨h1, h2, h3, h4⟩ := h.behind_ ho
  exact ⟨hd, h.good, h.base, Nat.le_succ_of_le h.few, h1, h.rowS, h.rowB, h2, h.toldS, h4, h.from_, h3⟩
/-- A write that was done, and its place laid behind the others. -/
theorem Inv2.more {i : Nat} {x : List UInt8} {w3 : World} {av' : Value} (h : Inv2 w d B1 base0 first k av wr S D) (hd : DiskAt v S d (D.push i x)) (ho : Off S wr v)
    (hr : IntRow w3 av' (D.wr.map (·.1) ++ [i])) (hg : (v.alloc (.cells #[.int .i64 (i : Int)] 3)).grownBy w3 av.ownBlock) (hob : av'.ownBlock = av.ownBlock ∨ av'.ownBlock = some (v.alloc (.cells #[.int .i64 (i : Int)] 3)).heap.size) (hlt : ∀ g, av'.ownBlock = some g → g < w3.heap.size) :
    Inv2 w d B1 base0 first (k + 1) av' w3 (Beside S v.heap.size w3.heap.size) (D.push i x) := by
  obtain ⟨h1, h2, h3, h4⟩ := h.behind_ ho
  have hs := hg.size
  rw [World.size_alloc] at hs
  have o1 : Off (fun b => av.ownBlock = some b) v w3 := (Off.of_grown (World.grownBy_alloc v _ none) (by simp)).trans (Off.of_grown hg (fun _ e => e))
  have hfd : ∀ g, first.ownBlock = some g → B1 ≤ g ∧ g < v.heap.size := fun g hg => h2.lt g hg
  have hav : ∀ g, av.ownBlock = some g → g < v.heap.size := fun g hg => (h1.lt g hg).2
  have hapart : ∀ g, first.ownBlock = some g → ¬ av.ownBlock = some g := by
    intro g hf ha
    obtain ⟨_, ⟨e, _⟩ | ⟨g1, _, cur1, e1, _, hb1, _⟩⟩ := h1
    · rw [e] at ha; cases ha
    · obtain ⟨_, ⟨e, _⟩ | ⟨g2, _, cur2, e2, _, hb2, _⟩⟩ := h2
      · rw [e] at hf; cases hf
      · rw [e1] at ha
        rw [e2] at hf
        cases ha
        cases hf
        rw [hb1] at hb2
        injection hb2 with hb2
        injection hb2 with _ hb2
        exact absurd hb2 (by decide)
  refine ⟨hd.next o1 (fun b _ hs hb => h.rowS b hb hs), h.good.push i x, h.base, ?_, ?_, ?_, ?_, row_off h2 o1 hapart, ?_, fun b hb => .inr hb, ?_, h3.trans (o1.mono (fun b _ hb => h.rowB b hb))⟩
  · have := h.few
    show (D.wr ++ [(i, x)]).length ≤ _
    rw [List.length_append]
    simp
    omega
  · show IntRow w3 av' ((D.wr ++ [(i, x)]).map (·.1))
    rw [List.map_append]
    exact hr
  · intro g hg'
    rcases hob with e | e
    · rw [e] at hg'
      rintro (⟨hs, _⟩ | hs)
      · exact h.rowS g hg' hs
      · have := hav g hg'
        omega
    · have hlt' := hlt g hg'
      rw [e] at hg'
      cases hg'
      exact beside_not (by rw [World.size_alloc]; omega) hlt'
  · intro g hg'
    rcases hob with e | e
    · exact h.rowB g (e ▸ hg')
    · rw [e] at hg'
      cases hg'
      have := h3.size
      rw [World.size_alloc]
      omega
  · intro g hg'
    rintro (⟨hs, _⟩ | hs)
    · exact h.toldS g hg' hs
    · have := (hfd g hg').2
      omega
  · rintro b (⟨hs, _⟩ | hs)
    · exact h.from_ b hs
    · have := h3.size
      omega
end
/-- Two cuts that are one write apart. -/
theorem cut_now (D : Dsk) (k : Nat) (hk : k ≤ D.wr.length) : (D.cut (k : Int)).now = behind D.base (D.wr.take k) := by
  have e : (max 0 (min (D.wr.length : Int) (k : Int))).toNat = k := by omega
  unfold Dsk.cut
  rw [e]
theorem cut_step (D : Dsk) (k : Nat) (p : Nat × List UInt8) (hp : D.wr[k]? = some p) (i : Nat) (hne : (i : Int) ≠ (p.1 : Int)) : (D.cut (k : Int)).now i = (D.cut ((k : Int) + 1)).now i := by
  obtain ⟨hkl, hke⟩ := List.getElem?_eq_some_iff.1 hp
  rw [cut_now D k (by omega), show ((k : Int) + 1) = ((k + 1 : Nat) : Int) by omega, cut_now D (k + 1) hkl, List.take_succ_eq_append_getElem hkl, behind_snoc, hke]
  unfold upd
  rw [if_neg (fun e => hne (by rw [e]))]
end Go.Proofs.Ytplnkpbfnpajjaa.Sec
