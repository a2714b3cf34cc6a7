/- A letter goes out of a row: row.take walked. -/
import Derived.Test.YtonfpifikblnjaaNetAt
namespace Go.Proofs.Ytonfpifikblnjaa.Net
open Go.RowKit

theorem CellOff.thru {F G : Nat → Nat → Prop} {a b c : World} (h : CellOff F a b) (k : CellOff G b c) (hG : ∀ x o, x < a.heap.size → G x o → F x o) : CellOff F a c :=
  ⟨k.os.trans h.os, k.tape.trans h.tape, k.output.trans h.output, Nat.le_trans h.size k.size, fun x o hx hF => (k.cell x o (Nat.lt_of_lt_of_le hx h.size) (fun g => hF (hG x o hx g))).trans (h.cell x o hx hF), fun b t hb => k.typ b t (h.typ b t hb),
    fun x o hx => (k.frz x o (Nat.lt_of_lt_of_le hx h.size)).trans (h.frz x o hx), fun x hx hF => (k.block x (Nat.lt_of_lt_of_le hx h.size) (fun o g => hF o (hG x o hx g))).trans (h.block x hx hF)⟩

set_option maxRecDepth 100000 in
set_option maxHeartbeats 4000000 in
theorem take_at (S : Nat → Prop) (r o i g : Nat) (l : List (Nat × Pk)) (k : Pk) (t : TypeId) (w : World) (h : RowAt w S r o l) (ht : Typed w r t) (hu : t ≠ 5) (hn : t ≠ 72) (hk : l[i]? = some (g, k)) :
    Calls Try.prog 33 #[.pointer (some ⟨r, o, none⟩), .int .i64 (i : Int)] w fun e w' => ∃ A cap, e = .returned (.agg #[.int .i64 k.src, .int .i64 k.to, .slice A k.b.length cap]) ∧ Bytes w' S A k.b ∧ RowAt w' S r o (l.eraseIdx i) ∧ CellOff (Cells r o l) w w' := by
  have hi : i < l.length := (List.getElem?_eq_some_iff.1 hk).1
  have hg1 := World.grownBy_alloc w (.cells #[.int .i64 0, .int .i64 0, .slice none 0 0] 37) none
  have hs1 : (w.alloc (.cells #[.int .i64 0, .int .i64 0, .slice none 0 0] 37)).heap.size = w.heap.size + 1 := World.size_alloc ..
  have hb1 := (MapKept.heap_alloc w (.cells #[.int .i64 0, .int .i64 0, .slice none 0 0] 37)).1
  obtain ⟨sb, sx, hslot, hsblt⟩ : ∃ sb sx, slot r o l i = ⟨sb, sx, none⟩ ∧ sb < w.heap.size := by
    rcases slot_at l r o i (by omega) with ⟨e, _⟩ | ⟨p, hp, e⟩
    · exact ⟨r, o, e, ht.lt⟩
    · exact ⟨p.1, 3, e, chain_lt h.chain _ (List.mem_map.2 ⟨p, hp, rfl⟩)⟩
  have hrlt := ht.lt
  -- the worlds
  obtain ⟨w1, hw1⟩ : ∃ w1, w1 = w.alloc (.cells #[.int .i64 0, .int .i64 0, .slice none 0 0] 37) := ⟨_, rfl⟩
  rw [← hw1] at hg1 hs1 hb1
  have hat := at_at S r o i l w1 (h.grown hg1) (by omega)
  have hsc := slot_cell l r o i ⟨(h.grown hg1).first, (h.grown hg1).chain⟩ (h.grown hg1).fz.1 (by omega)
  obtain ⟨hlS, hlT, c0, c1, ⟨A, cap, c2, hby⟩, c3, _⟩ := link_get (h.grown hg1).chain hk
  rw [drop_nxt hk] at hsc
  rw [hslot] at hat hsc
  have hglt : g < w.heap.size := chain_lt h.chain g (List.mem_map.2 ⟨(g, k), List.mem_of_getElem? hk, rfl⟩)
  have hby0 := hby
  obtain ⟨W, hW⟩ : ∃ W, W = w1.alloc (.cells #[.int .i64 k.src, .int .i64 k.to, .slice A k.b.length cap] 37) := ⟨_, rfl⟩
  have hb2 : (w1.alloc (.cells #[.int .i64 k.src, .int .i64 k.to, .slice A k.b.length cap] 37)).heap[w.heap.size + 1]? = some (.cells #[.int .i64 k.src, .int .i64 k.to, .slice A k.b.length cap] 37) := by
    have := (MapKept.heap_alloc w1 (.cells #[.int .i64 k.src, .int .i64 k.to, .slice A k.b.length cap] 37)).1
    rwa [hs1] at this
  have hs2 : (w1.alloc (.cells #[.int .i64 k.src, .int .i64 k.to, .slice A k.b.length cap] 37)).heap.size = w.heap.size + 2 := by rw [World.size_alloc, hs1]
  have hgA := World.grownBy_alloc w1 (.cells #[.int .i64 k.src, .int .i64 k.to, .slice A k.b.length cap] 37) none
  have f3 := hb2
  rw [← hW] at f3
  have hWb : ∀ b, b < w.heap.size + 1 → W.heap[b]? = w1.heap[b]? := by
    intro b hb
    rw [hW]
    exact hgA.block b (by omega) (by simp)
  have hWs : W.heap.size = w.heap.size + 2 := by rw [hW]; simpa using hs2
  have hgW : w.grownBy W none := ⟨by rw [hW]; exact hg1.os, by rw [hW]; exact hg1.tape, by rw [hW]; exact hg1.output, by omega, fun b hb _ => (hWb b (by omega)).trans (hg1.block b hb (by simp))⟩
  have hg1W : w1.grownBy W none := ⟨by rw [hW]; rfl, by rw [hW]; rfl, by rw [hW]; rfl, by omega, fun b hb _ => hWb b (by omega)⟩
  have hWz : W.heap[w.heap.size]? = some (.cells #[.int .i64 0, .int .i64 0, .slice none 0 0] 37) := (hWb _ (by omega)).trans hb1
  have hdone := take_done h ht hu hn hi hgW
  rw [hslot] at hdone
  have hscW : W.cell? ⟨sb, sx, none⟩ = some (.pointer (some ⟨g, 0, none⟩)) ∧ W.frozen? ⟨sb, sx, none⟩ = false :=
    ⟨hg1W.cell hsc.1 (by simp), (frozen_grown (by omega) hg1W).trans hsc.2⟩
  have hc3W : W.cell? ⟨g, 3, none⟩ = some (.pointer (nxt (l.drop (i + 1)))) := hg1W.cell c3 (by simp)
  obtain ⟨nx, hnx⟩ : ∃ nx, nx = nxt (l.drop (i + 1)) := ⟨_, rfl⟩
  rw [← hnx] at hdone hc3W
  obtain ⟨X, hX⟩ : ∃ X, X = (W.setCell ⟨sb, sx, none⟩ (.pointer nx)).setCell ⟨r, o + 1, none⟩ (.int .i64 ((l.length : Int) - 1)) := ⟨_, rfl⟩
  rw [← hX] at hdone
  have hXb : ∀ b, w.heap.size ≤ b → X.heap[b]? = W.heap[b]? := by
    intro b hb
    rw [hX, heap_setCell_other _ _ b _ (by dsimp only; omega), heap_setCell_other _ _ b _ (by dsimp only; omega)]
  have x1 : X.heap[w.heap.size + 1]? = _ := (hXb _ (by omega)).trans f3
  have x0 : X.heap[w.heap.size]? = _ := (hXb _ (by omega)).trans hWz
  have hXs : X.heap.size = w.heap.size + 2 := by rw [hX]; simpa using hWs
  have g1 := heap_setCell_same _ w.heap.size 0 _ _ (.int .i64 k.src) x0
  have g2 := heap_setCell_same _ w.heap.size 1 _ _ (.int .i64 k.to) g1
  have g3 := heap_setCell_same _ w.heap.size 2 _ _ (.slice A k.b.length cap) g2
  have d0 : X.cell? ⟨w.heap.size + 1, 0, none⟩ = some (.int .i64 k.src) := by simp only [World.cell?, x1]; rfl
  have d1 : X.cell? ⟨w.heap.size + 1, 1, none⟩ = some (.int .i64 k.to) := by simp only [World.cell?, x1]; rfl
  have d2 : X.cell? ⟨w.heap.size + 1, 2, none⟩ = some (.slice A k.b.length cap) := by simp only [World.cell?, x1]; rfl
  have e0 : X.cell? ⟨w.heap.size, 0, none⟩ = some (.int .i64 0) := by simp only [World.cell?, x0]; rfl
  have e1 : X.cell? ⟨w.heap.size, 1, none⟩ = some (.int .i64 0) := by simp only [World.cell?, x0]; rfl
  have e2 : X.cell? ⟨w.heap.size, 2, none⟩ = some (.slice none 0 0) := by simp only [World.cell?, x0]; rfl
  have z0 : X.frozen? ⟨w.heap.size, 0, none⟩ = false := by simp only [World.frozen?, x0]; simp
  have z1 : X.frozen? ⟨w.heap.size, 1, none⟩ = false := by simp only [World.frozen?, x0]; simp
  have z2 : X.frozen? ⟨w.heap.size, 2, none⟩ = false := by simp only [World.frozen?, x0]; simp
  -- the end
  have HFIN : Hid (Bytes (((X.setCell ⟨w.heap.size, 0, none⟩ (.int .i64 k.src)).setCell ⟨w.heap.size, 1, none⟩ (.int .i64 k.to)).setCell ⟨w.heap.size, 2, none⟩ (.slice A k.b.length cap)) S A k.b ∧
      RowAt (((X.setCell ⟨w.heap.size, 0, none⟩ (.int .i64 k.src)).setCell ⟨w.heap.size, 1, none⟩ (.int .i64 k.to)).setCell ⟨w.heap.size, 2, none⟩ (.slice A k.b.length cap)) S r o (l.eraseIdx i) ∧
      CellOff (Cells r o l) w (((X.setCell ⟨w.heap.size, 0, none⟩ (.int .i64 k.src)).setCell ⟨w.heap.size, 1, none⟩ (.int .i64 k.to)).setCell ⟨w.heap.size, 2, none⟩ (.slice A k.b.length cap))) := by
    have kk : CellOff (fun x _ => x = w.heap.size) X (((X.setCell ⟨w.heap.size, 0, none⟩ (.int .i64 k.src)).setCell ⟨w.heap.size, 1, none⟩ (.int .i64 k.to)).setCell ⟨w.heap.size, 2, none⟩ (.slice A k.b.length cap)) :=
      (((CellOff.set X w.heap.size 0 _).mono (fun _ _ _ h => h.1)).trans ((CellOff.set _ w.heap.size 1 _).mono (fun _ _ _ h => h.1))).trans ((CellOff.set _ w.heap.size 2 _).mono (fun _ _ _ h => h.1))
    have hXz : Typed X w.heap.size 37 := ⟨_, _, x0⟩
    have hno : ∀ b, Typed X b 5 → ∀ o : Nat, ¬ b = w.heap.size := fun b hb _ e => (hb.ne hXz (by decide)) e
    have hbX : Bytes X S A k.b := by
      have hbW := hby.grown hg1W
      rw [hX]
      refine (hbW.off (CellOff.set W sb sx _) ?_).off (CellOff.set _ r (o + 1) _) ?_
      · rintro b hb _ ⟨rfl, _⟩
        rcases slot_at l r o i (by omega) with ⟨e, _⟩ | ⟨p, hp, e⟩
        · rw [hslot] at e
          cases e
          exact hb.ne (ht.grown hgW) (fun x => hu x.symm) rfl
        · rw [hslot] at e
          cases e
          exact hb.ne ((h.chain.link p hp).1.grown hgW) (by decide) rfl
      · rintro b hb _ ⟨rfl, _⟩
        exact hb.ne ((ht.grown hgW).set) (fun x => hu x.symm) rfl
    refine ⟨hbX.off kk hno, hdone.1.off kk hno ?_ ?_ ?_, hdone.2.1.thru kk (fun x _ hx e => by omega)⟩
    · intro b hb _ e
      obtain ⟨p, hp, rfl⟩ := List.mem_map.1 hb
      have := chain_lt h.chain p.1 (List.mem_map.2 ⟨p, List.mem_of_mem_eraseIdx hp, rfl⟩)
      omega
    · omega
    · omega
  have HRES := Lib.hid g3
  have HAT := Lib.hid hat
  have hwr : wrap64 ((l.length : Int) - 1) = (l.length : Int) - 1 := by have := h.few; unfold wrap64; omega
  have HW := Lib.hid hW
  have HX := Lib.hid hX
  have HP3 := Lib.hid (And.intro hscW hc3W)
  have HP4 := Lib.hid hdone.2.2
  have HP5 := Lib.hid (And.intro d0 (And.intro d1 (And.intro d2 (And.intro e0 (And.intro e1 (And.intro e2 (And.intro z0 (And.intro z1 z2))))))))
  have HW1 := Lib.hid hw1
  have HS1 := Lib.hid hs1
  obtain ⟨hsc1, hsc2⟩ := hsc
  clear hby0 hby hg1 hb1 hat hslot hsblt hrlt hb2 hs2 hgA f3 hWb hgW hg1W hWz hdone hXb x0 x1 g1 g2 g3 hk hi hglt hlS hlT h ht hnx c3 hXs hW hX hscW hc3W d0 d1 d2 e0 e1 e2 z0 z1 z2 hWs hw1 hs1
  go_enter Try.func33, Try.ntmps33
  go_wp2_with fail
  rw [← HW1.out]
  refine HAT.out.mono ?_
  rintro e w' ⟨rfl, rfl⟩
  have hs1 := HS1.out
  go_wp2_with (first
    | (with_reducible show Go.wpList _ _ _ ((⟨some 19, _, _, _, _, _⟩ : Oper) :: _) _ _; rw [← HW.out]; clear hsc1 hsc2 c0 c1 c2 hs1; obtain ⟨⟨hsw1, hsw2⟩, hc3W⟩ := HP3.out)
    | (with_reducible show Go.wpList _ _ _ ((⟨some 27, _, _, _, _, _⟩ : Oper) :: _) _ _; clear hsw1 hsw2 hc3W; obtain ⟨hn9, hz9⟩ := HP4.out)
    | (with_reducible show Go.wpList _ _ _ ((⟨some 31, _, _, _, _, _⟩ : Oper) :: _) _ _; rw [← HX.out]; clear hn9 hz9; obtain ⟨d0, d1, d2, e0, e1, e2, z0, z1, z2⟩ := HP5.out)
    | fail)
  (try simp only [Exit.inBlock, Exit.then])
  refine bodyPost_ret (results_cell_row rfl _ _ w.heap.size _ _ _ _ rfl HRES.out Try.underlying37 rfl (by kernel_rfl)) rfl ?_
  exact ⟨A, cap, rfl, HFIN.out⟩
end Go.Proofs.Ytonfpifikblnjaa.Net
