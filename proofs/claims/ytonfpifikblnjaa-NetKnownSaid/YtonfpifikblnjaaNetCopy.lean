/- A letter in new memory: Packet.copied. -/
import Derived.Laws.ResultCell
import Derived.MapKept
import Derived.Test.YtonfpifikblnjaaNetClone
namespace Go.Proofs.Ytonfpifikblnjaa.Net
open Go.RowKit

/-- A letter's value. -/
def pkV (k : Pk) (A : Option Addr) (cap : Nat) : Value := .agg #[.int .i64 k.src, .int .i64 k.to, .slice A k.b.length cap]

set_option maxHeartbeats 4000000 in
theorem copied_at (k : Pk) (A : Option Addr) (cap : Nat) (w : World) (h : RowR w A cap k.b) (hl : k.b.length ≤ 1000000) :
    Calls Try.prog 31 #[.agg #[.int .i64 k.src, .int .i64 k.to, .slice A k.b.length cap]] w fun e w' => ∃ A' cap', e = .returned (.agg #[.int .i64 k.src, .int .i64 k.to, .slice A' k.b.length cap']) ∧ Bytes w' (fun b => w.heap.size ≤ b) A' k.b ∧ Own w' w.heap.size A' cap' ∧ w.grownBy w' none := by
  have hg1 := World.grownBy_alloc w (.cells #[.int .i64 k.src, .int .i64 k.to, .slice A k.b.length cap] 37) none
  have hg2 := hg1.andThen (World.grownBy_alloc (w.alloc (.cells #[.int .i64 k.src, .int .i64 k.to, .slice A k.b.length cap] 37)) (.cells #[.int .i64 0, .int .i64 0, .slice none 0 0] 37) none) (fun _ hj => .inr hj)
  have hb1 := (MapKept.heap_alloc w (.cells #[.int .i64 k.src, .int .i64 k.to, .slice A k.b.length cap] 37)).1
  have hs1 : (w.alloc (.cells #[.int .i64 k.src, .int .i64 k.to, .slice A k.b.length cap] 37)).heap.size = w.heap.size + 1 := World.size_alloc ..
  have hb2 := (MapKept.heap_alloc (w.alloc (.cells #[.int .i64 k.src, .int .i64 k.to, .slice A k.b.length cap] 37)) (.cells #[.int .i64 0, .int .i64 0, .slice none 0 0] 37)).1
  have hs2 : ((w.alloc (.cells #[.int .i64 k.src, .int .i64 k.to, .slice A k.b.length cap] 37)).alloc (.cells #[.int .i64 0, .int .i64 0, .slice none 0 0] 37)).heap.size = w.heap.size + 2 := by rw [World.size_alloc, hs1]
  have hb1' := ((World.grownBy_alloc (w.alloc (.cells #[.int .i64 k.src, .int .i64 k.to, .slice A k.b.length cap] 37)) (.cells #[.int .i64 0, .int .i64 0, .slice none 0 0] 37) none).block w.heap.size (by omega) (by simp)).trans hb1
  rw [hs1] at hb2
  have HALL := Lib.hid (And.intro hg2 (And.intro hb1' (And.intro hb2 hs2)))
  have HR := Lib.hid h
  clear hg1 hg2 hb1 hb1' hb2 hs1 hs2 h
  go_enter Try.func31, Try.ntmps31
  go_wp2_with fail
  have hall := HALL.out
  generalize (w.alloc (.cells #[.int .i64 k.src, .int .i64 k.to, .slice A k.b.length cap] 37)).alloc (.cells #[.int .i64 0, .int .i64 0, .slice none 0 0] 37) = w2 at hall ⊢
  obtain ⟨hg2, hb1, hb2, hs2⟩ := hall
  refine (clone_at A k.b cap w2 (HR.out.grown hg2) hl).mono ?_
  rintro e w3 ⟨A', cap', rfl, hby, hA', hg3⟩
  have hb13 := (hg3.block w.heap.size (by omega) (by simp)).trans hb1
  have hb23 := (hg3.block (w.heap.size + 1) (by omega) (by simp)).trans hb2
  have hgr := hg2.andThen hg3 (fun _ hj => .inr hj)
  have HB := Lib.hid hby
  have HG := Lib.hid hgr
  have HS2 := Lib.hid hs2
  have c0 : w3.cell? ⟨w.heap.size, 0, none⟩ = some (.int .i64 k.src) := by simp only [World.cell?, hb13]; rfl
  have c1 : w3.cell? ⟨w.heap.size, 1, none⟩ = some (.int .i64 k.to) := by simp only [World.cell?, hb13]; rfl
  have c2 : w3.cell? ⟨w.heap.size, 2, none⟩ = some (.slice A k.b.length cap) := by simp only [World.cell?, hb13]; rfl
  have z2 : w3.frozen? ⟨w.heap.size, 2, none⟩ = false := by simp only [World.frozen?, hb13]; simp
  have hset := heap_setCell_same w3 w.heap.size 2 _ _ (.slice A' k.b.length cap') hb13
  have hres : (w3.setCell ⟨w.heap.size, 2, none⟩ (.slice A' k.b.length cap')).heap[w.heap.size + 1]? = some (.cells #[.int .i64 0, .int .i64 0, .slice none 0 0] 37) := (heap_setCell_other w3 _ (w.heap.size + 1) _ (by simp)).trans hb23
  have d0 : w3.cell? ⟨w.heap.size + 1, 0, none⟩ = some (.int .i64 0) := by simp only [World.cell?, hb23]; rfl
  have d1 : w3.cell? ⟨w.heap.size + 1, 1, none⟩ = some (.int .i64 0) := by simp only [World.cell?, hb23]; rfl
  have d2 : w3.cell? ⟨w.heap.size + 1, 2, none⟩ = some (.slice none 0 0) := by simp only [World.cell?, hb23]; rfl
  have y0 : w3.frozen? ⟨w.heap.size + 1, 0, none⟩ = false := by simp only [World.frozen?, hb23]; simp
  have y1 : w3.frozen? ⟨w.heap.size + 1, 1, none⟩ = false := by simp only [World.frozen?, hb23]; simp
  have y2 : w3.frozen? ⟨w.heap.size + 1, 2, none⟩ = false := by simp only [World.frozen?, hb23]; simp
  have f1 := heap_setCell_same _ (w.heap.size + 1) 0 _ _ (.int .i64 k.src) hres
  have f2 := heap_setCell_same _ (w.heap.size + 1) 1 _ _ (.int .i64 k.to) f1
  have f3 := heap_setCell_same _ (w.heap.size + 1) 2 _ _ (.slice A' k.b.length cap') f2
  have k1 := CellOff.set w3 w.heap.size 2 (.slice A' k.b.length cap')
  have HSET := Lib.hid f3
  clear hg2 hb1 hb2 hby hg3 hb13 hb23 hgr HALL HR hset hres f1 f2 f3 k1 hs2
  go_wp2_with fail
  (try simp only [Exit.inBlock, Exit.then])
  refine bodyPost_ret (results_cell_row rfl _ _ (w.heap.size + 1) _ _ _ _ rfl HSET.out Try.underlying37 rfl (by kernel_rfl)) rfl ?_
  have hs2 := HS2.out
  have hs3 := HG.out.size
  have key : ∀ b, b < w.heap.size ∨ w2.heap.size ≤ b → ((((w3.setCell ⟨w.heap.size, 2, none⟩ (.slice A' k.b.length cap')).setCell ⟨w.heap.size + 1, 0, none⟩ (.int .i64 k.src)).setCell ⟨w.heap.size + 1, 1, none⟩ (.int .i64 k.to)).setCell ⟨w.heap.size + 1, 2, none⟩ (.slice A' k.b.length cap')).heap[b]? = w3.heap[b]? := by
    intro b hb
    rw [heap_setCell_other _ _ b _ (by dsimp only; omega), heap_setCell_other _ _ b _ (by dsimp only; omega), heap_setCell_other _ _ b _ (by dsimp only; omega), heap_setCell_other _ _ b _ (by dsimp only; omega)]
  refine ⟨A', cap', rfl, ?_, ?_, ?_⟩
  · rcases HB.out with e | ⟨g, off, e, hg, ⟨C, fr, hC⟩, hr⟩
    · exact .inl e
    · have hg : w2.heap.size ≤ g := hg
      exact .inr ⟨g, off, e, by show w.heap.size ≤ g; omega, ⟨C, fr, (key g (.inr hg)).trans hC⟩, fun j u hj => (World.cell?_of_block (a := ⟨g, off + j, none⟩) (key g (.inr hg))).trans (hr j u hj)⟩
  · rcases hA' with h | ⟨g, e, hg, hlt, hf⟩
    · exact .inl h
    · exact .inr ⟨g, e, by omega, let ⟨C, fr, hC⟩ := hlt; ⟨C, fr, (key g (.inr hg)).trans hC⟩, fun o => by rw [World.frozen?_setCell, World.frozen?_setCell, World.frozen?_setCell, World.frozen?_setCell]; exact hf o⟩
  · exact ⟨HG.out.os, HG.out.tape, HG.out.output, by simpa using hs3, fun b hb _ => (key b (.inl hb)).trans (HG.out.block b hb (by simp))⟩
end Go.Proofs.Ytonfpifikblnjaa.Net
