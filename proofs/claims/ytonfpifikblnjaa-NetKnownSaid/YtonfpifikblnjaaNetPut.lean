/- A letter goes behind the others: row.put. -/
import Derived.OrdersHeld
import Derived.Deep.RegionHeld3
import Derived.Test.YtonfpifikblnjaaNetChain
namespace Go.Proofs.Ytonfpifikblnjaa.Net
open Go.RowKit

theorem Bytes.grown {w w' : World} {S : Nat → Prop} {A : Option Addr} {l : List UInt8} (h : Bytes w S A l) (hg : w.grownBy w' none) : Bytes w' S A l := by
  rcases h with e | ⟨g, off, e, hS, ⟨C, fr, hC⟩, hr⟩
  · exact .inl e
  · exact .inr ⟨g, off, e, hS, ⟨C, fr, (hg.block g (Array.getElem?_eq_some_iff.1 hC).1 (by simp)).trans hC⟩, fun j u hj => hg.cell (hr j u hj) (by simp)⟩
theorem Typed.grown {w w' : World} {b : Nat} {t : TypeId} (h : Typed w b t) (hg : w.grownBy w' none) : Typed w' b t := let ⟨C, fr, hC⟩ := h; ⟨C, fr, (hg.block b h.lt (by simp)).trans hC⟩
theorem frozen_grown {w w' : World} {g o : Nat} (hlt : g < w.heap.size) (hg : w.grownBy w' none) : w'.frozen? ⟨g, o, none⟩ = w.frozen? ⟨g, o, none⟩ := World.frozen?_of_block (a := ⟨g, o, none⟩) (hg.block g hlt (by simp))
theorem Chain.grown {w w' : World} {S : Nat → Prop} (hg : w.grownBy w' none) : ∀ {l : List (Nat × Pk)}, Chain w S l → Chain w' S l
  | [], _ => trivial
  | p :: l, h => by
    obtain ⟨⟨hS, hT, c0, c1, ⟨A, cap, c2, hb⟩, c3, hf⟩, hc⟩ := h
    exact ⟨⟨hS, hT.grown hg, hg.cell c0 (by simp), hg.cell c1 (by simp), ⟨A, cap, hg.cell c2 (by simp), hb.grown hg⟩, hg.cell c3 (by simp), fun o => (frozen_grown hT.lt hg).trans (hf o)⟩, hc.grown hg⟩
theorem RowAt.grown {w w' : World} {S : Nat → Prop} {r o : Nat} {l : List (Nat × Pk)} (h : RowAt w S r o l) (hg : w.grownBy w' none) : RowAt w' S r o l := by
  have hlt := World.block_lt_of_cell? w _ h.first
  exact ⟨hg.cell h.first (by simp), hg.cell h.n (by simp), ⟨(frozen_grown hlt hg).trans h.fz.1, (frozen_grown hlt hg).trans h.fz.2⟩, h.chain.grown hg, h.nodup, h.few⟩
theorem slot_cell {w : World} {S : Nat → Prop} : ∀ (l : List (Nat × Pk)) (r o i : Nat), Hangs w S r o l → w.frozen? ⟨r, o, none⟩ = false → i ≤ l.length → w.cell? (slot r o l i) = some (.pointer (nxt (l.drop i))) ∧ w.frozen? (slot r o l i) = false
  | [], r, o, i, h, hf, hi => by
    have : i = 0 := by simpa using hi
    subst this
    exact ⟨h.1, hf⟩
  | p :: l, r, o, 0, h, hf, _ => ⟨h.1, hf⟩
  | p :: l, r, o, i + 1, h, hf, hi => slot_cell l p.1 3 i ⟨h.2.1.2.2.2.2.2.1, h.2.2⟩ (h.2.1.2.2.2.2.2.2 3) (by simpa using hi)
theorem notin_of {w : World} {S : Nat → Prop} {r : Nat} {t : TypeId} {l : List (Nat × Pk)} (h : Chain w S l) (ht : Typed w r t) (hn : t ≠ 72) : r ∉ l.map (·.1) := by
  intro hm
  obtain ⟨p, hp, rfl⟩ := List.mem_map.1 hm
  exact (ht.ne (h.link p hp).1 hn) rfl
theorem chain_lt {w : World} {S : Nat → Prop} {l : List (Nat × Pk)} (h : Chain w S l) : ∀ b ∈ l.map (·.1), b < w.heap.size := by
  intro b hb
  obtain ⟨p, hp, rfl⟩ := List.mem_map.1 hb
  exact (h.link p hp).1.lt
/-- The cells that belong to a row. -/
def Cells (r o : Nat) (l : List (Nat × Pk)) : Nat → Nat → Prop := fun b x => (b = r ∧ (x = o ∨ x = o + 1)) ∨ (b ∈ l.map (·.1) ∧ x = 3)

/-- What a put leaves, in plain terms. -/
theorem put_done {w W : World} {S : Nat → Prop} {r o g : Nat} {l : List (Nat × Pk)} {k : Pk} {t : TypeId} {A : Option Addr} {cap : Nat} (h : RowAt w S r o l) (ht : Typed w r t) (hu : t ≠ 5) (hn : t ≠ 72) (hS : ∀ b, w.heap.size ≤ b → S b) (hb : Bytes w S A k.b) (hfew : l.length < 1000000)
    (hg : w.grownBy W none) (hgs : w.heap.size ≤ g) (hgb : W.heap[g]? = some (.cells #[.int .i64 k.src, .int .i64 k.to, .slice A k.b.length cap, .pointer none] 72)) :
    RowAt ((W.setCell (slot r o l l.length) (.pointer (some ⟨g, 0, none⟩))).setCell ⟨r, o + 1, none⟩ (.int .i64 ((l.length : Int) + 1))) S r o (l ++ [(g, k)]) ∧
    CellOff (Cells r o l) w ((W.setCell (slot r o l l.length) (.pointer (some ⟨g, 0, none⟩))).setCell ⟨r, o + 1, none⟩ (.int .i64 ((l.length : Int) + 1))) ∧
    (W.setCell (slot r o l l.length) (.pointer (some ⟨g, 0, none⟩))).cell? ⟨r, o + 1, none⟩ = some (.int .i64 (l.length : Int)) ∧ (W.setCell (slot r o l l.length) (.pointer (some ⟨g, 0, none⟩))).frozen? ⟨r, o + 1, none⟩ = false := by
  have hW := h.grown hg
  have htW := ht.grown hg
  have hnot := notin_of hW.chain htW hn
  have hgl : g ∉ l.map (·.1) := fun hm => by have := chain_lt h.chain g hm; omega
  have hgr : g ≠ r := by have := ht.lt; omega
  have hlink : LinkAt W S g k none := by
    have hc : ∀ o, W.cell? ⟨g, o, none⟩ = #[Value.int .i64 k.src, .int .i64 k.to, .slice A k.b.length cap, .pointer none][o]? := fun o => by simp only [World.cell?, hgb]; rfl
    exact ⟨hS g hgs, ⟨_, _, hgb⟩, hc 0, hc 1, ⟨A, cap, hc 2, hb.grown hg⟩, hc 3, fun o => by simp only [World.frozen?, hgb]; simp⟩
  have hh := Hangs.snoc l W r o ⟨hW.first, hW.chain⟩ htW hu hnot h.nodup hgl hgr hlink
  have hnot2 : r ∉ (l ++ [(g, k)]).map (·.1) := by
    rw [List.map_append]
    intro hm
    rcases List.mem_append.1 hm with hm | hm
    · exact hnot hm
    · simp at hm; exact hgr hm.symm
  obtain ⟨sb, sx, hslot, hsl⟩ : ∃ sb sx, slot r o l l.length = ⟨sb, sx, none⟩ ∧ Cells r o l sb sx ∧ ¬ (sb = r ∧ sx = o + 1) := by
    rcases slot_at l r o l.length (Nat.le_refl _) with ⟨e, _⟩ | ⟨p, hp, e⟩
    · exact ⟨r, o, e, .inl ⟨rfl, .inl rfl⟩, by omega⟩
    · exact ⟨p.1, 3, e, .inr ⟨List.mem_map.2 ⟨p, hp, rfl⟩, rfl⟩, fun h => hnot (h.1 ▸ List.mem_map.2 ⟨p, hp, rfl⟩)⟩
  rw [hslot] at hh ⊢
  have k1 := CellOff.set W sb sx (.pointer (some ⟨g, 0, none⟩))
  have k2 := CellOff.set (W.setCell ⟨sb, sx, none⟩ (.pointer (some ⟨g, 0, none⟩))) r (o + 1) (.int .i64 ((l.length : Int) + 1))
  have hn1 : (W.setCell ⟨sb, sx, none⟩ (.pointer (some ⟨g, 0, none⟩))).cell? ⟨r, o + 1, none⟩ = some (.int .i64 (l.length : Int)) :=
    (k1.cell r (o + 1) (World.block_lt_of_cell? W _ hW.first) (fun hF => hsl.2 ⟨hF.1.symm, hF.2.symm⟩)).trans hW.n
  have hfz : ∀ x, (W.setCell ⟨sb, sx, none⟩ (.pointer (some ⟨g, 0, none⟩))).frozen? ⟨r, x, none⟩ = W.frozen? ⟨r, x, none⟩ := fun x => by rw [World.frozen?_setCell]
  refine ⟨⟨?_, ?_, ⟨?_, ?_⟩, hh.2.set_ne hnot2 (htW.set) hu, ?_, ?_⟩, ?_, hn1, (hfz _).trans hW.fz.2⟩
  · rw [World.cell?_setCell_other _ _ _ _ (by first | (simp; done) | (simp; omega))]
    exact hh.1
  · rw [World.cell?_setCell_same _ _ _ hn1, List.length_append]
    rfl
  · rw [World.frozen?_setCell]; exact (hfz _).trans hW.fz.1
  · rw [World.frozen?_setCell]; exact (hfz _).trans hW.fz.2
  · rw [List.map_append]
    exact List.nodup_append.2 ⟨h.nodup, by simp, fun a ha b hb' => by simp at hb'; subst hb'; rintro rfl; exact hgl ha⟩
  · rw [List.length_append]; simp; omega
  · exact ((CellOff.grown hg).trans (k1.mono (fun x y _ hF => by obtain ⟨rfl, rfl⟩ := hF; exact hsl.1))).trans (k2.mono (fun x y _ hF => .inl ⟨hF.1, .inr hF.2⟩))

set_option maxRecDepth 100000 in
set_option maxHeartbeats 4000000 in
theorem put_at (S : Nat → Prop) (r o : Nat) (l : List (Nat × Pk)) (k : Pk) (t : TypeId) (A : Option Addr) (cap : Nat) (w : World) (h : RowAt w S r o l) (ht : Typed w r t) (hu : t ≠ 5) (hn : t ≠ 72) (hS : ∀ b, w.heap.size ≤ b → S b) (hb : Bytes w S A k.b) (hfew : l.length < 1000000) :
    Calls Try.prog 30 #[.pointer (some ⟨r, o, none⟩), .agg #[.int .i64 k.src, .int .i64 k.to, .slice A k.b.length cap]] w fun e w' => e = .returned (.tuple #[]) ∧ ∃ g, w.heap.size ≤ g ∧ RowAt w' S r o (l ++ [(g, k)]) ∧ CellOff (Cells r o l) w w' := by
  have hg1 := World.grownBy_alloc w (.cells #[.int .i64 k.src, .int .i64 k.to, .slice A k.b.length cap] 37) none
  have hs1 : (w.alloc (.cells #[.int .i64 k.src, .int .i64 k.to, .slice A k.b.length cap] 37)).heap.size = w.heap.size + 1 := World.size_alloc ..
  have hb1 := (MapKept.heap_alloc w (.cells #[.int .i64 k.src, .int .i64 k.to, .slice A k.b.length cap] 37)).1
  have HG1 := Lib.hid (And.intro hg1 (And.intro hs1 hb1))
  have HH := Lib.hid h
  have HPRE := Lib.hid (And.intro ht (And.intro hS hb))
  have HFEW := Lib.hid hfew
  clear hg1 hs1 hb1 h ht hS hb
  go_enter Try.func30, Try.ntmps30
  go_wp2_with fail
  have hG1 := HG1.out
  generalize w.alloc (.cells #[.int .i64 k.src, .int .i64 k.to, .slice A k.b.length cap] 37) = w1 at hG1 ⊢
  obtain ⟨hg1, hs1, hb1⟩ := hG1
  have hg1d : w.grownBy w1.drew none := ⟨hg1.os, hg1.tape, hg1.output, hg1.size, hg1.block⟩
  have hgB : w1.drew.grownBy (w1.drew.alloc (.cells #[.int .i64 k.src, .int .i64 k.to, .slice A k.b.length cap, .pointer none] 72)) none := World.grownBy_alloc _ _ none
  have hg2 := hg1d.andThen hgB (fun _ hj => .inr hj)
  have hbl : (w1.drew.alloc (.cells #[.int .i64 k.src, .int .i64 k.to, .slice A k.b.length cap, .pointer none] 72)).heap[w.heap.size + 1]? = some (.cells #[.int .i64 k.src, .int .i64 k.to, .slice A k.b.length cap, .pointer none] 72) := by
    have := (MapKept.heap_alloc w1.drew (.cells #[.int .i64 k.src, .int .i64 k.to, .slice A k.b.length cap, .pointer none] 72)).1
    rw [show w1.drew.heap.size = w.heap.size + 1 from hs1] at this
    exact this
  have hput := put_done HH.out HPRE.out.1 hu hn HPRE.out.2.1 HPRE.out.2.2 HFEW.out hg2 (Nat.le_succ w.heap.size) hbl
  obtain ⟨sb, sx, hslot, hsblt⟩ : ∃ sb sx, slot r o l l.length = ⟨sb, sx, none⟩ ∧ sb < w.heap.size := by
    rcases slot_at l r o l.length (Nat.le_refl _) with ⟨e, _⟩ | ⟨p, hp, e⟩
    · exact ⟨r, o, e, HPRE.out.1.lt⟩
    · exact ⟨p.1, 3, e, chain_lt HH.out.chain _ (List.mem_map.2 ⟨p, hp, rfl⟩)⟩
  have hsc := slot_cell l r o l.length ⟨(HH.out.grown hg2).first, (HH.out.grown hg2).chain⟩ (HH.out.grown hg2).fz.1 (Nat.le_refl _)
  have hat1 := at_at S r o l.length l w1.drew (HH.out.grown hg1d) (Nat.le_refl _)
  have hat2 := at_at S r o l.length l _ (HH.out.grown hg2) (Nat.le_refl _)
  rw [hslot] at hput hsc hat1 hat2
  have HS0 : Hid (w1.drew.cell? ⟨r, o + 1, none⟩ = some (.int .i64 (l.length : Int)) ∧ w1.drew.cell? ⟨w.heap.size, 0, none⟩ = some (.int .i64 k.src) ∧ w1.drew.cell? ⟨w.heap.size, 1, none⟩ = some (.int .i64 k.to) ∧ w1.drew.cell? ⟨w.heap.size, 2, none⟩ = some (.slice A k.b.length cap)) := by
    have hc : ∀ j, w1.drew.cell? ⟨w.heap.size, j, none⟩ = #[Value.int .i64 k.src, .int .i64 k.to, .slice A k.b.length cap][j]? := fun j => by
      have hb1' : w1.drew.heap[w.heap.size]? = some (.cells #[.int .i64 k.src, .int .i64 k.to, .slice A k.b.length cap] 37) := hb1
      simp only [World.cell?, hb1']; rfl
    exact ⟨(HH.out.grown hg1d).n, hc 0, hc 1, hc 2⟩
  have HGB := Lib.hid hgB
  have HAT1 := Lib.hid hat1
  have HAT2 := Lib.hid hat2
  have HPUT := Lib.hid hput
  have HSC := Lib.hid hsc
  have HS1 := Lib.hid hs1
  clear hg1 hg1d hg2 hbl hput hat1 hat2 hgB hb1 hsc hs1
  have HPB : Hid (∀ j u, w1.drew.cell? ⟨w.heap.size, j, none⟩ = some u → ((w1.drew.alloc (.cells #[.int .i64 k.src, .int .i64 k.to, .slice A k.b.length cap, .pointer none] 72)).setCell ⟨sb, sx, none⟩ (.pointer (some ⟨w.heap.size + 1, 0, none⟩))).cell? ⟨w.heap.size, j, none⟩ = some u) := fun j u hu => by
    rw [World.cell?_setCell_other _ _ _ _ (by first | (simp; done) | (simp; omega))]
    exact HGB.out.cell hu (by simp)
  have HS9 : Hid (((w1.drew.alloc (.cells #[.int .i64 k.src, .int .i64 k.to, .slice A k.b.length cap, .pointer none] 72)).setCell ⟨sb, sx, none⟩ (.pointer (some ⟨w.heap.size + 1, 0, none⟩))).cell? ⟨r, o + 1, none⟩ = some (.int .i64 (l.length : Int)) ∧ _ ∧ _ ∧ _) := ⟨HPUT.out.2.2.1, HPB.out _ _ HS0.out.2.1, HPB.out _ _ HS0.out.2.2.1, HPB.out _ _ HS0.out.2.2.2⟩
  have hn9 : ((w1.alloc (.cells #[.int .i64 k.src, .int .i64 k.to, .slice A k.b.length cap, .pointer none] 72)).setCell ⟨sb, sx, none⟩ (.pointer (some ⟨w.heap.size + 1, 0, none⟩))).cell? ⟨r, o + 1, none⟩ = some (.int .i64 (l.length : Int)) := HPUT.out.2.2.1
  have hz9 : ((w1.alloc (.cells #[.int .i64 k.src, .int .i64 k.to, .slice A k.b.length cap, .pointer none] 72)).setCell ⟨sb, sx, none⟩ (.pointer (some ⟨w.heap.size + 1, 0, none⟩))).frozen? ⟨r, o + 1, none⟩ = false := HPUT.out.2.2.2
  clear hsblt
  have hsc1 : (w1.alloc (.cells #[.int .i64 k.src, .int .i64 k.to, .slice A k.b.length cap, .pointer none] 72)).cell? ⟨sb, sx, none⟩ = some (.pointer (nxt (l.drop l.length))) := HSC.out.1
  have hsc2 : (w1.alloc (.cells #[.int .i64 k.src, .int .i64 k.to, .slice A k.b.length cap, .pointer none] 72)).frozen? ⟨sb, sx, none⟩ = false := HSC.out.2
  have hwr : wrap64 ((l.length : Int) + 1) = (l.length : Int) + 1 := by have := HFEW.out; unfold wrap64; omega
  clear hslot
  have hs1 := HS1.out
  go_wp2_with fail
  refine wp_region_noPanic ?_
  refine wp_region_held_drew (S := fun w' => w'.cell? ⟨r, o + 1, none⟩ = some (.int .i64 (l.length : Int)) ∧ w'.cell? ⟨w.heap.size, 0, none⟩ = some (.int .i64 k.src) ∧ w'.cell? ⟨w.heap.size, 1, none⟩ = some (.int .i64 k.to) ∧ w'.cell? ⟨w.heap.size, 2, none⟩ = some (.slice A k.b.length cap)) (by kernel_rfl) ?hSa (fun hHeld => ?_)
  case hSa => exact HS0.out
  refine wpAnyH_take (i := 0) (oi := ⟨_, _, _, _, _, _⟩) (v := ?va0) rfl (by kernel_rfl) (by kernel_rfl) (by kernel_rfl) (fun _ _ _ h => h) (Or.inl ⟨by rfl, ?hya0⟩) hHeld ?_
  case hya0 => (intro wS hSw; (try dsimp only at hSw); go_simp; (first | done | with_reducible rfl))
  try simp only [Act.put, List.setIfInBounds_toArray, List.set_cons_zero, List.set_cons_succ]
  refine wpAnyH_take (i := 1) (oi := ⟨_, _, _, _, _, _⟩) (v := ?va1) rfl (by kernel_rfl) (by kernel_rfl) (by kernel_rfl) (fun _ _ _ h => h) (Or.inl ⟨by rfl, ?hya1⟩) hHeld ?_
  case hya1 => (intro wS hSw; (try dsimp only at hSw); go_simp; (first | done | with_reducible rfl))
  try simp only [Act.put, List.setIfInBounds_toArray, List.set_cons_zero, List.set_cons_succ]
  refine wpAnyH_take (i := 2) (oi := ⟨_, _, _, _, _, _⟩) (v := ?va2) rfl (by kernel_rfl) (by kernel_rfl) (by kernel_rfl) (fun _ _ _ h => h) (Or.inl ⟨by rfl, ?hya2⟩) hHeld ?_
  case hya2 => (intro wS hSw; (try dsimp only at hSw); go_simp; (first | done | with_reducible rfl))
  try simp only [Act.put, List.setIfInBounds_toArray, List.set_cons_zero, List.set_cons_succ]
  refine wpAnyH_take (i := 3) (oi := ⟨_, _, _, _, _, _⟩) (v := ?va3) rfl (by kernel_rfl) (by kernel_rfl) (by kernel_rfl) (fun _ _ _ h => h) (Or.inl ⟨by rfl, ?hya3⟩) hHeld ?_
  case hya3 => (intro wS hSw; (try dsimp only at hSw); go_simp; (first | done | with_reducible rfl))
  try simp only [Act.put, List.setIfInBounds_toArray, List.set_cons_zero, List.set_cons_succ]
  refine wpAnyH_take (i := 4) (oi := ⟨_, _, _, _, _, _⟩) (v := ?va4) rfl (by kernel_rfl) (by kernel_rfl) (by kernel_rfl) (fun _ _ _ h => h) (Or.inl ⟨by rfl, ?hya4⟩) hHeld ?_
  case hya4 => (intro wS hSw; (try dsimp only at hSw); go_simp; (first | done | with_reducible rfl))
  try simp only [Act.put, List.setIfInBounds_toArray, List.set_cons_zero, List.set_cons_succ]
  refine wpAnyH_take (i := 6) (oi := ⟨_, _, _, _, _, _⟩) (v := ?va6) rfl (by kernel_rfl) (by kernel_rfl) (by kernel_rfl) (fun _ _ _ h => h) (Or.inl ⟨by rfl, ?hya6⟩) hHeld ?_
  case hya6 => (intro wS hSw; (try dsimp only at hSw); go_simp; (first | done | with_reducible rfl))
  try simp only [Act.put, List.setIfInBounds_toArray, List.set_cons_zero, List.set_cons_succ]
  refine wpAnyH_take (i := 7) (oi := ⟨_, _, _, _, _, _⟩) (v := ?va7) rfl (by kernel_rfl) (by kernel_rfl) (by kernel_rfl) (fun _ _ _ h => h) (Or.inl ⟨by rfl, ?hya7⟩) hHeld ?_
  case hya7 => (intro wS hSw; (try dsimp only at hSw); go_simp; (first | done | with_reducible rfl))
  try simp only [Act.put, List.setIfInBounds_toArray, List.set_cons_zero, List.set_cons_succ]
  refine wpAnyH_ready (rs := [5, 8]) (by kernel_rfl) (by simp) ?_
  refine AllReadyH.cons (o := ⟨_, _, _, _, _, _⟩) rfl (fun K hK => ?_) (AllReadyH.cons (o := ⟨_, _, _, _, _, _⟩) rfl (fun K hK => ?_) AllReadyH.nil)
  · go_simp
    refine (HAT1.out).mono ?_
    rintro e w' ⟨rfl, rfl⟩
    go_wp2_with fail
    refine hK.out _ _ ?kax5 (fun hNew => ?_)
    case kax5 => (try dsimp only); exact hHeld
    clear hK K hHeld
    have hHeld := hNew
    clear hNew
    try simp only [Act.put, List.setIfInBounds_toArray, List.set_cons_zero, List.set_cons_succ]
    refine wpAnyH_ready (rs := [8]) (by kernel_rfl) (by simp) ?_
    refine AllReadyH.cons (o := ⟨_, _, _, _, _, _⟩) rfl (fun K hK => ?_) AllReadyH.nil
    go_simp
    refine hK.out _ _ ?kax8 (fun hNew => ?_)
    case kax8 => (try dsimp only); exact ⟨HGB.out.cell HS0.out.1 (by simp), HGB.out.cell HS0.out.2.1 (by simp), HGB.out.cell HS0.out.2.2.1 (by simp), HGB.out.cell HS0.out.2.2.2 (by simp)⟩
    clear hK K hHeld
    have hHeld := hNew
    clear hNew
    try simp only [Act.put, List.setIfInBounds_toArray, List.set_cons_zero, List.set_cons_succ]
    refine wpAnyH_take (i := 9) (oi := ⟨_, _, _, _, _, _⟩) (v := ?vax9) rfl (by kernel_rfl) (by kernel_rfl) (by kernel_rfl) (fun _ _ _ h => h) (Or.inl ⟨by rfl, ?hyax9⟩) hHeld ?_
    case hyax9 => (intro wS hSw; (try dsimp only at hSw); go_simp; (first | done | with_reducible rfl))
    try simp only [Act.put, List.setIfInBounds_toArray, List.set_cons_zero, List.set_cons_succ]
    refine wpAnyH_ready (rs := [10]) (by kernel_rfl) (by simp) ?_
    refine AllReadyH.cons (o := ⟨_, _, _, _, _, _⟩) rfl (fun K hK => ?_) AllReadyH.nil
    go_simp
    refine hK.out _ _ ?kax10 (fun hNew => ?_)
    case kax10 => (try dsimp only); exact HS9.out
    clear hK K hHeld
    have hHeld := hNew
    clear hNew
    try simp only [Act.put, List.setIfInBounds_toArray, List.set_cons_zero, List.set_cons_succ]
    refine wpAnyH_done (by kernel_rfl) ?_ _
    refine NoPanic.normal ?_
    clear hHeld
    go_wp2_with fail
    go_end0
    exact ⟨rfl, w.heap.size + 1, Nat.le_succ _, HPUT.out.1, HPUT.out.2.1⟩
  · go_simp
    refine hK.out _ _ ?kay8 (fun hNew => ?_)
    case kay8 => (try dsimp only); exact ⟨HGB.out.cell HS0.out.1 (by simp), HGB.out.cell HS0.out.2.1 (by simp), HGB.out.cell HS0.out.2.2.1 (by simp), HGB.out.cell HS0.out.2.2.2 (by simp)⟩
    clear hK K hHeld
    have hHeld := hNew
    clear hNew
    try simp only [Act.put, List.setIfInBounds_toArray, List.set_cons_zero, List.set_cons_succ]
    refine wpAnyH_ready (rs := [5]) (by kernel_rfl) (by simp) ?_
    refine AllReadyH.cons (o := ⟨_, _, _, _, _, _⟩) rfl (fun K hK => ?_) AllReadyH.nil
    go_simp
    refine (HAT2.out).mono ?_
    rintro e w' ⟨rfl, rfl⟩
    go_wp2_with fail
    refine hK.out _ _ ?kay5 (fun hNew => ?_)
    case kay5 => (try dsimp only); exact hHeld
    clear hK K hHeld
    have hHeld := hNew
    clear hNew
    try simp only [Act.put, List.setIfInBounds_toArray, List.set_cons_zero, List.set_cons_succ]
    refine wpAnyH_take (i := 9) (oi := ⟨_, _, _, _, _, _⟩) (v := ?vay9) rfl (by kernel_rfl) (by kernel_rfl) (by kernel_rfl) (fun _ _ _ h => h) (Or.inl ⟨by rfl, ?hyay9⟩) hHeld ?_
    case hyay9 => (intro wS hSw; (try dsimp only at hSw); go_simp; (first | done | with_reducible rfl))
    try simp only [Act.put, List.setIfInBounds_toArray, List.set_cons_zero, List.set_cons_succ]
    refine wpAnyH_ready (rs := [10]) (by kernel_rfl) (by simp) ?_
    refine AllReadyH.cons (o := ⟨_, _, _, _, _, _⟩) rfl (fun K hK => ?_) AllReadyH.nil
    go_simp
    refine hK.out _ _ ?kay10 (fun hNew => ?_)
    case kay10 => (try dsimp only); exact HS9.out
    clear hK K hHeld
    have hHeld := hNew
    clear hNew
    try simp only [Act.put, List.setIfInBounds_toArray, List.set_cons_zero, List.set_cons_succ]
    refine wpAnyH_done (by kernel_rfl) ?_ _
    refine NoPanic.normal ?_
    clear hHeld
    go_wp2_with fail
    go_end0
    exact ⟨rfl, w.heap.size + 1, Nat.le_succ _, HPUT.out.1, HPUT.out.2.1⟩
end Go.Proofs.Ytonfpifikblnjaa.Net
