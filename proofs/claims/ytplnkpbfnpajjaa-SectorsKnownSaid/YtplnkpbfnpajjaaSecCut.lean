/- A disk is cut: sectors.Cut. -/
import Derived.Test.YtplnkpbfnpajjaaSecSettle
namespace Go.Proofs.Ytplnkpbfnpajjaa.Sec
open Go.RowKit Go.Maps

/-- What is behind writes. -/
def behind (f : Nat → List UInt8) (l : List (Nat × List UInt8)) : Nat → List UInt8 := l.foldl (fun f p => upd f p.1 p.2) f
theorem behind_nil (f : Nat → List UInt8) : behind f [] = f := rfl
theorem behind_snoc (f : Nat → List UInt8) (l : List (Nat × List UInt8)) (p : Nat × List UInt8) : behind f (l ++ [p]) = upd (behind f l) p.1 p.2 := by simp [behind]
/-- A disk that was cut. -/
def Dsk.cut (D : Dsk) (k : Int) : Dsk := ⟨D.n, behind D.base (D.wr.take (max 0 (min (D.wr.length : Int) k)).toNat), behind D.base (D.wr.take (max 0 (min (D.wr.length : Int) k)).toNat), [], none, false⟩

theorem rows_at : ∀ (wr : List (Nat × List UInt8)) (j : Nat) (p : Nat × List UInt8), (∀ p ∈ wr, p.2.length = 128) → wr[j]? = some p → ∀ (t : Nat) (v : Value), (wrA p.1 p.2).toList[t]? = some v → (rows wr)[j * 129 + t]? = some v
  | [], j, p, _, h => by simp at h
  | q :: wr, 0, p, hl, h => by
    intro t v hv
    simp at h
    subst h
    have := (List.getElem?_eq_some_iff.1 hv).1
    simp only [rows, List.flatMap_cons, Nat.zero_mul, Nat.zero_add]
    rw [List.getElem?_append_left this]
    exact hv
  | q :: wr, j + 1, p, hl, h => by
    intro t v hv
    have hq : (wrA q.1 q.2).toList.length = 129 := by rw [Array.length_toList, wrA_size, hl q (by simp)]
    simp only [rows, List.flatMap_cons]
    rw [List.getElem?_append_right (by rw [hq]; omega), hq, show (j + 1) * 129 + t - 129 = j * 129 + t by omega]
    exact rows_at wr j p (fun p hp => hl p (by simp [hp])) (by simpa using h) t v hv
theorem row_range {w : World} {B n : Nat} {A : Option Addr} {cap : Nat} {wr : List (Nat × List UInt8)} (h : w.ownsRow B 55 129 (.slice A n cap) wr.length (rows wr)) (h2 : ∀ p ∈ wr, p.2.length = 128) (j : Nat) (p : Nat × List UInt8) (hj : wr[j]? = some p) :
    ∃ g, A = some ⟨g, 0, none⟩ ∧ w.rangeAt g (j * 129) (wrA p.1 p.2).toList := by
  obtain ⟨_, ⟨e, h0⟩ | ⟨g, cap', cur, e, _, hb, _, _, _, ht⟩⟩ := h
  · have := (List.getElem?_eq_some_iff.1 hj).1
    omega
  · injection e with eA _ _
    refine ⟨g, eA, fun t v hv => ?_⟩
    have h1 := rows_at wr j p h2 hj t v hv
    rw [← ht, List.getElem?_take] at h1
    rw [cell_blk hb]
    split at h1
    · simpa using h1
    · cases h1
theorem row_slice {w : World} {B n : Nat} {sv : Value} {e : TypeId} {xs : List Value} (h : w.ownsRow B e 129 sv n xs) : ∃ A cap, sv = .slice A n cap ∧ n ≤ cap ∧ (A = none → n = 0 ∧ cap = 0) ∧ ∀ a, A = some a → ∃ g, a = ⟨g, 0, none⟩ ∧ B ≤ g := by
  obtain ⟨_, ⟨rfl, rfl⟩ | ⟨g, cap, cur, rfl, hB, _, hc, _⟩⟩ := h
  · exact ⟨none, 0, rfl, Nat.le_refl _, fun _ => ⟨rfl, rfl⟩, by simp⟩
  · exact ⟨_, cap, rfl, hc, by simp, fun a ha => ⟨g, (Option.some.inj ha).symm, hB⟩⟩

set_option maxRecDepth 100000 in
set_option maxHeartbeats 4000000 in
theorem cut_at (S : Nat → Prop) (d : Nat) (D : Dsk) (q : Int) (w : World) (h : DiskAt w S d D) (hn : D.wr.length < 1000000) :
    Calls Try.prog 14 #[.pointer (some ⟨d, 0, none⟩), .int .i64 q] w fun e w' => ∃ c, e = .returned (.pointer (some ⟨c, 0, none⟩)) ∧ DiskAt w' (fun b => w.heap.size ≤ b) c (D.cut q) ∧ Off (fun _ => False) w w' := by
  obtain ⟨h1, h2, mb, mn, sv, pa, hd, hB, hmb, hmn, hne, hsb, hsn, hrow, hos, ha⟩ := h
  obtain ⟨A, cap, rfl, hncap, hA0, hA⟩ := row_slice hrow
  unfold Dsk.cut
  obtain ⟨kk, hkk⟩ : ∃ kk : Nat, (kk : Int) = max 0 (min (D.wr.length : Int) q) := ⟨(max 0 (min (D.wr.length : Int) q)).toNat, by omega⟩
  obtain ⟨mi, hmi⟩ : ∃ mi : Int, mi = min (D.wr.length : Int) q := ⟨_, rfl⟩
  have hmn' : ∀ (w : World) (ts : Array TypeId) (t : TypeId), (Builtin.min_ ts t #[.int .i64 (D.wr.length : Int), .int .i64 q]).run Try.prog w = .ok (.int .i64 mi) w := fun w ts t => by
    rw [run_min_int2]
    congr 2
    split <;> omega
  have hmx : ∀ (w : World) (ts : Array TypeId) (t : TypeId), (Builtin.max_ ts t #[.int .i64 0, .int .i64 mi]).run Try.prog w = .ok (.int .i64 (kk : Int)) w := fun w ts t => by
    rw [run_max_int2]
    congr 2
    split <;> omega
  have hkn : kk ≤ D.wr.length := by omega
  rw [← hkk, Int.toNat_natCast]
  have hdlt := (Array.getElem?_eq_some_iff.1 hd).1
  have HC0 : Hid (w.drew.cell? ⟨d, 0, none⟩ = some (.int .i64 (D.n : Int))) := cell_blk (w := w.drew) hd 0
  have HC1 : Hid (w.drew.cell? ⟨d, 1, none⟩ = some (.map (some mb))) := cell_blk (w := w.drew) hd 1
  have HCA : Hid (∀ (w2 : World) (o : Obj), w.grownBy w2 none → ∀ j, (w2.alloc o).cell? ⟨d, j, none⟩ = #[Value.int .i64 (D.n : Int), .map (some mb), .map (some mn), .slice A D.wr.length cap, .pointer pa, .bool D.off][j]?) := fun w2 o hg j =>
    cell_blk (((hg.andThen (World.grownBy_alloc w2 o none) (fun _ hj => .inr hj)).block d hdlt (by simp)).trans hd) j
  have HSB := Lib.hid hsb
  have HD := Lib.hid hd
  have HDL := Lib.hid hdlt
  have HROW := Lib.hid hrow
  have H2 := Lib.hid h2
  have HCB : Hid (∀ w2 : World, w.grownBy w2 none → SecMap w2 w.heap.size D.n D.base → w.grownBy (w2.alloc (.cells #[.int .i64 (D.n : Int), .map (some w.heap.size), .map none, .slice none 0 0, .pointer none, .bool false] 50)) none ∧ SecMap (w2.alloc (.cells #[.int .i64 (D.n : Int), .map (some w.heap.size), .map none, .slice none 0 0, .pointer none, .bool false] 50)) w.heap.size D.n D.base ∧
      (w2.alloc (.cells #[.int .i64 (D.n : Int), .map (some w.heap.size), .map none, .slice none 0 0, .pointer none, .bool false] 50)).heap[w2.heap.size]? = some (.cells #[.int .i64 (D.n : Int), .map (some w.heap.size), .map none, .slice none 0 0, .pointer none, .bool false] 50) ∧ w.heap.size < w2.heap.size ∧ (w2.alloc (.cells #[.int .i64 (D.n : Int), .map (some w.heap.size), .map none, .slice none 0 0, .pointer none, .bool false] 50)).heap.size = w2.heap.size + 1) := fun w2 hg hs =>
    ⟨hg.andThen (World.grownBy_alloc w2 _ none) (fun _ hj => .inr hj), hs.kept (World.grownBy_alloc w2 _ none) (by simp), (MapKept.heap_alloc w2 _).1, hs.lt, World.size_alloc ..⟩
  clear hd hsb hsn hrow ha hos h2 hkk hmi hdlt
  go_enter Try.func14, Try.ntmps14
  go_wp2_with fail
  refine wp_region_noPanic ?_
  refine wp_region_held_drew (S := fun w' => w'.cell? ⟨d, 0, none⟩ = some (.int .i64 (D.n : Int)) ∧ w'.cell? ⟨d, 1, none⟩ = some (.map (some mb))) (by kernel_rfl) ?hSa (fun hHeld => ?_)
  case hSa => exact ⟨HC0.out, HC1.out⟩
  refine wpAnyH_take (i := 0) (oi := ⟨_, _, _, _, _, _⟩) (v := ?va0) rfl (by kernel_rfl) (by kernel_rfl) (by kernel_rfl) (fun _ _ _ h => h) (Or.inl ⟨by rfl, ?hya0⟩) hHeld ?_
  case hya0 => (intro wS hSw; (try dsimp only at hSw); go_simp; (first | done | with_reducible rfl))
  try simp only [Act.put, List.setIfInBounds_toArray, List.set_cons_zero, List.set_cons_succ]
  refine wpAnyH_take (i := 1) (oi := ⟨_, _, _, _, _, _⟩) (v := ?va1) rfl (by kernel_rfl) (by kernel_rfl) (by kernel_rfl) (fun _ _ _ h => h) (Or.inl ⟨by rfl, ?hya1⟩) hHeld ?_
  case hya1 => (intro wS hSw; (try dsimp only at hSw); go_simp; (first | done | with_reducible rfl))
  try simp only [Act.put, List.setIfInBounds_toArray, List.set_cons_zero, List.set_cons_succ]
  refine wpAnyH_take (i := 2) (oi := ⟨_, _, _, _, _, _⟩) (v := ?va2) rfl (by kernel_rfl) (by kernel_rfl) (by kernel_rfl) (fun _ _ _ h => h) (Or.inl ⟨by rfl, ?hya2⟩) hHeld ?_
  case hya2 => (intro wS hSw; (try dsimp only at hSw); go_simp; (first | done | with_reducible rfl))
  try simp only [Act.put, List.setIfInBounds_toArray, List.set_cons_zero, List.set_cons_succ]
  refine wpAnyH_take (i := 3) (oi := ⟨_, _, _, _, _, _⟩) (v := ?va3) rfl (by kernel_rfl) (by kernel_rfl) (by kernel_rfl) (fun _ _ _ h => h) (Or.inl ⟨by rfl, ?hya3⟩) hHeld ?_
  case hya3 => (intro wS hSw; (try dsimp only at hSw); go_simp; (first | done | with_reducible rfl))
  try simp only [Act.put, List.setIfInBounds_toArray, List.set_cons_zero, List.set_cons_succ]
  refine wpAnyH_take (i := 4) (oi := ⟨_, _, _, _, _, _⟩) (v := ?va4) rfl (by kernel_rfl) (by kernel_rfl) (by kernel_rfl) (fun _ _ _ h => h) (Or.inl ⟨by rfl, ?hya4⟩) hHeld ?_
  case hya4 => (intro wS hSw; (try dsimp only at hSw); go_simp; (first | done | with_reducible rfl))
  try simp only [Act.put, List.setIfInBounds_toArray, List.set_cons_zero, List.set_cons_succ]
  refine wpAnyH_take (i := 5) (oi := ⟨_, _, _, _, _, _⟩) (v := ?va5) rfl (by kernel_rfl) (by kernel_rfl) (by kernel_rfl) (fun _ _ _ h => h) (Or.inl ⟨by rfl, ?hya5⟩) hHeld ?_
  case hya5 => (intro wS hSw; (try dsimp only at hSw); go_simp; (first | done | with_reducible rfl))
  try simp only [Act.put, List.setIfInBounds_toArray, List.set_cons_zero, List.set_cons_succ]
  refine wpAnyH_take (i := 6) (oi := ⟨_, _, _, _, _, _⟩) (v := ?va6) rfl (by kernel_rfl) (by kernel_rfl) (by kernel_rfl) (fun _ _ _ h => h) (Or.inl ⟨by rfl, ?hya6⟩) hHeld ?_
  case hya6 => (intro wS hSw; (try dsimp only at hSw); go_simp; (first | done | with_reducible rfl))
  try simp only [Act.put, List.setIfInBounds_toArray, List.set_cons_zero, List.set_cons_succ]
  refine wpAnyH_take (i := 7) (oi := ⟨_, _, _, _, _, _⟩) (v := ?va7) rfl (by kernel_rfl) (by kernel_rfl) (by kernel_rfl) (fun _ _ _ h => h) (Or.inl ⟨by rfl, ?hya7⟩) hHeld ?_
  case hya7 => (intro wS hSw; (try dsimp only at hSw); go_simp; (first | done | with_reducible rfl))
  try simp only [Act.put, List.setIfInBounds_toArray, List.set_cons_zero, List.set_cons_succ]
  refine wpAnyH_ready (rs := [8]) (by kernel_rfl) (by simp) ?_
  refine AllReadyH.cons (o := ⟨_, _, _, _, _, _⟩) rfl (fun K hK => ?_) AllReadyH.nil
  go_simp
  refine (clone_at mb D.n D.base _ (by exact HSB.out.kept (drew_grown w none) (by simp))).mono ?_
  rintro e w2 ⟨rfl, hsm2, hg2⟩
  have hm0 : w.drew.heap.size = w.heap.size := rfl
  rw [hm0] at hsm2 ⊢
  have HSM2 := Lib.hid hsm2
  have HG2 := Lib.hid ((drew_grown w none).andThen hg2 (fun _ hj => .inr hj))
  clear hsm2 hg2 hm0
  go_wp2_with fail
  refine hK.out _ _ ?ka8 (fun hNew => ?_)
  case ka8 => (try dsimp only); exact ⟨cell_blk ((HG2.out.block d HDL.out (by simp)).trans HD.out) 0, cell_blk ((HG2.out.block d HDL.out (by simp)).trans HD.out) 1⟩
  clear hK K hHeld
  have hHeld := hNew
  clear hNew
  try simp only [Act.put, List.setIfInBounds_toArray, List.set_cons_zero, List.set_cons_succ]
  refine wpAnyH_take (i := 9) (oi := ⟨_, _, _, _, _, _⟩) (v := ?va9) rfl (by kernel_rfl) (by kernel_rfl) (by kernel_rfl) (fun _ _ _ h => h) (Or.inl ⟨by rfl, ?hya9⟩) hHeld ?_
  case hya9 => (intro wS hSw; (try dsimp only at hSw); go_simp; (first | done | with_reducible rfl))
  try simp only [Act.put, List.setIfInBounds_toArray, List.set_cons_zero, List.set_cons_succ]
  refine wpAnyH_ready (rs := [10]) (by kernel_rfl) (by simp) ?_
  refine AllReadyH.cons (o := ⟨_, _, _, _, _, _⟩) rfl (fun K hK => ?_) AllReadyH.nil
  go_simp
  refine hK.out _ _ ?ka10 (fun hNew => ?_)
  case ka10 => (try dsimp only); exact ⟨HCA.out w2 _ HG2.out 0, HCA.out w2 _ HG2.out 1⟩
  clear hK K hHeld
  have hHeld := hNew
  clear hNew
  try simp only [Act.put, List.setIfInBounds_toArray, List.set_cons_zero, List.set_cons_succ]
  refine wpAnyH_take (i := 11) (oi := ⟨_, _, _, _, _, _⟩) (v := ?va11) rfl (by kernel_rfl) (by kernel_rfl) (by kernel_rfl) (fun _ _ _ h => h) (Or.inl ⟨by rfl, ?hya11⟩) hHeld ?_
  case hya11 => (intro wS hSw; (try dsimp only at hSw); go_simp; (first | done | with_reducible rfl))
  try simp only [Act.put, List.setIfInBounds_toArray, List.set_cons_zero, List.set_cons_succ]
  refine wpAnyH_done (by kernel_rfl) ?_ _
  refine NoPanic.normal ?_
  have hf := HCB.out w2 HG2.out HSM2.out
  generalize w2.alloc (.cells #[.int .i64 (D.n : Int), .map (some w.heap.size), .map none, .slice none 0 0, .pointer none, .bool false] 50) = w3 at hf ⊢
  clear HCB HCA HSM2 HG2 hHeld
  generalize w2.heap.size = c at hf ⊢
  obtain ⟨hg3, hsm3, hc3, hcm, hs3⟩ := hf
  have hd3 := (hg3.block d HDL.out (by simp)).trans HD.out
  have hrow3 := row_grown HROW.out hg3
  have HC3 : Hid (w3.drew.cell? ⟨d, 3, none⟩ = some (.slice A D.wr.length cap)) := cell_blk (w := w3.drew) hd3 3
  have HG3 := Lib.hid hg3
  have HSM3 := Lib.hid hsm3
  have HCC3 := Lib.hid hc3
  have HCM : Hid (c ≠ w.heap.size) := by show c ≠ _; omega
  have HCS := Lib.hid (And.intro hcm hs3)
  have HROW3 := Lib.hid hrow3
  have k0 : (0 : Int) ≤ (kk : Int) := by omega
  have k1 : (kk : Int) ≤ (cap : Int) := by omega
  clear hg3 hsm3 hc3 hcm hs3 hd3 hrow3 HC0 HC1
  go_wp2_with fail
  refine wp_region_noPanic ?_
  refine wp_region_held_drew (S := fun w' => w'.cell? ⟨d, 3, none⟩ = some (.slice A D.wr.length cap)) (by kernel_rfl) ?hSb (fun hHeld => ?_)
  case hSb => exact HC3.out
  refine wpAnyH_take (i := 0) (oi := ⟨_, _, _, _, _, _⟩) (v := ?vb0) rfl (by kernel_rfl) (by kernel_rfl) (by kernel_rfl) (fun _ _ _ h => h) (Or.inl ⟨by rfl, ?hyb0⟩) hHeld ?_
  case hyb0 => (intro wS hSw; (try dsimp only at hSw); go_simp; (first | done | with_reducible rfl))
  try simp only [Act.put, List.setIfInBounds_toArray, List.set_cons_zero, List.set_cons_succ]
  refine wpAnyH_take (i := 1) (oi := ⟨_, _, _, _, _, _⟩) (v := ?vb1) rfl (by kernel_rfl) (by kernel_rfl) (by kernel_rfl) (fun _ _ _ h => h) (Or.inl ⟨by rfl, ?hyb1⟩) hHeld ?_
  case hyb1 => (intro wS hSw; (try dsimp only at hSw); go_simp; (first | done | with_reducible rfl))
  try simp only [Act.put, List.setIfInBounds_toArray, List.set_cons_zero, List.set_cons_succ]
  refine wpAnyH_take (i := 2) (oi := ⟨_, _, _, _, _, _⟩) (v := ?vb2) rfl (by kernel_rfl) (by kernel_rfl) (by kernel_rfl) (fun _ _ _ h => h) (Or.inl ⟨by rfl, ?hyb2⟩) hHeld ?_
  case hyb2 => (intro wS hSw; (try dsimp only at hSw); go_simp; (first | done | with_reducible rfl))
  try simp only [Act.put, List.setIfInBounds_toArray, List.set_cons_zero, List.set_cons_succ]
  refine wpAnyH_take (i := 3) (oi := ⟨_, _, _, _, _, _⟩) (v := ?vb3) rfl (by kernel_rfl) (by kernel_rfl) (by kernel_rfl) (fun _ _ _ h => h) (Or.inl ⟨by rfl, ?hyb3⟩) hHeld ?_
  case hyb3 => (intro wS hSw; (try dsimp only at hSw); go_simp; (first | done | with_reducible rfl))
  try simp only [Act.put, List.setIfInBounds_toArray, List.set_cons_zero, List.set_cons_succ]
  refine wpAnyH_take (i := 4) (oi := ⟨_, _, _, _, _, _⟩) (v := ?vb4) rfl (by kernel_rfl) (by kernel_rfl) (by kernel_rfl) (fun _ _ _ h => h) (Or.inl ⟨by rfl, ?hyb4⟩) hHeld ?_
  case hyb4 => (intro wS hSw; (try dsimp only at hSw); go_simp; (first | done | with_reducible rfl))
  try simp only [Act.put, List.setIfInBounds_toArray, List.set_cons_zero, List.set_cons_succ]
  refine wpAnyH_take (i := 5) (oi := ⟨_, _, _, _, _, _⟩) (v := ?vb5) rfl (by kernel_rfl) (by kernel_rfl) (by kernel_rfl) (fun _ _ _ h => h) (Or.inl ⟨by rfl, ?hyb5⟩) hHeld ?_
  case hyb5 => (intro wS hSw; (try dsimp only at hSw); go_simp; (first | done | with_reducible rfl))
  try simp only [Act.put, List.setIfInBounds_toArray, List.set_cons_zero, List.set_cons_succ]
  refine wpAnyH_take (i := 6) (oi := ⟨_, _, _, _, _, _⟩) (v := ?vb6) rfl (by kernel_rfl) (by kernel_rfl) (by kernel_rfl) (fun _ _ _ h => h) (Or.inl ⟨by rfl, ?hyb6⟩) hHeld ?_
  case hyb6 => (intro wS hSw; (try dsimp only at hSw); go_simp; (first | done | with_reducible rfl))
  try simp only [Act.put, List.setIfInBounds_toArray, List.set_cons_zero, List.set_cons_succ]
  refine wpAnyH_take (i := 7) (oi := ⟨_, _, _, _, _, _⟩) (v := ?vb7) rfl (by kernel_rfl) (by kernel_rfl) (by kernel_rfl) (fun _ _ _ h => h) (Or.inl ⟨by rfl, ?hyb7⟩) hHeld ?_
  case hyb7 => (intro wS hSw; (try dsimp only at hSw); go_simp; (first | done | with_reducible rfl))
  try simp only [Act.put, List.setIfInBounds_toArray, List.set_cons_zero, List.set_cons_succ]
  refine wpAnyH_take (i := 8) (oi := ⟨_, _, _, _, _, _⟩) (v := ?vb8) rfl (by kernel_rfl) (by kernel_rfl) (by kernel_rfl) (fun _ _ _ h => h) (Or.inl ⟨by rfl, ?hyb8⟩) hHeld ?_
  case hyb8 => (intro wS hSw; (try dsimp only at hSw); go_simp; (first | done | with_reducible rfl))
  try simp only [Act.put, List.setIfInBounds_toArray, List.set_cons_zero, List.set_cons_succ]
  refine wpAnyH_take (i := 9) (oi := ⟨_, _, _, _, _, _⟩) (v := ?vb9) rfl (by kernel_rfl) (by kernel_rfl) (by kernel_rfl) (fun _ _ _ h => h) (Or.inl ⟨by rfl, ?hyb9⟩) hHeld ?_
  case hyb9 => (intro wS hSw; (try dsimp only at hSw); go_simp; (first | done | with_reducible rfl))
  try simp only [Act.put, List.setIfInBounds_toArray, List.set_cons_zero, List.set_cons_succ]
  refine wpAnyH_take (i := 10) (oi := ⟨_, _, _, _, _, _⟩) (v := ?vb10) rfl (by kernel_rfl) (by kernel_rfl) (by kernel_rfl) (fun _ _ _ h => h) (Or.inl ⟨by rfl, ?hyb10⟩) hHeld ?_
  case hyb10 => (intro wS hSw; (try dsimp only at hSw); go_simp; (first | done | with_reducible rfl))
  try simp only [Act.put, List.setIfInBounds_toArray, List.set_cons_zero, List.set_cons_succ]
  refine wpAnyH_take (i := 11) (oi := ⟨_, _, _, _, _, _⟩) (v := ?vb11) rfl (by kernel_rfl) (by kernel_rfl) (by kernel_rfl) (fun _ _ _ h => h) (Or.inl ⟨by rfl, ?hyb11⟩) hHeld ?_
  case hyb11 => (intro wS hSw; (try dsimp only at hSw); go_simp; (first | done | with_reducible rfl))
  try simp only [Act.put, List.setIfInBounds_toArray, List.set_cons_zero, List.set_cons_succ]
  refine wpAnyH_take (i := 12) (oi := ⟨_, _, _, _, _, _⟩) (v := ?vb12) rfl (by kernel_rfl) (by kernel_rfl) (by kernel_rfl) (fun _ _ _ h => h) (Or.inl ⟨by rfl, ?hyb12⟩) hHeld ?_
  case hyb12 => (intro wS hSw; (try dsimp only at hSw); go_simp; (first | done | with_reducible rfl))
  try simp only [Act.put, List.setIfInBounds_toArray, List.set_cons_zero, List.set_cons_succ]
  refine wpAnyH_take (i := 13) (oi := ⟨_, _, _, _, _, _⟩) (v := ?vb13) rfl (by kernel_rfl) (by kernel_rfl) (by kernel_rfl) (fun _ _ _ h => h) (Or.inl ⟨by rfl, ?hyb13⟩) hHeld ?_
  case hyb13 => (intro wS hSw; (try dsimp only at hSw); go_simp; (first | done | with_reducible rfl))
  try simp only [Act.put, List.setIfInBounds_toArray, List.set_cons_zero, List.set_cons_succ]
  refine wpAnyH_take (i := 14) (oi := ⟨_, _, _, _, _, _⟩) (v := ?vb14) rfl (by kernel_rfl) (by kernel_rfl) (by kernel_rfl) (fun _ _ _ h => h) (Or.inl ⟨by rfl, ?hyb14⟩) hHeld ?_
  case hyb14 => (intro wS hSw; (try dsimp only at hSw); go_simp; (first | done | with_reducible rfl))
  try simp only [Act.put, List.setIfInBounds_toArray, List.set_cons_zero, List.set_cons_succ]
  refine wpAnyH_done (by kernel_rfl) ?_ _
  refine NoPanic.normal ?_
  go_wp2_with fail
  go_loopw [35] (fun j wr => ∃ k : Nat, k ≤ kk ∧ j = .int .i64 (k : Int) ∧ SecMap wr w.heap.size D.n (behind D.base (D.wr.take k)) ∧ w3.grownBy wr (some w.heap.size)) (fun j _ => kk - (intOf j).toNat)
  case atStart => exact ⟨0, Nat.zero_le _, rfl, HSM3.out.kept (drew_grown w3 none) (by simp), drew_grown w3 _⟩
  case round =>
    obtain ⟨k, hk, rfl, hsmr, hgr⟩ := hrel
    have hszr := hgr.size
    have hclt := (Array.getElem?_eq_some_iff.1 HCC3.out).1
    have hcr := (hgr.block c hclt (fun e => HCM.out (Option.some.inj e))).trans HCC3.out
    have HCR := Lib.hid hcr
    have HGR := Lib.hid hgr
    have HSMR := Lib.hid hsmr
    have HSS : Hid (w.heap.size < wr.heap.size ∧ c < wr.heap.size) := by have := HCS.out; show _ ∧ _; omega
    clear hcr hgr hsmr hszr hclt HC3
    by_cases hlt : k < kk
    · have hkd : decide ((k : Int) < (kk : Int)) = true := by simp; omega
      obtain ⟨⟨i, l⟩, hp⟩ : ∃ p, D.wr[k]? = some p := ⟨D.wr[k]'(by omega), List.getElem?_eq_getElem _⟩
      have hpm := H2.out (i, l) (List.mem_of_getElem? hp)
      obtain ⟨g, rfl, hrg⟩ := row_range (row_of_map HROW3.out HSM3.out HGR.out) (fun p hp => (H2.out p hp).2) k (i, l) hp
      have HP := Lib.hid hpm
      have HRG := Lib.hid hrg
      have HPK := Lib.hid hp
      have ht := there_new wr (wrA 0 noughts) 55 129 (by rw [wrA_size, noughts_length]; omega)
      have hgx := grown_new wr (.cells (wrA 0 noughts) 55) (wrA i l).toList 0
      have hrx : ((wr.alloc (.cells (wrA 0 noughts) 55)).setCells wr.heap.size 0 (wrA i l).toList).rangeAt wr.heap.size 0 (wrA i l).toList := World.rangeAt_setCells_same _ _ _ _ (by
        have hl := hpm.2
        simpa [wrA_size, hl] using ht)
      have HT := Lib.hid ht
      have HX0 := Lib.hid (And.intro hrx (And.intro ((hgx.block c HSS.out.2 (by simp)).trans HCR.out) (And.intro (HSMR.out.kept hgx (by simp)) (And.intro hgx HSS.out.1))))
      have hzw := zero_wr
      have k2 : (0 : Int) ≤ (k : Int) := by omega
      have k3 : (k : Int) < (kk : Int) := by omega
      clear hpm hrg hp ht hgx hrx
      go_wp2_with (first
        | (with_reducible show Go.wpList _ _ _ ((⟨_, .store _ _ _, _, _, _, _⟩ : Oper) :: _) _ _; refine wpList_store_wr rfl _ _ rfl wr.heap.size i l HP.out.2 rfl rfl HT.out ?_; go_frame)
        | (with_reducible show Go.wpList _ _ _ ((⟨_, .load _ _, _, _, _, _⟩ : Oper) :: _) _ _; refine wpList_load_wr rfl _ rfl g (k * 129) i l HP.out.2 rfl HRG.out ?_; go_frame)
        | go_in)
      have hx0 := HX0.out
      generalize (wr.alloc (.cells (wrA 0 noughts) 55)).setCells wr.heap.size 0 (wrA i l).toList = wx at hx0 ⊢
      have HX := Lib.hid (And.intro hx0.1 (And.intro (cell_blk hx0.2.1 1) (And.intro hx0.2.2.1 (And.intro hx0.2.2.2.1 hx0.2.2.2.2))))
      clear hx0 HX0 HT hzw
      go_wp2_with fail
      refine wp_region_noPanic ?_
      refine wp_region_held_drew (S := fun w' => w'.rangeAt wr.heap.size 0 (wrA i l).toList ∧ w'.cell? ⟨c, 1, none⟩ = some (.map (some w.heap.size))) (by kernel_rfl) ?hSc (fun hHeld => ?_)
      case hSc => exact ⟨(World.rangeAt_drew _ _ _ _).2 HX.out.1, HX.out.2.1⟩
      refine wpAnyH_take (i := 0) (oi := ⟨_, _, _, _, _, _⟩) (v := ?vc0) rfl (by kernel_rfl) (by kernel_rfl) (by kernel_rfl) (fun _ _ _ h => h) (Or.inl ⟨by rfl, ?hyc0⟩) hHeld ?_
      case hyc0 => (intro wS hSw; (try dsimp only at hSw); go_simp; (first | done | with_reducible rfl))
      try simp only [Act.put, List.setIfInBounds_toArray, List.set_cons_zero, List.set_cons_succ]
      refine wpAnyH_take (i := 1) (oi := ⟨_, _, _, _, _, _⟩) (v := ?vc1) rfl (by kernel_rfl) (by kernel_rfl) (by kernel_rfl) (fun _ _ _ h => h) (Or.inl ⟨by rfl, ?hyc1⟩) hHeld ?_
      case hyc1 => (intro wS hSw; (try dsimp only at hSw); go_simp; (first | done | with_reducible rfl))
      try simp only [Act.put, List.setIfInBounds_toArray, List.set_cons_zero, List.set_cons_succ]
      refine wpAnyH_take (i := 2) (oi := ⟨_, _, _, _, _, _⟩) (v := ?vc2) rfl (by kernel_rfl) (by kernel_rfl) (by kernel_rfl) (fun _ _ _ h => h) (Or.inl ⟨by rfl, ?hyc2⟩) hHeld ?_
      case hyc2 => (intro wS hSw; (try dsimp only at hSw); go_simp; (first | done | with_reducible rfl))
      try simp only [Act.put, List.setIfInBounds_toArray, List.set_cons_zero, List.set_cons_succ]
      refine wpAnyH_take (i := 3) (oi := ⟨_, _, _, _, _, _⟩) (v := ?vc3) rfl (by kernel_rfl) (by kernel_rfl) (by kernel_rfl) (fun _ _ _ h => h) (Or.inl ⟨by rfl, ?hyc3⟩) hHeld ?_
      case hyc3 => (intro wS hSw; (try dsimp only at hSw); go_simp; (first | done | with_reducible rfl))
      try simp only [Act.put, List.setIfInBounds_toArray, List.set_cons_zero, List.set_cons_succ]
      refine wpAnyH_take (i := 4) (oi := ⟨_, _, _, _, _, _⟩) (v := .agg (wrA i l)) rfl (by kernel_rfl) (by kernel_rfl) (by kernel_rfl) (fun _ _ _ h => h) (yields_wr (by rfl) (.tmp 7) rfl wr.heap.size rfl i l HP.out.2 (fun w h => h.1)) hHeld ?_
      try simp only [Act.put, List.setIfInBounds_toArray, List.set_cons_zero, List.set_cons_succ]
      refine wpAnyH_ready (rs := [5]) (by kernel_rfl) (by simp) ?_
      refine AllReadyH.cons (o := ⟨_, _, _, _, _, _⟩) rfl (fun K hK => ?_) AllReadyH.nil
      go_simp
      refine (put_at w.heap.size D.n i (behind D.base (D.wr.take k)) l _ HP.out.1 h1 HP.out.2 (by exact HX.out.2.2.1.kept (drew_grown wx none) (by simp))).mono ?_
      rintro e w7 ⟨rfl, hsm7, hg7⟩
      have HSM7 := Lib.hid hsm7
      have HG7 := Lib.hid ((drew_grown wx (some w.heap.size)).andThen hg7 (fun _ hj => .inr hj))
      clear hsm7 hg7
      go_wp2_with fail
      refine hK.out _ _ ?kc5 (fun hNew => ?_)
      case kc5 => (try dsimp only); exact ⟨fun j v hv => HG7.out.cell (HX.out.1 j v hv) (fun e => by have := HX.out.2.2.2.2; injection e with e; dsimp only at e; omega), HG7.out.cell HX.out.2.1 (fun e => by have := HCM.out; injection e with e; exact this e)⟩
      clear hK K hHeld
      have hHeld := hNew
      clear hNew
      try simp only [Act.put, List.setIfInBounds_toArray, List.set_cons_zero, List.set_cons_succ]
      refine wpAnyH_done (by kernel_rfl) ?_ _
      refine NoPanic.normal ?_
      go_wp2_with fail
      go_roundw
      case rel =>
        refine ⟨k + 1, by omega, by go_num, ?_, (HGR.out.andThen (HX.out.2.2.2.1.but _) (fun _ hj => .inr hj)).andThen HG7.out (fun _ hj => .inr hj)⟩
        have hk1 := HPK.out
        obtain ⟨hkl, hke⟩ := List.getElem?_eq_some_iff.1 hk1
        rw [List.take_succ_eq_append_getElem hkl, behind_snoc, hke]
        exact HSM7.out
      case measure => simp [intOf]; omega
    · have hkd : decide ((k : Int) < (kk : Int)) = false := by simp; omega
      obtain rfl : k = kk := by omega
      have c1 := cell_blk HCR.out 1
      have c2 := cell_blk HCR.out 2
      go_wp2_with fail
      refine (clone_at w.heap.size D.n (behind D.base (D.wr.take k)) wr HSMR.out).mono ?_
      rintro e w8 ⟨rfl, hsm8, hg8⟩
      have hc8 := (hg8.block c HSS.out.2 (by simp)).trans HCR.out
      have z8 := frozen_blk hc8 2
      have e8 := cell_blk hc8 2
      have HC8 := Lib.hid hc8
      have HSM8 := Lib.hid (And.intro hsm8 hg8)
      clear hc8 hsm8 hg8
      go_wp2_with fail
      go_ret
      obtain ⟨hsm8, hg8⟩ := HSM8.out
      have hgs := grown_set w8 c 2 (.map (some wr.heap.size))
      have hc9 := heap_setCell_same w8 c 2 _ _ (.map (some wr.heap.size)) HC8.out
      have hsmb := HSMR.out.kept hg8 (by simp)
      have hss := HSS.out
      have hs8 := hg8.size
      have hcs := HCS.out
      refine ⟨c, rfl, ⟨h1, by simp, w.heap.size, wr.heap.size, .slice none 0 0, none, by simpa using hc9, by show _ ≤ _; omega, Nat.le_refl _, by show _ ≤ _; omega, by omega, hsmb.kept hgs ?_, hsm8.kept hgs ?_, ⟨by simp [rows], .inl ⟨rfl, rfl⟩⟩, by simp [Value.ownBlock], rfl⟩, ?_⟩
      · exact fun x => hsmb.ne HC8.out (Option.some.inj x)
      · exact fun x => hsm8.ne HC8.out (Option.some.inj x)
      · have b1 : Off (fun b => w.heap.size ≤ b) w w3 := Off.of_grown HG3.out (by simp)
        have b2 : Off (fun b => w.heap.size ≤ b) w3 wr := grown_off HGR.out (Nat.le_refl _)
        have b3 : Off (fun b => w.heap.size ≤ b) wr w8 := Off.of_grown hg8 (by simp)
        have b4 : Off (fun b => w.heap.size ≤ b) w8 (w8.setCell ⟨c, 2, none⟩ (.map (some wr.heap.size))) := grown_off hgs (by show _ ≤ _; omega)
        exact (((b1.trans b2).trans b3).trans b4).mono (fun k hk hs => by omega)
end Go.Proofs.Ytplnkpbfnpajjaa.Sec
