/- A part of the proof of JournalKnown: SecSettle SecCut SecArgs SecStr SecBes KRefDisk KRefRead KRefSector KRefNew KRefWrite. -/
import Derived.Test.YtgdedgfohjplmaaGreatK00
import Derived.Laws.BytesArg
import Derived.Laws.AppendOwn
import Derived.Laws.BitsLemmas
import Derived.Lib.SlBytesConst
import Derived.Lib.AppendStr
set_option maxRecDepth 100000
set_option maxHeartbeats 40000000
namespace Go.Proofs.YtgdedgfohjplmaaGreat.Sec
open Go.RowKit Go.Maps
theorem cleared {w : World} {b N : Nat} {f : Nat → List UInt8} (h : SecMap w b N f) :
  ∃ w', (∀ ty, (Builtin.clear_ #[55] ty #[.map (some b)]).run Tryz.prog w = .ok (.tuple #[]) w') ∧ w'.ownsMap Tryz.prog 3 secR b 0 (.map []) ∧ w.grownBy w' (some b) := by
 obtain ⟨n, D, _, ⟨es, clock, hb, F, hs, hD⟩, _⟩ := h
 have hset := MapKept.heap_set (o' := .map #[] clock) hb
 refine ⟨{ w with heap := w.heap.setIfInBounds b (.map #[] clock) }, fun ty => ?_, ⟨#[], clock, ?_, ⟨by simp, MapKept.stamped_empty clock, by simp⟩, Nat.le_refl _, rfl⟩, ?_⟩
 ·simp [Builtin.clear_, run_underlying Tryz.underlying55, MapKept.run_getObj_map hb, MapKept.run_setObj_map _ hb, Result.andThen]
 ·exact hset.1
 ·exact ⟨rfl, rfl, rfl, by simp, fun k hk hne => by simp [Array.getElem?_setIfInBounds]; intro e; exact absurd (by rw [e]) hne⟩
theorem row_of_map {w w' : World} {B n m N : Nat} {sv : Value} {xs : List Value} {f : Nat → List UInt8} (h : w.ownsRow B 112 129 sv n xs) (hm : SecMap w m N f) (hg : w.grownBy w' (some m)) : w'.ownsRow B 112 129 sv n xs := by
 refine row_kept h hg ?_
 intro e
 obtain ⟨_, ⟨rfl, _⟩ | ⟨g, cap, cur, rfl, _, hb, _⟩⟩ := h
 ·simp [Value.ownBlock] at e
 ·simp [Value.ownBlock] at e
  subst e
  exact hm.ne hb rfl
theorem ArmedAt.of_map {w w' : World} {S : Nat → Prop} {m N : Nat} {pa : Option Addr} {k : Option Nat} {f : Nat → List UInt8} (h : ArmedAt w S pa k) (hm : SecMap w m N f) (hg : w.grownBy w' (some m)) : ArmedAt w' S pa k := by
 cases k with
 | none => exact h
 | some k =>
  obtain ⟨b, e, hB, hb, hk⟩ := h
  exact ⟨b, e, hB, (hg.block b (Array.getElem?_eq_some_iff.1 hb).1 (fun x => hm.ne hb (Option.some.inj x).symm)).trans hb, hk⟩
theorem settle_at (S : Nat → Prop) (d : Nat) (D : Dsk) (w : World) (h : DiskAt w S d D) :
  Calls Tryz.prog 50 #[.pointer (some ⟨d, 0, none⟩)] w fun e w' => e = .returned (.tuple #[]) ∧ DiskAt w' S d { D with base := D.now, wr := [] } ∧ Off S w w' := by
 obtain ⟨h1, h2, mb, mn, sv, pa, hd, hB, hmb, hmn, hne, hsb, hsn, hrow, hos, ha⟩ := h
 obtain ⟨w1, hcl, hown, hg1⟩ := cleared hsb
 have c1 : w.cell? ⟨d, 1, none⟩ = some (.map (some mb)) := cell_blk hd 1
 have hdb : d ≠ mb := fun e => hsb.ne hd e.symm
 have hdn : d ≠ mn := fun e => hsn.ne hd e.symm
 have hdlt := (Array.getElem?_eq_some_iff.1 hd).1
 have hd1 := (hg1.block d hdlt (fun e => hdb (Option.some.inj e))).trans hd
 have hsn1 := hsn.kept hg1 (fun e => hne (Option.some.inj e).symm)
 have hrow1 := row_of_map hrow hsb hg1
 have ha1 := ha.of_map hsb hg1
 have hb1 := grown_off hg1 hmb
 have HNE := Lib.hid (And.intro hdb hdn)
 have HCL := Lib.hid (And.intro hown hb1)
 have HSN1 := Lib.hid hsn1
 have HD1 := Lib.hid hd1
 have HROW1 := Lib.hid (And.intro hrow1 ha1)
 have HG1 := Lib.hid hg1
 have H1 : Hid (w1.drew.cell? ⟨d, 1, none⟩ = some (.map (some mb))) := cell_blk (w := w1.drew) hd1 1
 have H2 : Hid (w1.drew.cell? ⟨d, 2, none⟩ = some (.map (some mn))) := cell_blk (w := w1.drew) hd1 2
 clear hd hsb hsn hrow ha h2 hown hg1 hd1 hsn1 hrow1 ha1 hb1 hdb hdn
 go_enter Tryz.func50, Tryz.ntmps50
 go_wp2_with fail
 refine wp_region_noPanic ?_
 refine wp_region_held_drew (S := fun w' => w'.cell? ⟨d, 1, none⟩ = some (.map (some mb)) ∧ w'.cell? ⟨d, 2, none⟩ = some (.map (some mn))) (by kernel_rfl) ?hSa (fun hHeld => ?_)
 case hSa => exact ⟨H1.out, H2.out⟩
 refine ztk 0 rfl ?_
 refine ztk 1 rfl ?_
 refine ztk 2 rfl ?_
 refine ztk 3 rfl ?_
 refine ztk 4 rfl ?_
 refine ztk 5 rfl ?_
 refine ztk 6 rfl ?_
 refine ztk 7 rfl ?_
 refine zrd 8 rfl (fun K hK => ?_)
 go_simp
 refine (copy_at mb mn D.n D.now _ h1 (by exact HCL.out.1.kept (drew_grown w1 none) (by simp)) (by exact HSN1.out.kept (drew_grown w1 none) (by simp)) hne).mono ?_
 rintro e w3 ⟨rfl, hsb3, hg3⟩
 have HSB3 := Lib.hid hsb3
 have HG3 := Lib.hid ((drew_grown w1 (some mb)).andThen hg3 (fun _ hj => .inr hj))
 clear hsb3 hg3
 go_wp2_with fail
 refine hK.out _ _ ?q (fun hHeld => ?_)
 case q => (try dsimp only); exact ⟨cell_blk ((HG3.out.block d (Array.getElem?_eq_some_iff.1 HD1.out).1 (fun e => HNE.out.1 (Option.some.inj e))).trans HD1.out) 1, cell_blk ((HG3.out.block d (Array.getElem?_eq_some_iff.1 HD1.out).1 (fun e => HNE.out.1 (Option.some.inj e))).trans HD1.out) 2⟩
 clear hK K
 try simp only [zpt]
 refine wpAnyH_done (by kernel_rfl) ?_ _
 refine NoPanic.normal ?_
 have hd3 := (HG3.out.block d (Array.getElem?_eq_some_iff.1 HD1.out).1 (fun e => HNE.out.1 (Option.some.inj e))).trans HD1.out
 have c3 : w3.cell? ⟨d, 3, none⟩ = some sv := cell_blk hd3 3
 have z3 := frozen_blk hd3 3
 have HD3 := Lib.hid hd3
 clear hd3 hHeld
 go_wp2_with fail
 go_end0
 have hd3 := HD3.out
 have hgs := grown_set w3 d 3 (.slice none 0 0)
 have hd4 := heap_setCell_same w3 d 3 _ _ (.slice none 0 0) hd3
 have hsb3 := HSB3.out
 have hsn3 := HSN1.out.kept HG3.out (fun e => hne (Option.some.inj e).symm)
 have hmap1 : SecMap w1 mb D.n (fun _ => noughts) := ⟨0, .map [], Nat.zero_le _, HCL.out.1, fun k h => by simp [has_eq] at h, fun i _ => by simp [DataW.atKey]⟩
 have ha3 := HROW1.out.2.of_map hmap1 HG3.out
 refine ⟨rfl, ⟨h1, by simp, mb, mn, .slice none 0 0, pa, by simpa using hd4, hB, hmb, hmn, hne, hsb3.kept hgs ?_, hsn3.kept hgs ?_, ⟨by simp [rows], .inl ⟨rfl, rfl⟩⟩, by simp [Value.ownBlock], ha3.kept hd3 (by decide) hgs⟩, ?_⟩
 ·exact fun x => hsb3.ne hd3 (Option.some.inj x)
 ·exact fun x => hsn3.ne hd3 (Option.some.inj x)
 ·have hb := HCL.out.2
  exact (hb.trans (grown_off HG3.out hmb)).trans (grown_off hgs hB)
def behind (f : Nat → List UInt8) (l : List (Nat × List UInt8)) : Nat → List UInt8 := l.foldl (fun f p => upd f p.1 p.2) f
theorem behind_snoc (f : Nat → List UInt8) (l : List (Nat × List UInt8)) (p : Nat × List UInt8) : behind f (l ++ [p]) = upd (behind f l) p.1 p.2 := by simp [behind]
def Dsk.cut (D : Dsk) (k : Int) : Dsk := ⟨D.n, behind D.base (D.wr.take (max 0 (min (D.wr.length : Int) k)).toNat), behind D.base (D.wr.take (max 0 (min (D.wr.length : Int) k)).toNat), [], none, false⟩
theorem rows_at : ∀ (wr : List (Nat × List UInt8)) (j : Nat) (p : Nat × List UInt8), (∀ p ∈ wr, p.2.length = 128) → wr[j]? = some p → ∀ (t : Nat) (v : Value), (wrA p.1 p.2).toList[t]? = some v → (rows wr)[j * 129 + t]? = some v
 | [], j, p, _, h => by simp at h
 | q :: wr, 0, p, hl, h => by
  intro t v hv
  simp at h
  subst h
  have := (List.getElem?_eq_some_iff.1 hv).1
  simp only [rows, List.flatMap_cons, Nat.zero_mul, Nat.zero_add]
  rw [List.getElem?_append_left this]
  exact hv
 | q :: wr, j + 1, p, hl, h => by
  intro t v hv
  have hq : (wrA q.1 q.2).toList.length = 129 := by rw [Array.length_toList, wrA_size, hl q (by simp)]
  simp only [rows, List.flatMap_cons]
  rw [List.getElem?_append_right (by rw [hq]; omega), hq, show (j + 1) * 129 + t - 129 = j * 129 + t by omega]
  exact rows_at wr j p (fun p hp => hl p (by simp [hp])) (by simpa using h) t v hv
theorem row_range {w : World} {B n : Nat} {A : Option Addr} {cap : Nat} {wr : List (Nat × List UInt8)} (h : w.ownsRow B 112 129 (.slice A n cap) wr.length (rows wr)) (h2 : ∀ p ∈ wr, p.2.length = 128) (j : Nat) (p : Nat × List UInt8) (hj : wr[j]? = some p) :
  ∃ g, A = some ⟨g, 0, none⟩ ∧ w.rangeAt g (j * 129) (wrA p.1 p.2).toList := by
 obtain ⟨_, ⟨e, h0⟩ | ⟨g, cap', cur, e, _, hb, _, _, _, ht⟩⟩ := h
 ·have := (List.getElem?_eq_some_iff.1 hj).1
  omega
 ·injection e with eA _ _
  refine ⟨g, eA, fun t v hv => ?_⟩
  have h1 := rows_at wr j p h2 hj t v hv
  rw [← ht, List.getElem?_take] at h1
  rw [cell_blk hb]
  split at h1
  ·simpa using h1
  ·cases h1
theorem row_slice {w : World} {B n : Nat} {sv : Value} {e : TypeId} {xs : List Value} (h : w.ownsRow B e 129 sv n xs) : ∃ A cap, sv = .slice A n cap ∧ n ≤ cap ∧ (A = none → n = 0 ∧ cap = 0) ∧ ∀ a, A = some a → ∃ g, a = ⟨g, 0, none⟩ ∧ B ≤ g := by
 obtain ⟨_, ⟨rfl, rfl⟩ | ⟨g, cap, cur, rfl, hB, _, hc, _⟩⟩ := h
 ·exact ⟨none, 0, rfl, Nat.le_refl _, fun _ => ⟨rfl, rfl⟩, by simp⟩
 ·exact ⟨_, cap, rfl, hc, by simp, fun a ha => ⟨g, (Option.some.inj ha).symm, hB⟩⟩
theorem cut_at (S : Nat → Prop) (d : Nat) (D : Dsk) (q : Int) (w : World) (h : DiskAt w S d D) (hn : D.wr.length < 1000000) :
  Calls Tryz.prog 52 #[.pointer (some ⟨d, 0, none⟩), .int .i64 q] w fun e w' => ∃ c, e = .returned (.pointer (some ⟨c, 0, none⟩)) ∧ DiskAt w' (fun b => w.heap.size ≤ b) c (D.cut q) ∧ Off (fun _ => False) w w' := by
 obtain ⟨h1, h2, mb, mn, sv, pa, hd, hB, hmb, hmn, hne, hsb, hsn, hrow, hos, ha⟩ := h
 obtain ⟨A, cap, rfl, hncap, hA0, hA⟩ := row_slice hrow
 unfold Dsk.cut
 obtain ⟨kk, hkk⟩ : ∃ kk : Nat, (kk : Int) = max 0 (min (D.wr.length : Int) q) := ⟨(max 0 (min (D.wr.length : Int) q)).toNat, by omega⟩
 obtain ⟨mi, hmi⟩ : ∃ mi : Int, mi = min (D.wr.length : Int) q := ⟨_, rfl⟩
 have hmn' : ∀ (w : World) (ts : Array TypeId) (t : TypeId), (Builtin.min_ ts t #[.int .i64 (D.wr.length : Int), .int .i64 q]).run Tryz.prog w = .ok (.int .i64 mi) w := fun w ts t => by
  rw [run_min_int2]
  congr 2
  split <;> omega
 have hmx : ∀ (w : World) (ts : Array TypeId) (t : TypeId), (Builtin.max_ ts t #[.int .i64 0, .int .i64 mi]).run Tryz.prog w = .ok (.int .i64 (kk : Int)) w := fun w ts t => by
  rw [run_max_int2]
  congr 2
  split <;> omega
 have hkn : kk ≤ D.wr.length := by omega
 rw [← hkk, Int.toNat_natCast]
 have hdlt := (Array.getElem?_eq_some_iff.1 hd).1
 have HC0 : Hid (w.drew.cell? ⟨d, 0, none⟩ = some (.int .i64 (D.n : Int))) := cell_blk (w := w.drew) hd 0
 have HC1 : Hid (w.drew.cell? ⟨d, 1, none⟩ = some (.map (some mb))) := cell_blk (w := w.drew) hd 1
 have HCA : Hid (∀ (w2 : World) (o : Obj), w.grownBy w2 none → ∀ j, (w2.alloc o).cell? ⟨d, j, none⟩ = #[Value.int .i64 (D.n : Int), .map (some mb), .map (some mn), .slice A D.wr.length cap, .pointer pa, .bool D.off][j]?) := fun w2 o hg j =>
  cell_blk (((hg.andThen (World.grownBy_alloc w2 o none) (fun _ hj => .inr hj)).block d hdlt (by simp)).trans hd) j
 have HSB := Lib.hid hsb
 have HD := Lib.hid hd
 have HDL := Lib.hid hdlt
 have HROW := Lib.hid hrow
 have H2 := Lib.hid h2
 have HCB : Hid (∀ w2 : World, w.grownBy w2 none → SecMap w2 w.heap.size D.n D.base → w.grownBy (w2.alloc (.cells #[.int .i64 (D.n : Int), .map (some w.heap.size), .map none, .slice none 0 0, .pointer none, .bool false] 59)) none ∧ SecMap (w2.alloc (.cells #[.int .i64 (D.n : Int), .map (some w.heap.size), .map none, .slice none 0 0, .pointer none, .bool false] 59)) w.heap.size D.n D.base ∧
   (w2.alloc (.cells #[.int .i64 (D.n : Int), .map (some w.heap.size), .map none, .slice none 0 0, .pointer none, .bool false] 59)).heap[w2.heap.size]? = some (.cells #[.int .i64 (D.n : Int), .map (some w.heap.size), .map none, .slice none 0 0, .pointer none, .bool false] 59) ∧ w.heap.size < w2.heap.size ∧ (w2.alloc (.cells #[.int .i64 (D.n : Int), .map (some w.heap.size), .map none, .slice none 0 0, .pointer none, .bool false] 59)).heap.size = w2.heap.size + 1) := fun w2 hg hs =>
  ⟨hg.andThen (World.grownBy_alloc w2 _ none) (fun _ hj => .inr hj), hs.kept (World.grownBy_alloc w2 _ none) (by simp), (MapKept.heap_alloc w2 _).1, hs.lt, World.size_alloc ..⟩
 clear hd hsb hsn hrow ha hos h2 hkk hmi hdlt
 go_enter Tryz.func52, Tryz.ntmps52
 go_wp2_with fail
 refine wp_region_noPanic ?_
 refine wp_region_held_drew (S := fun w' => w'.cell? ⟨d, 0, none⟩ = some (.int .i64 (D.n : Int)) ∧ w'.cell? ⟨d, 1, none⟩ = some (.map (some mb))) (by kernel_rfl) ?hSa (fun hHeld => ?_)
 case hSa => exact ⟨HC0.out, HC1.out⟩
 refine ztk 0 rfl ?_
 refine ztk 1 rfl ?_
 refine ztk 2 rfl ?_
 refine ztk 3 rfl ?_
 refine ztk 4 rfl ?_
 refine ztk 5 rfl ?_
 refine ztk 6 rfl ?_
 refine ztk 7 rfl ?_
 refine zrd 8 rfl (fun K hK => ?_)
 go_simp
 refine (clone_at mb D.n D.base _ (by exact HSB.out.kept (drew_grown w none) (by simp))).mono ?_
 rintro e w2 ⟨rfl, hsm2, hg2⟩
 have hm0 : w.drew.heap.size = w.heap.size := rfl
 rw [hm0] at hsm2 ⊢
 have HSM2 := Lib.hid hsm2
 have HG2 := Lib.hid ((drew_grown w none).andThen hg2 (fun _ hj => .inr hj))
 clear hsm2 hg2 hm0
 go_wp2_with fail
 refine hK.out _ _ ?q (fun hHeld => ?_)
 case q => (try dsimp only); exact ⟨cell_blk ((HG2.out.block d HDL.out (by simp)).trans HD.out) 0, cell_blk ((HG2.out.block d HDL.out (by simp)).trans HD.out) 1⟩
 clear hK K
 try simp only [zpt]
 refine ztk 9 rfl ?_
 refine zrd 10 rfl (fun K hK => ?_)
 go_simp
 refine hK.out _ _ ?q (fun hHeld => ?_)
 case q => (try dsimp only); exact ⟨HCA.out w2 _ HG2.out 0, HCA.out w2 _ HG2.out 1⟩
 clear hK K
 try simp only [zpt]
 refine ztk 11 rfl ?_
 refine wpAnyH_done (by kernel_rfl) ?_ _
 refine NoPanic.normal ?_
 have hf := HCB.out w2 HG2.out HSM2.out
 generalize w2.alloc (.cells #[.int .i64 (D.n : Int), .map (some w.heap.size), .map none, .slice none 0 0, .pointer none, .bool false] 59) = w3 at hf ⊢
 clear HCB HCA HSM2 HG2 hHeld
 generalize w2.heap.size = c at hf ⊢
 obtain ⟨hg3, hsm3, hc3, hcm, hs3⟩ := hf
 have hd3 := (hg3.block d HDL.out (by simp)).trans HD.out
 have hrow3 := row_grown HROW.out hg3
 have HC3 : Hid (w3.drew.cell? ⟨d, 3, none⟩ = some (.slice A D.wr.length cap)) := cell_blk (w := w3.drew) hd3 3
 have HG3 := Lib.hid hg3
 have HSM3 := Lib.hid hsm3
 have HCC3 := Lib.hid hc3
 have HCM : Hid (c ≠ w.heap.size) := by show c ≠ _; omega
 have HCS := Lib.hid (And.intro hcm hs3)
 have HROW3 := Lib.hid hrow3
 have k0 : (0 : Int) ≤ (kk : Int) := by omega
 have k1 : (kk : Int) ≤ (cap : Int) := by omega
 clear hg3 hsm3 hc3 hcm hs3 hd3 hrow3 HC0 HC1
 go_wp2_with fail
 refine wp_region_noPanic ?_
 refine wp_region_held_drew (S := fun w' => w'.cell? ⟨d, 3, none⟩ = some (.slice A D.wr.length cap)) (by kernel_rfl) ?hSb (fun hHeld => ?_)
 case hSb => exact HC3.out
 refine ztk 0 rfl ?_
 refine ztk 1 rfl ?_
 refine ztk 2 rfl ?_
 refine ztk 3 rfl ?_
 refine ztk 4 rfl ?_
 refine ztk 5 rfl ?_
 refine ztk 6 rfl ?_
 refine ztk 7 rfl ?_
 refine ztk 8 rfl ?_
 refine ztk 9 rfl ?_
 refine ztk 10 rfl ?_
 refine ztk 11 rfl ?_
 refine ztk 12 rfl ?_
 refine ztk 13 rfl ?_
 refine ztk 14 rfl ?_
 refine wpAnyH_done (by kernel_rfl) ?_ _
 refine NoPanic.normal ?_
 go_wp2_with fail
 go_loopw [35] (fun j wr => ∃ k : Nat, k ≤ kk ∧ j = .int .i64 (k : Int) ∧ SecMap wr w.heap.size D.n (behind D.base (D.wr.take k)) ∧ w3.grownBy wr (some w.heap.size)) (fun j _ => kk - (intOf j).toNat)
 case atStart => exact ⟨0, Nat.zero_le _, rfl, HSM3.out.kept (drew_grown w3 none) (by simp), drew_grown w3 _⟩
 case round =>
  obtain ⟨k, hk, rfl, hsmr, hgr⟩ := hrel
  have hszr := hgr.size
  have hclt := (Array.getElem?_eq_some_iff.1 HCC3.out).1
  have hcr := (hgr.block c hclt (fun e => HCM.out (Option.some.inj e))).trans HCC3.out
  have HCR := Lib.hid hcr
  have HGR := Lib.hid hgr
  have HSMR := Lib.hid hsmr
  have HSS : Hid (w.heap.size < wr.heap.size ∧ c < wr.heap.size) := by have := HCS.out; show _ ∧ _; omega
  clear hcr hgr hsmr hszr hclt HC3
  by_cases hlt : k < kk
  ·have hkd : decide ((k : Int) < (kk : Int)) = true := by simp; omega
   obtain ⟨⟨i, l⟩, hp⟩ : ∃ p, D.wr[k]? = some p := ⟨D.wr[k]'(by omega), List.getElem?_eq_getElem _⟩
   have hpm := H2.out (i, l) (List.mem_of_getElem? hp)
   obtain ⟨g, rfl, hrg⟩ := row_range (row_of_map HROW3.out HSM3.out HGR.out) (fun p hp => (H2.out p hp).2) k (i, l) hp
   have HP := Lib.hid hpm
   have HRG := Lib.hid hrg
   have HPK := Lib.hid hp
   have ht := there_new wr (wrA 0 noughts) 112 129 (by rw [wrA_size, noughts_length]; omega)
   have hgx := grown_new wr (.cells (wrA 0 noughts) 112) (wrA i l).toList 0
   have hrx : ((wr.alloc (.cells (wrA 0 noughts) 112)).setCells wr.heap.size 0 (wrA i l).toList).rangeAt wr.heap.size 0 (wrA i l).toList := World.rangeAt_setCells_same _ _ _ _ (by
    have hl := hpm.2
    simpa [wrA_size, hl] using ht)
   have HT := Lib.hid ht
   have HX0 := Lib.hid (And.intro hrx (And.intro ((hgx.block c HSS.out.2 (by simp)).trans HCR.out) (And.intro (HSMR.out.kept hgx (by simp)) (And.intro hgx HSS.out.1))))
   have hzw := zero_wr
   have k2 : (0 : Int) ≤ (k : Int) := by omega
   have k3 : (k : Int) < (kk : Int) := by omega
   clear hpm hrg hp ht hgx hrx
   go_wp2_with (first
    | (with_reducible show Go.wpList _ _ _ ((⟨_, .store _ _ _, _, _, _, _⟩ : Oper) :: _) _ _; refine wpList_store_wr rfl _ _ rfl wr.heap.size i l HP.out.2 rfl rfl HT.out ?_; go_frame)
    | (with_reducible show Go.wpList _ _ _ ((⟨_, .load _ _, _, _, _, _⟩ : Oper) :: _) _ _; refine wpList_load_wr rfl _ rfl g (k * 129) i l HP.out.2 rfl HRG.out ?_; go_frame)
    | go_in)
   have hx0 := HX0.out
   generalize (wr.alloc (.cells (wrA 0 noughts) 112)).setCells wr.heap.size 0 (wrA i l).toList = wx at hx0 ⊢
   have HX := Lib.hid (And.intro hx0.1 (And.intro (cell_blk hx0.2.1 1) (And.intro hx0.2.2.1 (And.intro hx0.2.2.2.1 hx0.2.2.2.2))))
   clear hx0 HX0 HT hzw
   go_wp2_with fail
   refine wp_region_noPanic ?_
   refine wp_region_held_drew (S := fun w' => w'.rangeAt wr.heap.size 0 (wrA i l).toList ∧ w'.cell? ⟨c, 1, none⟩ = some (.map (some w.heap.size))) (by kernel_rfl) ?hSc (fun hHeld => ?_)
   case hSc => exact ⟨(World.rangeAt_drew _ _ _ _).2 HX.out.1, HX.out.2.1⟩
   refine ztk 0 rfl ?_
   refine ztk 1 rfl ?_
   refine ztk 2 rfl ?_
   refine ztk 3 rfl ?_
   refine wpAnyH_take (i := 4) (oi := ⟨_, _, _, _, _, _⟩) (v := .agg (wrA i l)) rfl (by kernel_rfl) (by kernel_rfl) (by kernel_rfl) (fun _ _ _ h => h) (yields_wr (by rfl) (.tmp 7) rfl wr.heap.size rfl i l HP.out.2 (fun w h => h.1)) hHeld ?_
   try simp only [zpt]
   refine zrd 5 rfl (fun K hK => ?_)
   go_simp
   refine (put_at w.heap.size D.n i (behind D.base (D.wr.take k)) l _ HP.out.1 h1 HP.out.2 (by exact HX.out.2.2.1.kept (drew_grown wx none) (by simp))).mono ?_
   rintro e w7 ⟨rfl, hsm7, hg7⟩
   have HSM7 := Lib.hid hsm7
   have HG7 := Lib.hid ((drew_grown wx (some w.heap.size)).andThen hg7 (fun _ hj => .inr hj))
   clear hsm7 hg7
   go_wp2_with fail
   refine hK.out _ _ ?q (fun hHeld => ?_)
   case q => (try dsimp only); exact ⟨fun j v hv => HG7.out.cell (HX.out.1 j v hv) (fun e => by have := HX.out.2.2.2.2; injection e with e; dsimp only at e; omega), HG7.out.cell HX.out.2.1 (fun e => by have := HCM.out; injection e with e; exact this e)⟩
   clear hK K
   try simp only [zpt]
   refine wpAnyH_done (by kernel_rfl) ?_ _
   refine NoPanic.normal ?_
   go_wp2_with fail
   go_roundw
   case rel =>
    refine ⟨k + 1, by omega, by go_num, ?_, (HGR.out.andThen (HX.out.2.2.2.1.but _) (fun _ hj => .inr hj)).andThen HG7.out (fun _ hj => .inr hj)⟩
    have hk1 := HPK.out
    obtain ⟨hkl, hke⟩ := List.getElem?_eq_some_iff.1 hk1
    rw [List.take_succ_eq_append_getElem hkl, behind_snoc, hke]
    exact HSM7.out
   case measure => simp [intOf]; omega
  ·have hkd : decide ((k : Int) < (kk : Int)) = false := by simp; omega
   obtain rfl : k = kk := by omega
   have c1 := cell_blk HCR.out 1
   have c2 := cell_blk HCR.out 2
   go_wp2_with fail
   refine (clone_at w.heap.size D.n (behind D.base (D.wr.take k)) wr HSMR.out).mono ?_
   rintro e w8 ⟨rfl, hsm8, hg8⟩
   have hc8 := (hg8.block c HSS.out.2 (by simp)).trans HCR.out
   have z8 := frozen_blk hc8 2
   have e8 := cell_blk hc8 2
   have HC8 := Lib.hid hc8
   have HSM8 := Lib.hid (And.intro hsm8 hg8)
   clear hc8 hsm8 hg8
   go_wp2_with fail
   go_ret
   obtain ⟨hsm8, hg8⟩ := HSM8.out
   have hgs := grown_set w8 c 2 (.map (some wr.heap.size))
   have hc9 := heap_setCell_same w8 c 2 _ _ (.map (some wr.heap.size)) HC8.out
   have hsmb := HSMR.out.kept hg8 (by simp)
   have hss := HSS.out
   have hs8 := hg8.size
   have hcs := HCS.out
   refine ⟨c, rfl, ⟨h1, by simp, w.heap.size, wr.heap.size, .slice none 0 0, none, by simpa using hc9, by show _ ≤ _; omega, Nat.le_refl _, by show _ ≤ _; omega, by omega, hsmb.kept hgs ?_, hsm8.kept hgs ?_, ⟨by simp [rows], .inl ⟨rfl, rfl⟩⟩, by simp [Value.ownBlock], rfl⟩, ?_⟩
   ·exact fun x => hsmb.ne HC8.out (Option.some.inj x)
   ·exact fun x => hsm8.ne HC8.out (Option.some.inj x)
   ·have b1 : Off (fun b => w.heap.size ≤ b) w w3 := Off.of_grown HG3.out (by simp)
    have b2 : Off (fun b => w.heap.size ≤ b) w3 wr := grown_off HGR.out (Nat.le_refl _)
    have b3 : Off (fun b => w.heap.size ≤ b) wr w8 := Off.of_grown hg8 (by simp)
    have b4 : Off (fun b => w.heap.size ≤ b) w8 (w8.setCell ⟨c, 2, none⟩ (.map (some wr.heap.size))) := grown_off hgs (by show _ ≤ _; omega)
    exact (((b1.trans b2).trans b3).trans b4).mono (fun k hk hs => by omega)
theorem DiskAt.mono {w : World} {S T : Nat → Prop} {d : Nat} {D : Dsk} (h : DiskAt w S d D) (hs : ∀ k, k < w.heap.size → S k → T k) : DiskAt w T d D := by
 obtain ⟨h1, h2, mb, mn, sv, pa, hd, hB, hmb, hmn, hne, hsb, hsn, hrow, hos, ha⟩ := h
 refine ⟨h1, h2, mb, mn, sv, pa, hd, hs d (Array.getElem?_eq_some_iff.1 hd).1 hB, hs mb hsb.lt hmb, hs mn hsn.lt hmn, hne, hsb, hsn, hrow, fun g hg => hs g (hrow.lt g hg).2 (hos g hg), ?_⟩
 cases hk : D.armed with
 | none => rw [hk] at ha; exact ha
 | some k =>
  rw [hk] at ha
  obtain ⟨b, e, hB, hb, hk⟩ := ha
  exact ⟨b, e, hs b (Array.getElem?_eq_some_iff.1 hb).1 hB, hb, hk⟩
theorem DiskAt.off {w w' : World} {S T : Nat → Prop} {d : Nat} {D : Dsk} (h : DiskAt w S d D) (ho : Off T w w') (hST : ∀ k, k < w.heap.size → S k → ¬ T k) : DiskAt w' S d D := by
 obtain ⟨h1, h2, mb, mn, sv, pa, hd, hB, hmb, hmn, hne, hsb, hsn, hrow, hos, ha⟩ := h
 have kp : ∀ k, k < w.heap.size → S k → w'.heap[k]? = w.heap[k]? := fun k hk hs => ho.block k hk (hST k hk hs)
 have hmap : ∀ m f, SecMap w m D.n f → S m → SecMap w' m D.n f := fun m f hm hs => by
  obtain ⟨n, E, hn, ⟨es, clock, hb, F⟩, hk⟩ := id hm
  exact ⟨n, E, hn, ⟨es, clock, (kp m hm.lt hs).trans hb, F⟩, hk⟩
 refine ⟨h1, h2, mb, mn, sv, pa, (kp d (Array.getElem?_eq_some_iff.1 hd).1 hB).trans hd, hB, hmb, hmn, hne, hmap _ _ hsb hmb, hmap _ _ hsn hmn, ?_, hos, ?_⟩
 ·refine ⟨hrow.1, ?_⟩
  rcases hrow.2 with h2 | ⟨g, cap, cur, e, h3, hb, h4⟩
  ·exact .inl h2
  ·exact .inr ⟨g, cap, cur, e, h3, (kp g (Array.getElem?_eq_some_iff.1 hb).1 (hos g (by rw [e]; rfl))).trans hb, h4⟩
 ·cases hk : D.armed with
  | none => rw [hk] at ha; exact ha
  | some k =>
   rw [hk] at ha
   obtain ⟨b, e, hB, hb, hk⟩ := ha
   exact ⟨b, e, hB, (kp b (Array.getElem?_eq_some_iff.1 hb).1 hB).trans hb, hk⟩
structure CallV where
 k : UInt8
 i : Int
 b : List UInt8
def CallAt (w : World) (S : Nat → Prop) (g o : Nat) (c : CallV) : Prop :=
 w.cell? ⟨g, o, none⟩ = some (.int .u8 (c.k.toNat : Int)) ∧ w.cell? ⟨g, o + 1, none⟩ = some (.int .i64 c.i) ∧ ∃ A cap, w.cell? ⟨g, o + 2, none⟩ = some (.slice A c.b.length cap) ∧ RowB w S A c.b ∧ c.b.length ≤ cap ∧ cap ≤ maxLen
def CallsAt (w : World) (S : Nat → Prop) (A : Option Addr) (l : List CallV) : Prop :=
 (∀ c ∈ l, (Lit.int .i64 c.i).wf = true ∧ c.b.length ≤ maxLen) ∧ (l = [] ∨ ∃ g off, A = some ⟨g, off, none⟩ ∧ ¬ S g ∧ ∀ j c, l[j]? = some c → CallAt w S g (off + j * 3) c)
theorem cell_off {w w' : World} {S : Nat → Prop} (ho : Off S w w') {g o : Nat} {v : Value} (hg : ¬ S g) (h : w.cell? ⟨g, o, none⟩ = some v) : w'.cell? ⟨g, o, none⟩ = some v :=
 (World.cell?_of_block (a := ⟨g, o, none⟩) (ho.block g (World.block_lt_of_cell? w _ h) hg)).trans h
theorem CallsAt.off {w w' : World} {S : Nat → Prop} {A : Option Addr} {l : List CallV} (h : CallsAt w S A l) (ho : Off S w w') : CallsAt w' S A l := by
 refine ⟨h.1, ?_⟩
 rcases h.2 with e | ⟨g, off, e, hg, hc⟩
 ·exact .inl e
 ·refine .inr ⟨g, off, e, hg, fun j c hj => ?_⟩
  obtain ⟨c1, c2, B, cap, c3, hr, h1⟩ := hc j c hj
  exact ⟨cell_off ho hg c1, cell_off ho hg c2, B, cap, cell_off ho hg c3, hr.off ho, h1⟩
theorem RowB.mono {w : World} {S T : Nat → Prop} {A : Option Addr} {l : List UInt8} (h : RowB w S A l) (hs : ∀ k, k < w.heap.size → T k → S k) : RowB w T A l := by
 rcases h with e | ⟨b, off, e, hS, hr⟩
 ·exact .inl e
 ·by_cases h0 : l = []
  ·exact .inl h0
  ·refine .inr ⟨b, off, e, fun x => hS (hs b ?_ x), hr⟩
   cases l with
   | nil => exact absurd rfl h0
   | cons c r => exact World.block_lt_of_cell? w _ (hr 0 _ rfl)
theorem CallsAt.mono {w : World} {S T : Nat → Prop} {A : Option Addr} {l : List CallV} (h : CallsAt w S A l) (hs : ∀ k, k < w.heap.size → T k → S k) : CallsAt w T A l := by
 refine ⟨h.1, ?_⟩
 rcases h.2 with e | ⟨g, off, e, hg, hc⟩
 ·exact .inl e
 ·by_cases h0 : l = []
  ·exact .inl h0
  ·refine .inr ⟨g, off, e, fun x => hg (hs g ?_ x), fun j c hj => ?_⟩
   ·cases l with
    | nil => exact absurd rfl h0
    | cons c r => exact World.block_lt_of_cell? w _ (hc 0 c rfl).1
   ·obtain ⟨c1, c2, B, cap, c3, hr, h1⟩ := hc j c hj
    exact ⟨c1, c2, B, cap, c3, hr.mono hs, h1⟩
theorem CallsAt.at_ {w : World} {S : Nat → Prop} {A : Option Addr} {l : List CallV} {j : Nat} (h : CallsAt w S A l) (hj : j < l.length) : ∃ g off c, A = some ⟨g, off, none⟩ ∧ l[j]? = some c ∧ CallAt w S g (off + j * 3) c := by
 rcases h.2 with rfl | ⟨g, off, e, hg, hc⟩
 ·simp at hj
 ·exact ⟨g, off, l[j], e, List.getElem?_eq_getElem hj, hc j _ (List.getElem?_eq_getElem hj)⟩
def totalB (l : List CallV) : Nat := (l.map fun c => c.b.length).sum
def big (l : List CallV) : Bool := decide (60 < l.length ∨ 5000 < totalB l)
def bs (l : List UInt8) : ByteArray := ⟨l.toArray⟩
abbrev strV (l : List UInt8) : Value := .string (bs l)
theorem run_string (w : World) (g off : Nat) (l : List UInt8) (cap : Nat) (h : w.rangeAt g off (u8s l)) : (convert 28 9 (.slice (some ⟨g, off, none⟩) l.length cap)).run Tryz.prog w = .ok (strV l) w := by
 have := run_convert_bytes_arg (P := Tryz.prog) w 28 5 Tryz.underlying28 Tryz.underlying5 g off l.length cap (l.map fun c => (c.toNat : Int)) (by simp) (fun i hi => by
  refine h i _ ?_
  simp [u8s, hi]) 9 Tryz.underlying9
 rw [this]
 congr 2
 unfold strOfNums bs
 congr 2
 rw [List.map_map]
 conv => rhs; rw [← List.map_id l]
 refine List.map_congr_left fun c _ => ?_
 simp
theorem info_str : (Tryz.prog.info? 9).map (fun i => (i.zero, i.size, i.bytes)) = some (some (.string ByteArray.empty), 1, 16) := by kernel_rfl
def StrRow (w : World) (B : Nat) (v : Value) (xs : List Value) : Prop := w.ownsRow B 9 1 v xs.length xs
theorem wpList_append_str {ops : Array Oper} {rest : List Oper} {o : Oper} {a : Act} {w : World} {Q : Exit → Act → World → Prop} (hgd : o.guard = none) (s x : Operand) (ho : o.op = .call { callee := .builtin .append, args := #[s, x], argTypes := #[39, 39] })
  (B : Nat) (v : Value) (xs : List Value) (y : Value) (hy : y.oneCell' = true) (hs : a.eval s = v) (hown : StrRow w B v xs) (g : Nat) (hx : a.eval x = .slice (some ⟨g, 0, none⟩) 1 1) (hc : w.cell? ⟨g, 0, none⟩ = some y) (hb : xs.length < 100000) (hbase : B ≤ w.heap.size)
  (h : ∀ v' w', StrRow w' B v' (xs ++ [y]) → w.grownBy w' v.ownBlock → wpList Tryz.prog ops Q rest (a.put o.dst v') w') : wpList Tryz.prog ops Q (o :: rest) a w := by
 obtain ⟨i0, hi0, he⟩ := Option.map_eq_some_iff.1 info_str
 simp only [Prod.mk.injEq] at he
 refine wpList_append_own _ hgd s x 39 ho B 9 i0 _ 1 16 Tryz.underlying39 hi0 he.1 he.2.1 he.2.2 rfl (by decide) v xs.length _ hs hown ⟨g, 0, none⟩ 1 1 [y] hx rfl ?_ ?_ (by unfold maxLen; omega) (by omega) hbase ?_
 ·intro j z hj
  match j, hj with
  | 0, hj =>
   simp at hj
   subst hj
   simpa [Addr.add] using hc
 ·intro z hz
  simp at hz
  subst hz
  exact hy
 ·intro v' w' h1 h2 _
  refine h v' w' ?_ h2
  unfold StrRow
  rw [List.length_append]
  exact h1
def Beside (S : Nat → Prop) (n m : Nat) : Nat → Prop := fun b => (S b ∧ b < n) ∨ m ≤ b
theorem DiskAt.beside {w w2 : World} {S : Nat → Prop} {d : Nat} {D : Dsk} (h : DiskAt w S d D) (hg : w.grownBy w2 none) : DiskAt w2 (Beside S w.heap.size w2.heap.size) d D :=
 (h.mono (T := Beside S w.heap.size w2.heap.size) (fun _ hk hs => .inl ⟨hs, hk⟩)).grown hg
theorem beside_not {S : Nat → Prop} {n m b : Nat} (h1 : n ≤ b) (h2 : b < m) : ¬ Beside S n m b := by
 rintro (⟨_, h⟩ | h) <;> omega
theorem beside_new {S : Nat → Prop} {n m : Nat} : ∀ b, m ≤ b → Beside S n m b := fun _ h => .inr h
theorem Off.from {S : Nat → Prop} {w w' : World} {n : Nat} (h : Off S w w') (hS : ∀ b, S b → n ≤ b) : Off (fun b => n ≤ b) w w' := h.mono (fun b _ hs => hS b hs)
theorem range_blk {w : World} {l : List UInt8} {g : Nat} {C : Array Value} {t : TypeId} {fr : Nat × Nat} (h : w.heap[g]? = some (.cells C t fr)) (hC : C.toList = u8s l) : w.rangeAt g 0 (u8s l) := fun j v hv => by
 simp only [World.cell?, h, Nat.zero_add]
 rw [← hC] at hv
 simpa using hv
theorem range_head {w : World} {g o : Nat} {l : List UInt8} (h : w.rangeAt g o (u8s l)) (k : Nat) : w.rangeAt g o (u8s (l.take k)) := fun j v hv => h j v (by
 simp only [u8s, List.map_take] at hv ⊢
 rw [List.getElem?_take] at hv
 split at hv
 ·exact hv
 ·cases hv)
theorem DiskAt.next {w w2 : World} {S T : Nat → Prop} {d : Nat} {D : Dsk} (h : DiskAt w S d D) (ho : Off T w w2) (hST : ∀ k, k < w.heap.size → S k → ¬ T k) : DiskAt w2 (Beside S w.heap.size w2.heap.size) d D :=
 ((h.mono (T := fun b => S b ∧ b < w.heap.size) (fun _ hk hs => ⟨hs, hk⟩)).off ho (fun k hk hs => hST k hk hs.1)).mono (fun _ _ hs => .inl hs)
theorem row_off {w w' : World} {S : Nat → Prop} {B n sz : Nat} {e : TypeId} {v : Value} {xs : List Value} (h : w.ownsRow B e sz v n xs) (ho : Off S w w') (hv : ∀ g, v.ownBlock = some g → ¬ S g) : w'.ownsRow B e sz v n xs := by
 refine ⟨h.1, ?_⟩
 rcases h.2 with h2 | ⟨g, cap, cur, rfl, h3, hb, h4⟩
 ·exact .inl h2
 ·exact .inr ⟨g, cap, cur, rfl, h3, (ho.block g (Array.getElem?_eq_some_iff.1 hb).1 (hv g rfl)).trans hb, h4⟩
def tellV (f : Nat → List UInt8) (n : Nat) : List Value := (List.range n).map fun i => strV (f i)
theorem tellV_length (f : Nat → List UInt8) (n : Nat) : (tellV f n).length = n := by simp [tellV]
theorem tellV_succ (f : Nat → List UInt8) (n : Nat) : tellV f (n + 1) = tellV f n ++ [strV (f n)] := by simp [tellV, List.range_succ]
def refRows (wr : List (Nat × List UInt8)) : List Value := wr.flatMap fun p => [.int .i64 (p.1 : Int), strV p.2]
def RefAt (w : World) (S : Nat → Prop) (m : Nat) (D : Dsk) : Prop :=
 D.n ≤ 16384 ∧ D.wr.length < 1000000 ∧ ∃ sb sl inn, w.heap[m]? = some (.cells #[sb, sl, .bool D.armed.isSome, .int .i64 inn, .bool D.off] 98) ∧ S m ∧
  StrRow w 0 sb (tellV D.base D.n) ∧ (∀ g, sb.ownBlock = some g → S g) ∧ w.ownsRow 0 115 2 sl D.wr.length (refRows D.wr) ∧ (∀ g, sl.ownBlock = some g → S g) ∧ ∀ k, D.armed = some k → inn = (k : Int) ∧ (k : Int) ≤ 9223372036854775807
def Full (D : Dsk) : Prop := D.now = behind D.base D.wr
theorem row_lt {w : World} {B n sz : Nat} {e : TypeId} {v : Value} {xs : List Value} (h : w.ownsRow B e sz v n xs) : ∀ g, v.ownBlock = some g → g < w.heap.size := fun g hg => (h.lt g hg).2
theorem RefAt.mono {w : World} {S T : Nat → Prop} {m : Nat} {D : Dsk} (h : RefAt w S m D) (hs : ∀ k, k < w.heap.size → S k → T k) : RefAt w T m D := by
 obtain ⟨h1, h2, sb, sl, inn, hm, hS, hb, hbS, hl, hlS, ha⟩ := h
 exact ⟨h1, h2, sb, sl, inn, hm, hs m (Array.getElem?_eq_some_iff.1 hm).1 hS, hb, fun g hg => hs g (row_lt hb g hg) (hbS g hg), hl, fun g hg => hs g (row_lt hl g hg) (hlS g hg), ha⟩
theorem RefAt.off {w w' : World} {S T : Nat → Prop} {m : Nat} {D : Dsk} (h : RefAt w S m D) (ho : Off T w w') (hST : ∀ k, k < w.heap.size → S k → ¬ T k) : RefAt w' S m D := by
 obtain ⟨h1, h2, sb, sl, inn, hm, hS, hb, hbS, hl, hlS, ha⟩ := h
 exact ⟨h1, h2, sb, sl, inn, (ho.block m (Array.getElem?_eq_some_iff.1 hm).1 (hST m (Array.getElem?_eq_some_iff.1 hm).1 hS)).trans hm, hS, row_off hb ho (fun g hg => hST g (row_lt hb g hg) (hbS g hg)), hbS, row_off hl ho (fun g hg => hST g (row_lt hl g hg) (hlS g hg)), hlS, ha⟩
theorem RefAt.grown {w w' : World} {S : Nat → Prop} {m : Nat} {D : Dsk} (h : RefAt w S m D) (hg : w.grownBy w' none) : RefAt w' S m D := h.off (T := fun _ => False) (Off.of_grown hg (by simp)) (fun _ _ _ h => h)
theorem RefAt.lt {w : World} {S : Nat → Prop} {m : Nat} {D : Dsk} (h : RefAt w S m D) : m < w.heap.size := by
 obtain ⟨_, _, sb, sl, inn, hm, _⟩ := h
 exact (Array.getElem?_eq_some_iff.1 hm).1
theorem RefAt.next {w w2 : World} {S T : Nat → Prop} {m : Nat} {D : Dsk} (h : RefAt w S m D) (ho : Off T w w2) (hST : ∀ k, k < w.heap.size → S k → ¬ T k) : RefAt w2 (Beside S w.heap.size w2.heap.size) m D :=
 ((h.mono (T := fun b => S b ∧ b < w.heap.size) (fun _ hk hs => ⟨hs, hk⟩)).off ho (fun k hk hs => hST k hk hs.1)).mono (fun _ _ hs => .inl hs)
theorem str_slice {w : World} {B : Nat} {v : Value} {xs : List Value} (h : StrRow w B v xs) : ∃ A cap, v = .slice A xs.length cap ∧ xs.length ≤ cap ∧ ∀ (k : Nat) y, xs[k]? = some y → ∃ g, A = some ⟨g, 0, none⟩ ∧ w.cell? ⟨g, k, none⟩ = some y := by
 obtain ⟨_, ⟨rfl, e⟩ | ⟨g, cap, cur, rfl, hB, hb, hc, _, _, ht⟩⟩ := h
 ·refine ⟨none, 0, by rw [e], by omega, fun k y hk => ?_⟩
  rw [List.eq_nil_of_length_eq_zero e] at hk
  simp at hk
 ·refine ⟨_, cap, rfl, hc, fun k y hk => ⟨g, rfl, ?_⟩⟩
  have h1 : (cur.toList.take (xs.length * 1))[k]? = some y := by rw [ht]; exact hk
  rw [List.getElem?_take] at h1
  rw [cell_blk hb]
  split at h1
  ·simpa using h1
  ·cases h1
theorem refRows_at : ∀ (wr : List (Nat × List UInt8)) (j : Nat) (p : Nat × List UInt8), wr[j]? = some p → (refRows wr)[j * 2]? = some (.int .i64 (p.1 : Int)) ∧ (refRows wr)[j * 2 + 1]? = some (strV p.2)
 | [], j, p, h => by simp at h
 | q :: wr, 0, p, h => by
  simp at h
  subst h
  exact ⟨rfl, rfl⟩
 | q :: wr, j + 1, p, h => by
  have ih := refRows_at wr j p (by simpa using h)
  simp only [refRows, List.flatMap_cons]
  rw [show (j + 1) * 2 = j * 2 + 2 by omega, show j * 2 + 2 + 1 = j * 2 + 1 + 2 by omega]
  exact ⟨by simpa [refRows] using ih.1, by simpa [refRows] using ih.2⟩
theorem ref_slice {w : World} {B n : Nat} {v : Value} {wr : List (Nat × List UInt8)} (h : w.ownsRow B 115 2 v n (refRows wr)) : ∃ A cap, v = .slice A n cap ∧ n ≤ cap ∧ ∀ (k : Nat) p, k < n → wr[k]? = some p → ∃ g, A = some ⟨g, 0, none⟩ ∧ w.cell? ⟨g, k * 2, none⟩ = some (.int .i64 (p.1 : Int)) ∧ w.cell? ⟨g, k * 2 + 1, none⟩ = some (strV p.2) := by
 obtain ⟨_, ⟨rfl, e⟩ | ⟨g, cap, cur, rfl, hB, hb, hc, _, _, ht⟩⟩ := h
 ·exact ⟨none, 0, by rw [e], by omega, fun k p hk _ => by omega⟩
 ·refine ⟨_, cap, rfl, hc, fun k p hkn hk => ⟨g, rfl, ?_⟩⟩
  obtain ⟨e1, e2⟩ := refRows_at wr k p hk
  rw [← ht, List.getElem?_take] at e1 e2
  rw [cell_blk hb, cell_blk hb]
  refine ⟨?_, ?_⟩
  ·split at e1
   ·simpa using e1
   ·cases e1
  ·split at e2
   ·simpa using e2
   ·cases e2
theorem rasked_at (S : Nat → Prop) (m : Nat) (D : Dsk) (i : Int) (w : World) (h : RefAt w S m D) :
  Calls Tryz.prog 74 #[.pointer (some ⟨m, 0, none⟩), .int .i64 i] w fun e w' => e = .returned (.int .i64 (askedN D i)) ∧ w = w' := by
 obtain ⟨h1, h2, sb, sl, inn, hm, hS, hb, hbS, hl, hlS, ha⟩ := h
 obtain ⟨A, cap, rfl, _, _⟩ := str_slice hb
 rw [tellV_length] at hm
 have c0 : w.cell? ⟨m, 0, none⟩ = some (.slice A D.n cap) := cell_blk hm 0
 have c4 : w.cell? ⟨m, 4, none⟩ = some (.bool D.off) := cell_blk hm 4
 clear hm hb hl
 unfold askedN
 cases hoff : D.off
 ·rw [hoff] at c4
  by_cases h0 : i < 0
  ·have d0 : decide (i < 0) = true := by simp [h0]
   rw [if_neg (by simp), if_pos (.inl h0)]
   clear h0
   go_enter Tryz.func74, Tryz.ntmps74
   go_wp2
   go_ret
   exact ⟨rfl, rfl⟩
  ·have d0 : decide (i < 0) = false := by simp; omega
   by_cases h2 : (D.n : Int) ≤ i
   ·have d1 : decide ((D.n : Int) ≤ i) = true := by simp [h2]
    rw [if_neg (by simp), if_pos (.inr h2)]
    clear h0 h2
    go_enter Tryz.func74, Tryz.ntmps74
    go_wp2
    go_ret
    exact ⟨rfl, rfl⟩
   ·have d1 : decide ((D.n : Int) ≤ i) = false := by simp; omega
    rw [if_neg (by simp), if_neg (by omega)]
    clear h0 h2
    go_enter Tryz.func74, Tryz.ntmps74
    go_wp2
    go_ret
    exact ⟨rfl, rfl⟩
 ·rw [hoff] at c4
  rw [if_pos rfl]
  go_enter Tryz.func74, Tryz.ntmps74
  go_wp2
  go_ret
  exact ⟨rfl, rfl⟩
theorem ref_set {w : World} {m j : Nat} {C C' : Array Value} {v : Value} (hm : w.heap[m]? = some (.cells C 98)) (hC : C.setIfInBounds j v = C') : (w.setCell ⟨m, j, none⟩ v).heap[m]? = some (.cells C' 98) ∧ w.grownBy (w.setCell ⟨m, j, none⟩ v) (some m) := by
 have := heap_setCell_same w m j _ _ v hm
 rw [hC] at this
 exact ⟨this, grown_set w m j v⟩
theorem ref_kept {w w' : World} {m n sz : Nat} {v : Value} {xs : List Value} {e : TypeId} {C : Array Value} (h : w.ownsRow 0 e sz v n xs) (hm : w.heap[m]? = some (.cells C 98)) (hne : 98 ≠ e) (hg : w.grownBy w' (some m)) : w'.ownsRow 0 e sz v n xs := by
 refine row_off h (S := fun b => b = m) (Off.of_grown hg (fun k e => by cases e; rfl)) ?_
 intro g hg' e'
 subst e'
 obtain ⟨_, ⟨rfl, _⟩ | ⟨g', cap, cur, rfl, _, hb, _⟩⟩ := h
 ·cases hg'
 ·cases hg'
  rw [hm] at hb
  injection hb with hb
  injection hb with _ hb
  exact hne hb
theorem rcrash_at (S : Nat → Prop) (m : Nat) (D : Dsk) (w : World) (h : RefAt w S m D) :
  Calls Tryz.prog 43 #[.pointer (some ⟨m, 0, none⟩)] w fun e w' => e = .returned (.tuple #[]) ∧ RefAt w' S m { D with armed := none, off := true } ∧ Off S w w' := by
 obtain ⟨h1, h2, sb, sl, inn, hm, hS, hb, hbS, hl, hlS, ha⟩ := h
 have c2 := cell_blk hm 2
 have c4 := cell_blk hm 4
 have z2 := frozen_blk hm 2
 have z4 := frozen_blk hm 4
 have HM := Lib.hid hm
 clear hm
 go_enter Tryz.func43, Tryz.ntmps43
 go_wp2
 go_end0
 obtain ⟨hm1, hg1⟩ := ref_set (j := 4) (v := .bool true) HM.out rfl
 obtain ⟨hm2, hg2⟩ := ref_set (j := 2) (v := .bool false) hm1 rfl
 have hg := grown_trans hg1 hg2
 exact ⟨rfl, ⟨h1, h2, sb, sl, inn, hm2, hS, ref_kept hb HM.out (by decide) hg, hbS, ref_kept hl HM.out (by decide) hg, hlS, by simp⟩, grown_off hg hS⟩
theorem ron_at (S : Nat → Prop) (m : Nat) (D : Dsk) (w : World) (h : RefAt w S m D) :
  Calls Tryz.prog 45 #[.pointer (some ⟨m, 0, none⟩)] w fun e w' => e = .returned (.tuple #[]) ∧ RefAt w' S m { D with armed := none, off := false } ∧ Off S w w' := by
 obtain ⟨h1, h2, sb, sl, inn, hm, hS, hb, hbS, hl, hlS, ha⟩ := h
 have c2 := cell_blk hm 2
 have c4 := cell_blk hm 4
 have z2 := frozen_blk hm 2
 have z4 := frozen_blk hm 4
 have HM := Lib.hid hm
 clear hm
 go_enter Tryz.func45, Tryz.ntmps45
 go_wp2
 go_end0
 obtain ⟨hm1, hg1⟩ := ref_set (j := 4) (v := .bool false) HM.out rfl
 obtain ⟨hm2, hg2⟩ := ref_set (j := 2) (v := .bool false) hm1 rfl
 have hg := grown_trans hg1 hg2
 exact ⟨rfl, ⟨h1, h2, sb, sl, inn, hm2, hS, ref_kept hb HM.out (by decide) hg, hbS, ref_kept hl HM.out (by decide) hg, hlS, by simp⟩, grown_off hg hS⟩
theorem rfail_at (S : Nat → Prop) (m : Nat) (D : Dsk) (i : Int) (hi : i ≤ 9223372036854775807) (w : World) (h : RefAt w S m D) :
  Calls Tryz.prog 42 #[.pointer (some ⟨m, 0, none⟩), .int .i64 i] w fun e w' => e = .returned (.tuple #[]) ∧ RefAt w' S m { D with armed := if 0 ≤ i then some i.toNat else none } ∧ Off S w w' := by
 obtain ⟨h1, h2, sb, sl, inn, hm, hS, hb, hbS, hl, hlS, ha⟩ := h
 have c2 := cell_blk hm 2
 have c3 := cell_blk hm 3
 have z2 := frozen_blk hm 2
 have z3 := frozen_blk hm 3
 have HM := Lib.hid hm
 clear hm
 by_cases h0 : 0 ≤ i
 ·have d0 : decide (0 ≤ i) = true := by simp; omega
  have H0 := Lib.hid h0
  rw [if_pos h0]
  clear h0
  go_enter Tryz.func42, Tryz.ntmps42
  go_wp2
  go_end0
  obtain ⟨hm1, hg1⟩ := ref_set (j := 2) (v := .bool true) HM.out rfl
  obtain ⟨hm2, hg2⟩ := ref_set (j := 3) (v := .int .i64 i) hm1 rfl
  have hg := grown_trans hg1 hg2
  exact ⟨rfl, ⟨h1, h2, sb, sl, i, hm2, hS, ref_kept hb HM.out (by decide) hg, hbS, ref_kept hl HM.out (by decide) hg, hlS, fun k hk => by have := H0.out; injection hk with hk; omega⟩, grown_off hg hS⟩
 ·have d0 : decide (0 ≤ i) = false := by simp; omega
  have H0 := Lib.hid h0
  rw [if_neg h0]
  clear h0
  go_enter Tryz.func42, Tryz.ntmps42
  go_wp2
  go_end0
  obtain ⟨hm1, hg1⟩ := ref_set (j := 2) (v := .bool false) HM.out rfl
  obtain ⟨hm2, hg2⟩ := ref_set (j := 3) (v := .int .i64 i) hm1 rfl
  have hg := grown_trans hg1 hg2
  exact ⟨rfl, ⟨h1, h2, sb, sl, i, hm2, hS, ref_kept hb HM.out (by decide) hg, hbS, ref_kept hl HM.out (by decide) hg, hlS, fun k hk => by have := H0.out; cases hk⟩, grown_off hg hS⟩
theorem rat_at (S : Nat → Prop) (m i q : Nat) (D : Dsk) (w : World) (h : RefAt w S m D) (hi : i < D.n) (hq : q ≤ D.wr.length) :
  Calls Tryz.prog 95 #[.pointer (some ⟨m, 0, none⟩), .int .i64 (i : Int), .int .i64 (q : Int)] w fun e w' => e = .returned (strV (behind D.base (D.wr.take q) i)) ∧ w = w' := by
 obtain ⟨h1, h2, sb, sl, inn, hm, hS, hb, hbS, hl, hlS, ha⟩ := h
 obtain ⟨A, cap, rfl, hcap, hA⟩ := str_slice hb
 rw [tellV_length] at hm hcap
 obtain ⟨gb, rfl, cb⟩ := hA i (strV (D.base i)) (by simp [tellV, hi])
 obtain ⟨L, capl, rfl, hlcap, hL⟩ := ref_slice hl
 have c0 : w.cell? ⟨m, 0, none⟩ = some (.slice (some ⟨gb, 0, none⟩) D.n cap) := cell_blk hm 0
 have c1 : w.cell? ⟨m, 1, none⟩ = some (.slice L D.wr.length capl) := cell_blk hm 1
 have HL := Lib.hid hL
 have i0 : (0 : Int) ≤ (i : Int) := by omega
 have i1 : (i : Int) < (D.n : Int) := by omega
 obtain ⟨r, hr⟩ : ∃ r, r = behind D.base (D.wr.take q) i := ⟨_, rfl⟩
 rw [← hr]
 have HR := Lib.hid hr
 clear hm hb hl hL hr hi hA
 have hq1 : IntKind.i64.wrap ((q : Int) - 1) = (q : Int) - 1 := by rw [IntKind.wrap_i64]; omega
 go_enter Tryz.func95, Tryz.ntmps95
 go_wp2
 go_loopw [7] (fun iv wr => ∃ j : Nat, j ≤ q ∧ iv = .int .i64 ((j : Int) - 1) ∧ behind D.base (D.wr.take q) i = behind D.base (D.wr.take j) i ∧ wr = w) (fun iv _ => (intOf iv + 1).toNat)
 case atStart => exact ⟨q, Nat.le_refl _, by first | rfl | go_num | simp, rfl, rfl⟩
 case round =>
  obtain ⟨j, hj, rfl, he, rfl⟩ := hrel
  have HE := Lib.hid he
  clear he
  cases j with
  | zero =>
   have hd : decide ((0 : Int) ≤ ((0 : Nat) : Int) - 1) = false := by decide
   have HV : Hid (r = D.base i) := HR.out.trans HE.out
   go_wp2
   go_ret
   exact ⟨by rw [HV.out]; rfl, rfl⟩
  | succ j =>
   have hcast : ((j + 1 : Nat) : Int) - 1 = (j : Int) := by omega
   rw [hcast]
   have hd : decide ((0 : Int) ≤ (j : Int)) = true := by simp
   have j0 : (0 : Int) ≤ (j : Int) := by omega
   have j1 : (j : Int) < (D.wr.length : Int) := by omega
   have hjl : j < D.wr.length := by omega
   obtain ⟨gl, rfl, cl0, cl1⟩ := HL.out j (D.wr[j]) hjl (List.getElem?_eq_getElem hjl)
   obtain ⟨p, hp⟩ : ∃ p, p = D.wr[j] := ⟨_, rfl⟩
   rw [← hp] at cl0 cl1
   have HP := Lib.hid hp
   have hstep : behind D.base (D.wr.take (j + 1)) i = if i = p.1 then p.2 else behind D.base (D.wr.take j) i := by
    rw [List.take_succ_eq_append_getElem hjl, behind_snoc, ← hp]
    rfl
   by_cases hpi : i = p.1
   ·have hpe : (p.1 : Int) = (i : Int) := by omega
    rw [hpe] at cl0
    have HV : Hid (r = p.2) := by
     show r = p.2
     rw [HR.out, HE.out, hstep, if_pos hpi]
    clear hstep hpi hp hcast hpe
    go_wp2
    go_ret
    exact ⟨by rw [HV.out]; rfl, rfl⟩
   ·have hd2 : decide ((p.1 : Int) = (i : Int)) = false := by simp; omega
    have hd3 : ((p.1 : Int) == (i : Int)) = false := by simp; omega
    have hne : p.1 ≠ i := fun e => hpi e.symm
    have HST : Hid (behind D.base (D.wr.take (j + 1)) i = behind D.base (D.wr.take j) i) := by
     show _ = _
     rw [hstep, if_neg hpi]
    have hw : IntKind.i64.wrap ((j : Int) - 1) = (j : Int) - 1 := by rw [IntKind.wrap_i64]; omega
    clear hstep hp hcast
    go_wp2
    go_roundw
    case rel => exact ⟨j, by omega, by first | rfl | go_num | simp [hw], HE.out.trans HST.out, by first | rfl | trivial⟩
    case measure => first | (simp [intOf]; done) | (simp [intOf]; omega)
theorem rread_refused (S : Nat → Prop) (m : Nat) (i x : Int) (D : Dsk) (w : World) (h : RefAt w S m D) (hx : askedN D i = x) (hx0 : x = 20 ∨ x = 2) :
  Calls Tryz.prog 69 #[.pointer (some ⟨m, 0, none⟩), .int .i64 i] w fun e w' => e = .returned (.tuple #[.string ⟨#[]⟩, .int .i64 x]) ∧ w = w' := by
 have hask := rasked_at S m D i w h
 rw [hx] at hask
 have HA := Lib.hid hask
 clear hask h hx
 rcases hx0 with rfl | rfl <;>
 ·go_enter Tryz.func69, Tryz.ntmps69
  go_wp2_with fail
  refine HA.out.mono ?_
  rintro e w' ⟨rfl, rfl⟩
  go_wp2_with fail
  go_ret2
  exact ⟨rfl, rfl⟩
theorem rread_told (S : Nat → Prop) (m i : Nat) (D : Dsk) (w : World) (h : RefAt w S m D) (hi : i < D.n) (ho : D.off = false) (hf : Full D) :
  Calls Tryz.prog 69 #[.pointer (some ⟨m, 0, none⟩), .int .i64 (i : Int)] w fun e w' => e = .returned (.tuple #[strV (D.now i), .int .i64 0]) ∧ w = w' := by
 have hask := rasked_at S m D (i : Int) w h
 rw [show askedN D (i : Int) = 0 by unfold askedN; rw [if_neg (by simp [ho]), if_neg (by omega)]] at hask
 have hat := rat_at S m i D.wr.length D w h hi (Nat.le_refl _)
 rw [List.take_length, ← hf] at hat
 obtain ⟨h1, h2, sb, sl, inn, hm, hS, hb, hbS, hl, hlS, ha⟩ := h
 obtain ⟨L, capl, rfl, hlcap, hL⟩ := ref_slice hl
 have c1 : w.cell? ⟨m, 1, none⟩ = some (.slice L D.wr.length capl) := cell_blk hm 1
 have HA := Lib.hid hask
 have HT := Lib.hid hat
 clear hask hat hm hb hl hL hf
 go_enter Tryz.func69, Tryz.ntmps69
 go_wp2_with fail
 refine HA.out.mono ?_
 rintro e w' ⟨rfl, rfl⟩
 go_wp2_with fail
 refine HT.out.mono ?_
 rintro e w' ⟨rfl, rfl⟩
 go_wp2_with fail
 go_ret2
 exact ⟨rfl, rfl⟩
def BRow (w : World) (B : Nat) (v : Value) (l : List UInt8) : Prop := w.ownsRow B 5 1 v l.length (u8s l)
def lenOf : Value → Nat
 | .slice _ n _ => n
 | _ => 0
theorem strCells_bs (l : List UInt8) : Lib.strCells (bs l) = u8s l := by simp [Lib.strCells, bs, u8s]
theorem bs_size (l : List UInt8) : (bs l).size = l.length := by simp [bs, ByteArray.size]
theorem brow_slice {w : World} {B : Nat} {v : Value} {l : List UInt8} (h : BRow w B v l) : ∃ A cap, v = .slice A l.length cap ∧ (l = [] ∨ ∃ g, A = some ⟨g, 0, none⟩ ∧ B ≤ g ∧ g < w.heap.size ∧ w.rangeAt g 0 (u8s l)) := by
 obtain ⟨_, ⟨rfl, e⟩ | ⟨g, cap, cur, rfl, hB, hb, hc, _, _, ht⟩⟩ := h
 ·exact ⟨none, 0, by rw [e], .inl (List.eq_nil_of_length_eq_zero e)⟩
 ·refine ⟨_, cap, rfl, .inr ⟨g, rfl, hB, (Array.getElem?_eq_some_iff.1 hb).1, fun j u hj => ?_⟩⟩
  rw [← ht, List.getElem?_take] at hj
  rw [cell_blk hb, Nat.zero_add]
  split at hj
  ·simpa using hj
  ·cases hj
theorem wpList_append_u8 {ops : Array Oper} {rest : List Oper} {o : Oper} {a : Act} {w : World} {Q : Exit → Act → World → Prop} (hgd : o.guard = none) (s x : Operand) (ho : o.op = .call { callee := .builtin .append, args := #[s, x], argTypes := #[28, 28] })
  (B : Nat) (v : Value) (l : List UInt8) (y : UInt8) (hs : a.eval s = v) (hown : BRow w B v l) (g : Nat) (hx : a.eval x = .slice (some ⟨g, 0, none⟩) 1 1) (hc : w.cell? ⟨g, 0, none⟩ = some (.int .u8 (y.toNat : Int))) (hb : l.length < 100000) (hbase : B ≤ w.heap.size)
  (h : ∀ v' w', BRow w' B v' (l ++ [y]) → w.grownBy w' v.ownBlock → wpList Tryz.prog ops Q rest (a.put o.dst v') w') : wpList Tryz.prog ops Q (o :: rest) a w := by
 obtain ⟨i0, hi0, he⟩ := Option.map_eq_some_iff.1 info_u8
 simp only [Prod.mk.injEq] at he
 refine wpList_append_own _ hgd s x 28 ho B 5 i0 _ 1 1 Tryz.underlying28 hi0 he.1 he.2.1 he.2.2 rfl (by decide) v l.length _ hs hown ⟨g, 0, none⟩ 1 1 [.int .u8 (y.toNat : Int)] hx rfl ?_ ?_ (by unfold maxLen; omega) (by omega) hbase ?_
 ·intro j z hj
  match j, hj with
  | 0, hj =>
   simp at hj
   subst hj
   simpa [Addr.add] using hc
 ·intro z hz
  simp at hz
  subst hz
  rfl
 ·intro v' w' h1 h2 _
  refine h v' w' ?_ h2
  unfold BRow u8s
  rw [List.length_append, List.map_append]
  exact h1
theorem wpList_append_s {ops : Array Oper} {rest : List Oper} {o : Oper} {a : Act} {w : World} {Q : Exit → Act → World → Prop} (hgd : o.guard = none) (s x : Operand) (ho : o.op = .call { callee := .builtin .append, args := #[s, x], argTypes := #[28, 9] })
  (B : Nat) (l : List UInt8) (hs : a.eval s = .slice none 0 0) (hx : a.eval x = strV l) (hb : l.length < 100000) (hbase : B ≤ w.heap.size)
  (h : ∀ v' w', BRow w' B v' l → w.grownBy w' none → wpList Tryz.prog ops Q rest (a.put o.dst v') w') : wpList Tryz.prog ops Q (o :: rest) a w := by
 obtain ⟨i0, hi0, he⟩ := Option.map_eq_some_iff.1 info_u8
 simp only [Prod.mk.injEq] at he
 refine Lib.wpList_append_own_string _ hgd s x 28 9 ho B 5 i0 Tryz.underlying28 Tryz.underlying9 hi0 he.1 he.2.1 he.2.2 (.slice none 0 0) 0 [] hs (World.ownsRow_nil _ _ _ _) (bs l) hx (by rw [bs_size]; unfold maxLen; omega) (by rw [bs_size]; omega) hbase ?_
 intro v' w' h1 h2 _
 rw [strCells_bs, bs_size, Nat.zero_add, List.nil_append] at h1
 exact h v' w' h1 h2
theorem rsector_at (l : List UInt8) (hl : l.length ≤ 128) (w : World) :
  Calls Tryz.prog 65 #[strV l] w fun e w' => e = .returned (strV (pad l)) ∧ Off (fun _ => False) w w' := by
 have HL := Lib.hid hl
 have HLT : Hid (l.length < 100000) := by show _ < _; omega
 clear hl
 go_enter Tryz.func65, Tryz.ntmps65
 go_wp2_with (first
  | (at_builtin; refine wpList_append_s rfl (.tmp 4) (.tmp 5) rfl w.heap.size l rfl rfl HLT.out (Nat.le_refl _) ?_; intro v0 w0 hrow0 hg0; go_frame)
  | go_in)
 go_loopw [3] (fun lv wr => ∃ t : Nat, l.length + t ≤ 128 ∧ BRow wr w.heap.size lv (l ++ List.replicate t 0) ∧ Off (fun b => w.heap.size ≤ b) w wr) (fun lv _ => 128 - lenOf lv)
 case atStart => exact ⟨0, by have := HL.out; omega, by simpa using hrow0, Off.of_grown hg0 (by simp)⟩
 case round =>
  obtain ⟨t, ht, hrow, hoff⟩ := hrel
  obtain ⟨A, cap, hu, hA⟩ := brow_slice hrow
  have hlen : (l ++ List.replicate t (0 : UInt8)).length = l.length + t := by simp
  rw [hlen] at hu
  subst hu
  have HROW := Lib.hid hrow
  have HOFF := Lib.hid hoff
  have HA := Lib.hid hA
  clear hrow hoff hA hrow0 hg0
  by_cases hlt : l.length + t < 128
  ·have hd : decide (((l.length + t : Nat) : Int) < 128) = true := by simp; omega
   have hd2 : decide ((l.length : Int) + (t : Int) < 128) = true := by simp; omega
   have HR2 : Hid (BRow (wr.alloc (.cells #[.int .u8 0] 5)) w.heap.size (.slice A (l.length + t) cap) (l ++ List.replicate t 0)) := HROW.out.alloc _
   have HCN := Lib.hid (cell_new wr #[.int .u8 0] 5 0)
   have HLEN : Hid ((l ++ List.replicate t (0 : UInt8)).length < 100000) := by show _ < _; omega
   have HBB : Hid (w.heap.size ≤ (wr.alloc (.cells #[.int .u8 0] 5)).heap.size) := by have := HOFF.out.size; show _ ≤ _; rw [World.size_alloc]; omega
   clear hlen
   go_wp2_with (first
    | (at_builtin; refine wpList_append_u8 rfl (.tmp 10) (.tmp 11) rfl w.heap.size _ (l ++ List.replicate t 0) 0 rfl HR2.out wr.heap.size rfl HCN.out HLEN.out HBB.out ?_; intro v1 w1 hrow1 hg1; go_frame)
    | go_in)
   have hown : ∀ g, (Value.slice A (l.length + t) cap).ownBlock = some g → w.heap.size ≤ g := fun g hg => (HROW.out.lt g hg).1
   have hrow2 : BRow w1 w.heap.size v1 (l ++ List.replicate (t + 1) 0) := by
    rw [List.replicate_succ', ← List.append_assoc]
    exact hrow1
   obtain ⟨A1, cap1, hu1, _⟩ := brow_slice hrow2
   subst hu1
   go_roundw
   case rel => exact ⟨t + 1, by omega, hrow2, (HOFF.out.trans (Off.of_grown (World.grownBy_alloc wr _ none) (by simp))).trans (Off.of_grown hg1 hown)⟩
   case measure => simp [lenOf]; omega
  ·have hd : decide (((l.length + t : Nat) : Int) < 128) = false := by simp; omega
   have hd2 : decide ((l.length : Int) + (t : Int) < 128) = false := by simp; omega
   have ht2 : t = 128 - l.length := by omega
   have hpad : l ++ List.replicate t 0 = pad l := by rw [ht2]; rfl
   have HA2 := HA.out
   rw [hpad] at HA2
   have hpl := pad_length l HL.out
   rcases HA2 with e | ⟨g, rfl, _, _, hr⟩
   ·rw [e] at hpl; simp at hpl
   ·have hcv := run_string wr g 0 (pad l) cap hr
    rw [hpl] at hcv
    have h128 : l.length + t = 128 := by omega
    rw [h128]
    clear hpad HA hpl hd hd2 ht2 h128 hlt ht hlen HROW hr
    go_wp2
    go_ret
    exact ⟨rfl, HOFF.out.mono (fun k hk h => by omega)⟩
theorem row_base {w : World} {B n sz : Nat} {e : TypeId} {v : Value} {xs : List Value} (h : w.ownsRow B e sz v n xs) : w.ownsRow 0 e sz v n xs := by
 refine ⟨h.1, ?_⟩
 rcases h.2 with h2 | ⟨g, cap, cur, e, h3, h4⟩
 ·exact .inl h2
 ·exact .inr ⟨g, cap, cur, e, Nat.zero_le _, h4⟩
theorem row_blk {w : World} {B n sz g : Nat} {e : TypeId} {v : Value} {xs : List Value} (h : w.ownsRow B e sz v n xs) (hg : v.ownBlock = some g) : ∃ cur, w.heap[g]? = some (.cells cur e) := by
 obtain ⟨_, ⟨rfl, _⟩ | ⟨g', cap, cur, rfl, _, hb, _⟩⟩ := h
 ·cases hg
 ·cases hg
  exact ⟨cur, hb⟩
theorem rows_apart {w : World} {B1 B2 n1 n2 s1 s2 g : Nat} {e1 e2 : TypeId} {v1 v2 : Value} {xs ys : List Value} (h1 : w.ownsRow B1 e1 s1 v1 n1 xs) (h2 : w.ownsRow B2 e2 s2 v2 n2 ys) (hne : e1 ≠ e2) (hg1 : v1.ownBlock = some g) (hg2 : v2.ownBlock = some g) : False := by
 obtain ⟨c1, hc1⟩ := row_blk h1 hg1
 obtain ⟨c2, hc2⟩ := row_blk h2 hg2
 rw [hc1] at hc2
 injection hc2 with hc2
 injection hc2 with _ hc2
 exact hne hc2
theorem row_shape' {w : World} {B n sz : Nat} {e : TypeId} {v : Value} {xs : List Value} (h : w.ownsRow B e sz v n xs) : ∃ A nn cap, v = .slice A nn cap := by
 obtain ⟨_, ⟨rfl, _⟩ | ⟨g, cap, cur, rfl, _⟩⟩ := h
 ·exact ⟨_, _, _, rfl⟩
 ·exact ⟨_, _, _, rfl⟩
theorem fld_push {w w4 w5 : World} {m j B B2 n n2 sz : Nat} {C : Array Value} {e : TypeId} {v v2 : Value} {xs ys : List Value} (hm : w.heap[m]? = some (.cells C 98)) (hrow : w.ownsRow B e sz v n xs) (hne : 98 ≠ e)
  (hg4 : w.grownBy w4 none) (hown : w5.ownsRow B2 e sz v2 n2 ys) (hg5 : w4.grownBy w5 v.ownBlock) :
  w5.heap[m]? = some (.cells C 98) ∧ (w5.setCell ⟨m, j, none⟩ v2).heap[m]? = some (.cells (C.setIfInBounds j v2) 98) ∧ (w5.setCell ⟨m, j, none⟩ v2).ownsRow B2 e sz v2 n2 ys ∧
  ∀ S : Nat → Prop, S m → (∀ g, v.ownBlock = some g → S g) → Off S w (w5.setCell ⟨m, j, none⟩ v2) := by
 have hmlt := (Array.getElem?_eq_some_iff.1 hm).1
 have hm4 := (hg4.block m hmlt (by simp)).trans hm
 have hvm : some m ≠ v.ownBlock := by
  intro e'
  obtain ⟨cur, hc⟩ := row_blk hrow e'.symm
  rw [hm] at hc
  injection hc with hc
  injection hc with _ hc
  exact hne hc
 have hm5 := (hg5.block m (by have := hg4.size; omega) hvm).trans hm4
 have hg6 := grown_set w5 m j v2
 refine ⟨hm5, heap_setCell_same w5 m j _ _ v2 hm5, ?_, fun S hS hv => ((Off.of_grown hg4 (by simp)).trans (Off.of_grown hg5 hv)).trans (grown_off hg6 hS)⟩
 refine row_off hown (S := fun b => b = m) (Off.of_grown hg6 (fun k e => by cases e; rfl)) ?_
 rintro g hg rfl
 obtain ⟨cur, hc⟩ := row_blk hown hg
 rw [hm5] at hc
 injection hc with hc
 injection hc with _ hc
 exact hne hc
theorem rnew_at (i : Int) (w : World) :
  Calls Tryz.prog 37 #[.int .i64 i] w fun e w' => ∃ m, e = .returned (.pointer (some ⟨m, 0, none⟩)) ∧ RefAt w' (fun b => w.heap.size ≤ b) m (freshDisk (max 0 (min 16384 i)).toNat) ∧ Off (fun _ => False) w w' := by
 obtain ⟨n, hn⟩ : ∃ n : Nat, (n : Int) = max 0 (min 16384 i) := ⟨(max 0 (min 16384 i)).toNat, by omega⟩
 rw [← hn, Int.toNat_natCast]
 have hn2 : n ≤ 16384 := by omega
 have HN := Lib.hid hn
 have hb0 := (MapKept.heap_alloc w (.cells #[.slice none 0 0, .slice none 0 0, .bool false, .int .i64 0, .bool false] 98)).1
 have hga := World.grownBy_alloc w (.cells #[.slice none 0 0, .slice none 0 0, .bool false, .int .i64 0, .bool false] 98) none
 have hsa : (w.alloc (.cells #[.slice none 0 0, .slice none 0 0, .bool false, .int .i64 0, .bool false] 98)).heap.size = w.heap.size + 1 := World.size_alloc ..
 have HB0 := Lib.hid (And.intro hb0 (And.intro hga hsa))
 have HSEC := Lib.hid (fun w => rsector_at [] (by simp) w)
 clear hn hb0 hga hsa
 go_enter Tryz.func37, Tryz.ntmps37
 go_wp2_with fail
 refine (HSEC.out _).mono ?_
 rintro e w2 ⟨rfl, ho2⟩
 obtain ⟨hb0, hga, hsa⟩ := HB0.out
 have hm2 := (ho2.none.block w.heap.size (by omega) (by simp)).trans hb0
 have hz : pad [] = noughts := rfl
 rw [hz]
 have HM2 := Lib.hid hm2
 have HO2 := Lib.hid ((Off.of_grown (S := fun b => w.heap.size ≤ b) hga (by simp)).trans (ho2.mono (fun _ _ h => h.elim)))
 have HS2 : Hid (w.heap.size < w2.heap.size) := by have := ho2.size; show _ < _; omega
 obtain ⟨m, hmq⟩ : ∃ m, m = w.heap.size := ⟨_, rfl⟩
 have HMQ := Lib.hid hmq
 rw [← hmq] at HM2 HS2 ⊢
 clear hb0 hga hsa hm2 ho2 HSEC hz hmq HB0
 go_wp2_with fail
 go_loopw [5] (fun iv wr => ∃ (k : Nat) (sb : Value), k ≤ n ∧ iv = .int .i64 (k : Int) ∧ wr.heap[m]? = some (.cells #[sb, .slice none 0 0, .bool false, .int .i64 0, .bool false] 98) ∧ StrRow wr w.heap.size sb (tellV (fun _ => noughts) k) ∧ Off (fun b => w.heap.size ≤ b) w wr) (fun iv _ => n - (intOf iv).toNat)
 case atStart => exact ⟨0, _, Nat.zero_le _, rfl, HM2.out, World.ownsRow_nil _ _ _ _, HO2.out⟩
 case round =>
  obtain ⟨k, sb, hk, rfl, hm, hrow, hoff⟩ := hrel
  have HM := Lib.hid hm
  have HROW := Lib.hid hrow
  have HOFF := Lib.hid hoff
  have hnn := HN.out
  by_cases hlt : k < n
  ·have hd1 : decide ((k : Int) < i) = true := by simp; omega
   have hd2 : decide ((k : Int) < 16384) = true := by simp; omega
   obtain ⟨A, cap, hsb, _⟩ := str_slice hrow
   have c0 : wr.cell? ⟨m, 0, none⟩ = some sb := cell_blk hm 0
   have hgA := World.grownBy_alloc wr (.cells #[strV noughts] 9) none
   have HR2 : Hid (StrRow (wr.alloc (.cells #[strV noughts] 9)) w.heap.size sb (tellV (fun _ => noughts) k)) := hrow.alloc _
   have HCN := Lib.hid (cell_new wr #[strV noughts] 9 0)
   have HLEN : Hid ((tellV (fun _ => noughts) k).length < 100000) := by show _ < _; rw [tellV_length]; omega
   have HBB : Hid (w.heap.size ≤ (wr.alloc (.cells #[strV noughts] 9)).heap.size) := by have := HOFF.out.size; show _ ≤ _; rw [World.size_alloc]; omega
   have HPUSH : Hid (∀ v2 w5, StrRow w5 w.heap.size v2 (tellV (fun _ => noughts) k ++ [strV noughts]) → (wr.alloc (.cells #[strV noughts] 9)).grownBy w5 sb.ownBlock → _) := fun v2 w5 h5 hg5 => fld_push (j := 0) (v2 := v2) HM.out HROW.out (by decide) hgA h5 hg5
   have HSB := Lib.hid hsb
   clear hm hrow hoff hgA hsb hnn
   go_wp2_with (first
    | (at_builtin; refine wpList_append_str rfl (.tmp 22) (.tmp 24) rfl w.heap.size sb _ (strV noughts) rfl rfl HR2.out wr.heap.size rfl HCN.out HLEN.out HBB.out ?_; intro v2 w5 h5 hg5; (obtain ⟨A2, nn2, cap2, hv2⟩ := row_shape' h5); subst hv2; (have hp := HPUSH.out _ w5 h5 hg5); (have z0 := frozen_blk hp.1 0); (have e0 := cell_blk hp.1 0); (have HP := Lib.hid hp); clear hp; go_frame)
    | go_in)
   obtain ⟨_, hm6, hr6, ho6⟩ := HP.out
   go_roundw
   case rel =>
    refine ⟨k + 1, _, hlt, by go_num, hm6, by rw [tellV_succ]; exact hr6, HOFF.out.trans (ho6 _ (by have := HMQ.out; show w.heap.size ≤ m; omega) (fun g hg => (HROW.out.lt g hg).1))⟩
   case measure => simp [intOf]; omega
  ·obtain rfl : k = n := by omega
   have HEND : Hid (RefAt wr (fun b => w.heap.size ≤ b) m (freshDisk k)) :=
    ⟨hn2, by show (0 : Nat) < _; omega, sb, .slice none 0 0, 0, hm, by have := HMQ.out; show w.heap.size ≤ m; omega, row_base hrow, fun g hg => (hrow.lt g hg).1, World.ownsRow_nil _ _ _ _, by simp [Value.ownBlock], fun k hk => by cases hk⟩
   clear hm hrow hoff
   by_cases hki : (k : Int) < i
   ·have hd1 : decide ((k : Int) < i) = true := by simp; omega
    have hd2 : decide ((k : Int) < 16384) = false := by simp; omega
    clear hlt hki hnn
    go_wp2_with fail
    go_ret
    exact ⟨m, rfl, HEND.out, HOFF.out.mono (fun k hk h => by omega)⟩
   ·have hd1 : decide ((k : Int) < i) = false := by simp; omega
    clear hlt hki hnn
    go_wp2_with fail
    go_ret
    exact ⟨m, rfl, HEND.out, HOFF.out.mono (fun k hk h => by omega)⟩
section
variable {ops : Array Oper} {o : Oper} {a : Act} {w : World} {K : Act → World → Prop} {Q : Exit → Act → World → Prop} {E : Prop}
end
theorem info_rw : (Tryz.prog.info? 115).map (fun i => (i.zero, i.size, i.bytes)) = some (some (.agg #[.int .i64 0, .string ByteArray.empty]), 2, 24) := by kernel_rfl
section
variable {ops : Array Oper} {o : Oper} {a : Act} {w : World} {K : Act → World → Prop} {Q : Exit → Act → World → Prop} {E : Prop}
theorem step_append_ref (hg : o.guard = none) (s x : Operand) (hop : o.op = Op.call { callee := Callee.builtin Builtin.append, args := #[s, x], argTypes := #[96, 96] })
  (v : Value) (wr : List (Nat × List UInt8)) (i : Nat) (y : List UInt8) (hs : a.eval s = v) (hown : w.ownsRow 0 115 2 v wr.length (refRows wr)) (g : Nat) (hx : a.eval x = .slice (some ⟨g, 0, none⟩) 1 1) (hc : w.cell? ⟨g, 0, none⟩ = some (.int .i64 (i : Int))) (hc1 : w.cell? ⟨g, 1, none⟩ = some (strV y)) (hb : wr.length < 1000000)
  (hK : ∀ v' w', w'.ownsRow 0 115 2 v' (wr.length + 1) (refRows wr ++ [.int .i64 (i : Int), strV y]) → w.grownBy w' v.ownBlock → (v'.ownBlock = v.ownBlock ∨ v'.ownBlock = some w.heap.size) → K (a.put o.dst v') w') :
  if Region.wanted o (yielded ops a.tmps) = true then Oper.wp Tryz.prog o a w K Q else E := by
 obtain ⟨i0, hi0, he⟩ := Option.map_eq_some_iff.1 info_rw
 simp only [Prod.mk.injEq] at he
 refine step_append_own hg s x 96 115 hop i0 _ 2 24 Tryz.underlying96 hi0 he.1 he.2.1 he.2.2 rfl (by decide) 0 v wr.length _ hown hs ⟨g, 0, none⟩ 1 1 [.int .i64 (i : Int), strV y] hx rfl ?_ ?_ (by unfold maxLen; omega) (by omega) (Nat.zero_le _) hK
 ·intro j z hj
  match j, hj with
  | 0, hj =>
   simp at hj
   subst hj
   simpa [Addr.add] using hc
  | 1, hj =>
   simp at hj
   subst hj
   simpa [Addr.add] using hc1
 ·intro z hz
  simp at hz
  rcases hz with rfl | rfl <;> rfl
end
theorem ref_pushed {W0 v w5 : World} {S : Nat → Prop} {m i : Nat} {D : Dsk} {x : List UInt8} {sb sl x2 x3 x4 v2 : Value} (h : RefAt W0 S m D) (hm : W0.heap[m]? = some (.cells #[sb, sl, x2, x3, x4] 98)) (hS : ∀ b, W0.heap.size ≤ b → S b) (hn : D.wr.length + 1 < 1000000)
  (hg : W0.grownBy v none) (h5 : w5.ownsRow 0 115 2 v2 (D.wr.length + 1) (refRows D.wr ++ [.int .i64 (i : Int), strV x])) (hg5 : (v.alloc (.cells #[.int .i64 (i : Int), strV x] 115)).grownBy w5 sl.ownBlock) (hob : v2.ownBlock = sl.ownBlock ∨ v2.ownBlock = some (v.alloc (.cells #[.int .i64 (i : Int), strV x] 115)).heap.size) :
  w5.heap[m]? = some (.cells #[sb, sl, x2, x3, x4] 98) ∧ RefAt (w5.setCell ⟨m, 1, none⟩ v2) S m (D.push i x) ∧ Off S W0 (w5.setCell ⟨m, 1, none⟩ v2) := by
 obtain ⟨h1, h2, sb', sl', inn, hm', hSm, hb, hbS, hl, hlS, ha⟩ := h
 rw [hm] at hm'
 simp only [Option.some.injEq, Obj.cells.injEq, Array.mk.injEq, List.cons.injEq, and_true] at hm'
 obtain ⟨rfl, rfl, rfl, rfl, rfl⟩ := hm'
 have hg4 := hg.andThen (World.grownBy_alloc v (.cells #[.int .i64 (i : Int), strV x] 115) none) (fun _ hj => .inr hj)
 obtain ⟨p1, p2, p3, p4⟩ := fld_push (j := 1) (v2 := v2) hm hl (by decide) hg4 h5 hg5
 have ho := p4 S hSm hlS
 refine ⟨p1, ⟨h1, by show (D.wr ++ [(i, x)]).length < _; rw [List.length_append]; simp; omega, sb, v2, inn, p2, hSm, ?_, hbS, ?_, ?_, ha⟩, ho⟩
 ·refine row_off hb (p4 (fun b => b = m ∨ sl.ownBlock = some b) (.inl rfl) (fun g hg => .inr hg)) ?_
  rintro g hg (rfl | hg')
  ·obtain ⟨cur, hc⟩ := row_blk hb hg
   rw [hm] at hc
   injection hc with hc
   injection hc with _ hc
   exact absurd hc (by decide)
  ·exact rows_apart hb hl (by decide) hg hg'
 ·show World.ownsRow _ 0 _ 2 v2 (D.wr ++ [(i, x)]).length (refRows (D.wr ++ [(i, x)]))
  rw [List.length_append]
  simpa [refRows] using p3
 ·intro g hg'
  rcases hob with e | e
  ·exact hlS g (e ▸ hg')
  ·rw [e] at hg'
   cases hg'
   exact hS _ hg4.size
theorem ref_rows {W0 : World} {S : Nat → Prop} {m : Nat} {D : Dsk} {sb sl x2 x3 x4 : Value} (h : RefAt W0 S m D) (hm : W0.heap[m]? = some (.cells #[sb, sl, x2, x3, x4] 98)) (v : World) (hg : W0.grownBy v none) (o : Obj) :
  (v.alloc o).ownsRow 0 115 2 sl D.wr.length (refRows D.wr) ∧ v.cell? ⟨m, 1, none⟩ = some sl ∧ (v.alloc o).cell? ⟨m, 1, none⟩ = some sl := by
 obtain ⟨h1, h2, sb', sl', inn, hm', hSm, hb, hbS, hl, hlS, ha⟩ := h
 rw [hm] at hm'
 simp only [Option.some.injEq, Obj.cells.injEq, Array.mk.injEq, List.cons.injEq, and_true] at hm'
 obtain ⟨rfl, rfl, rfl, rfl, rfl⟩ := hm'
 have hg4 := hg.andThen (World.grownBy_alloc v o none) (fun _ hj => .inr hj)
 have hlt := (Array.getElem?_eq_some_iff.1 hm).1
 exact ⟨row_off (S := fun _ => False) hl (Off.of_grown hg4 (by simp)) (fun _ _ h => h), cell_blk ((hg.block m hlt (by simp)).trans hm) 1, cell_blk ((hg4.block m hlt (by simp)).trans hm) 1⟩
theorem rwrite_plain (S : Nat → Prop) (m i : Nat) (D : Dsk) (l : List UInt8) (w : World) (h : RefAt w S m D) (hS : ∀ b, w.heap.size ≤ b → S b) (hi : i < D.n) (ho : D.off = false) (hl : l.length ≤ 128) (harm : D.armed = none) (hn : D.wr.length + 1 < 1000000) :
  Calls Tryz.prog 47 #[.pointer (some ⟨m, 0, none⟩), .int .i64 (i : Int), strV l] w fun e w' => e = .returned (.int .i64 0) ∧ RefAt w' S m (D.push i (pad l)) ∧ Off S w w' := by
 have hask := rasked_at S m D (i : Int) w h
 rw [show askedN D (i : Int) = 0 by unfold askedN; rw [if_neg (by simp [ho]), if_neg (by omega)]] at hask
 have HA := Lib.hid hask
 have HR := Lib.hid h
 obtain ⟨_, _, sb, sl, inn, hm, _, _, _, hrl, _⟩ := h
 rw [harm] at hm
 have c1 : w.drew.cell? ⟨m, 1, none⟩ = some sl := cell_blk (w := w.drew) hm 1
 have c2 : w.cell? ⟨m, 2, none⟩ = some (.bool false) := cell_blk hm 2
 obtain ⟨A1, n1, cap1, hsl⟩ := row_shape' hrl
 have hbs := bs_size l
 have d128 : decide ((128 : Int) < (l.length : Int)) = false := by simp; omega
 obtain ⟨W0, hW0⟩ : ∃ W0, W0 = w := ⟨_, rfl⟩
 have HSEC := Lib.hid (rsector_at l hl w.drew)
 have HROWS : Hid (∀ v, w.grownBy v none → _) := fun v hg => ref_rows HR.out hm v hg (.cells #[.int .i64 (i : Int), strV (pad l)] 115)
 have HPUSH : Hid (∀ v v2 w5, w.grownBy v none → _ → _ → _ → _) := fun v v2 w5 hg h5 hg5 hob => ref_pushed (v := v) (v2 := v2) (w5 := w5) (x := pad l) (i := i) HR.out hm hS hn hg h5 hg5 hob
 have HLEN : Hid (D.wr.length < 1000000) := by show _ < _; omega
 have HW0 := Lib.hid (Off.refl S w)
 subst hW0
 clear hask hm hrl hl
 subst hsl
 go_enter Tryz.func47, Tryz.ntmps47
 go_wp2_with fail
 refine HA.out.mono ?_
 rintro e w' ⟨rfl, rfl⟩
 go_wp2_with fail
 refine wp_region_noPanic ?_
 refine wp_region_held_drew (S := fun _ => True) (by kernel_rfl) ?hSb (fun hHeld => ?_)
 case hSb => trivial
 refine ztk 0 rfl ?_
 refine ztk 1 rfl ?_
 refine ztk 2 rfl ?_
 refine ztk 3 rfl ?_
 refine ztk 5 rfl ?_
 refine ztk 6 rfl ?_
 refine zrd2 4 7 rfl rfl (fun K hK => ?_) (fun K hK => ?_)
 ·go_simp
  refine hK.out _ _ ?q (fun hHeld => ?_)
  case q => (try dsimp only); all_goals trivial
  clear hK K
  try simp only [zpt]
  refine zrd 7 rfl (fun K hK => ?_)
  go_simp
  refine HSEC.out.mono ?_
  rintro e v ⟨rfl, hov⟩
  have HOV : Hid (W0.grownBy v none) := (drew_grown W0 none).andThen hov.none (fun _ hj => .inr hj)
  have hsl : (v.alloc (.cells #[.int .i64 (i : Int), strV (pad l)] 115)).ownsRow 0 115 2 (.slice A1 n1 cap1) D.wr.length (refRows D.wr) := (HROWS.out v HOV.out).1
  have c1v : v.cell? ⟨m, 1, none⟩ = some (.slice A1 n1 cap1) := (HROWS.out v HOV.out).2.1
  have c1z : (v.alloc (.cells #[.int .i64 (i : Int), strV (pad l)] 115)).cell? ⟨m, 1, none⟩ = some (.slice A1 n1 cap1) := (HROWS.out v HOV.out).2.2
  have HSL := Lib.hid hsl
  clear hov hsl
  go_wp2_with fail
  refine hK.out _ _ ?q (fun hHeld => ?_)
  case q => (try dsimp only); all_goals trivial
  clear hK K
  try simp only [zpt]
  refine ztk 8 rfl ?_
  refine zrd 9 rfl (fun K hK => ?_)
  go_simp
  refine hK.out _ _ ?q (fun hHeld => ?_)
  case q => (try dsimp only); all_goals trivial
  clear hK K
  try simp only [zpt]
  refine zrd 10 rfl (fun K hK => ?_)
  refine step_append_ref rfl (.tmp 46) (.tmp 51) rfl (.slice A1 n1 cap1) D.wr i (pad l) rfl HSL.out v.heap.size rfl (by exact cell_new v #[.int .i64 (i : Int), strV (pad l)] 115 0) (by exact cell_new v #[.int .i64 (i : Int), strV (pad l)] 115 1) HLEN.out ?_
  intro v2 w5 h5 hg5 hob5
  obtain ⟨A2, nn2, cap2, rfl⟩ := row_shape' h5
  have hp := HPUSH.out v _ w5 HOV.out h5 hg5 hob5
  have z0 := frozen_blk hp.1 1
  have e0 := cell_blk hp.1 1
  have HP := Lib.hid hp
  clear hp h5 hg5 hob5
  refine hK.out _ _ ?q (fun hHeld => ?_)
  case q => (try dsimp only); all_goals trivial
  clear hK K
  try simp only [zpt]
  refine ztk 11 rfl ?_
  refine ztk 12 rfl ?_
  refine zrd 13 rfl (fun K hK => ?_)
  go_simp
  refine hK.out _ _ ?q (fun hHeld => ?_)
  case q => (try dsimp only); all_goals trivial
  clear hK K
  try simp only [zpt]
  refine wpAnyH_done (by kernel_rfl) ?_ _
  refine NoPanic.normal ?_
  have hp := HP.out
  clear hHeld HP z0 e0
  go_wp2_with fail
  go_ret
  exact ⟨rfl, hp.2.1, HW0.out.trans hp.2.2⟩
 ·go_simp
  refine HSEC.out.mono ?_
  rintro e v ⟨rfl, hov⟩
  have HOV : Hid (W0.grownBy v none) := (drew_grown W0 none).andThen hov.none (fun _ hj => .inr hj)
  have hsl : (v.alloc (.cells #[.int .i64 (i : Int), strV (pad l)] 115)).ownsRow 0 115 2 (.slice A1 n1 cap1) D.wr.length (refRows D.wr) := (HROWS.out v HOV.out).1
  have c1v : v.cell? ⟨m, 1, none⟩ = some (.slice A1 n1 cap1) := (HROWS.out v HOV.out).2.1
  have c1z : (v.alloc (.cells #[.int .i64 (i : Int), strV (pad l)] 115)).cell? ⟨m, 1, none⟩ = some (.slice A1 n1 cap1) := (HROWS.out v HOV.out).2.2
  have HSL := Lib.hid hsl
  clear hov hsl
  go_wp2_with fail
  refine hK.out _ _ ?q (fun hHeld => ?_)
  case q => (try dsimp only); all_goals trivial
  clear hK K
  try simp only [zpt]
  refine ztk 8 rfl ?_
  refine zrd2 4 9 rfl rfl (fun K hK => ?_) (fun K hK => ?_)
  go_simp
  refine hK.out _ _ ?q (fun hHeld => ?_)
  case q => (try dsimp only); all_goals trivial
  clear hK K
  try simp only [zpt]
  refine zrd 9 rfl (fun K hK => ?_)
  rotate_left
  go_simp
  refine hK.out _ _ ?q (fun hHeld => ?_)
  case q => (try dsimp only); all_goals trivial
  clear hK K
  try simp only [zpt]
  refine zrd 4 rfl (fun K hK => ?_)
  rotate_left
  all_goals
   go_simp
   refine hK.out _ _ ?q (fun hHeld => ?_)
   case q => (try dsimp only); all_goals trivial
   clear hK K
   try simp only [zpt]
   refine zrd 10 rfl (fun K hK => ?_)
   refine step_append_ref rfl (.tmp 46) (.tmp 51) rfl (.slice A1 n1 cap1) D.wr i (pad l) rfl HSL.out v.heap.size rfl (by exact cell_new v #[.int .i64 (i : Int), strV (pad l)] 115 0) (by exact cell_new v #[.int .i64 (i : Int), strV (pad l)] 115 1) HLEN.out ?_
   intro v2 w5 h5 hg5 hob5
   obtain ⟨A2, nn2, cap2, rfl⟩ := row_shape' h5
   have hp := HPUSH.out v _ w5 HOV.out h5 hg5 hob5
   have z0 := frozen_blk hp.1 1
   have e0 := cell_blk hp.1 1
   have HP := Lib.hid hp
   clear hp h5 hg5 hob5
   refine hK.out _ _ ?q (fun hHeld => ?_)
   case q => (try dsimp only); all_goals trivial
   clear hK K
   try simp only [zpt]
   refine ztk 11 rfl ?_
   refine ztk 12 rfl ?_
   refine zrd 13 rfl (fun K hK => ?_)
   go_simp
   refine hK.out _ _ ?q (fun hHeld => ?_)
   case q => (try dsimp only); all_goals trivial
   clear hK K
   try simp only [zpt]
   refine wpAnyH_done (by kernel_rfl) ?_ _
   refine NoPanic.normal ?_
   have hp := HP.out
   clear hHeld HP z0 e0
   go_wp2_with fail
   go_ret
   exact ⟨rfl, hp.2.1, HW0.out.trans hp.2.2⟩
theorem rwrite_armed (S : Nat → Prop) (m i : Nat) (D : Dsk) (l : List UInt8) (w : World) (h : RefAt w S m D) (hS : ∀ b, w.heap.size ≤ b → S b) (hi : i < D.n) (ho : D.off = false) (hl : l.length ≤ 128) (k : Nat) (harm : D.armed = some (k + 1)) (hn : D.wr.length + 1 < 1000000) :
  Calls Tryz.prog 47 #[.pointer (some ⟨m, 0, none⟩), .int .i64 (i : Int), strV l] w fun e w' => e = .returned (.int .i64 0) ∧ RefAt w' S m (({ D with armed := some k } : Dsk).push i (pad l)) ∧ Off S w w' := by
 have hask := rasked_at S m D (i : Int) w h
 rw [show askedN D (i : Int) = 0 by unfold askedN; rw [if_neg (by simp [ho]), if_neg (by omega)]] at hask
 have HA := Lib.hid hask
 obtain ⟨h1, h2, sb, sl, inn, hm, hSm, hb, hbS, hrl, hlS, hinn⟩ := h
 obtain ⟨hin, hk63⟩ := hinn (k + 1) harm
 rw [harm, hin] at hm
 have c2 : w.cell? ⟨m, 2, none⟩ = some (.bool true) := cell_blk hm 2
 have c3 : w.cell? ⟨m, 3, none⟩ = some (.int .i64 ((k + 1 : Nat) : Int)) := cell_blk hm 3
 have z3 := frozen_blk hm 3
 have dk0 : decide (((k + 1 : Nat) : Int) = 0) = false := by simp; omega
 have hsub : wrap64 (((k + 1 : Nat) : Int) - 1) = (k : Int) := by unfold wrap64; omega
 have hbs := bs_size l
 have d128 : decide ((128 : Int) < (l.length : Int)) = false := by simp; omega
 obtain ⟨hm1, hg1⟩ := ref_set (j := 3) (v := .int .i64 (k : Int)) hm rfl
 have hr1 : RefAt (w.setCell ⟨m, 3, none⟩ (.int .i64 (k : Int))) S m { D with armed := some k } :=
  ⟨h1, h2, sb, sl, (k : Int), hm1, hSm, ref_kept hb hm (by decide) hg1, hbS, ref_kept hrl hm (by decide) hg1, hlS, fun j hj => by injection hj with hj; omega⟩
 have ho1 := grown_off hg1 hSm
 obtain ⟨A1, n1, cap1, hsl⟩ := row_shape' hrl
 have HALL := Lib.hid (And.intro hm1 (And.intro hr1 ho1))
 have HLEN : Hid (D.wr.length < 1000000) := by show _ < _; omega
 have HL := Lib.hid hl
 have HSS := Lib.hid hS
 have hk2 : k ≤ 9223372036854775806 := by omega
 clear hask hm hrl hl hb hm1 hg1 hr1 ho1 hinn hin hS hk63
 clear h1 h2 hbS hlS
 subst hsl
 go_enter Tryz.func47, Tryz.ntmps47
 go_wp2_with fail
 refine HA.out.mono ?_
 rintro e w' ⟨rfl, rfl⟩
 go_wp2_with fail
 have hall := HALL.out
 have hsz : (w.setCell ⟨m, 3, none⟩ (.int .i64 (k : Int))).heap.size = w.heap.size := by simp
 generalize w.setCell ⟨m, 3, none⟩ (.int .i64 (k : Int)) = W0 at hall hsz ⊢
 obtain ⟨hm, hr, hw⟩ := hall
 have c1 : W0.drew.cell? ⟨m, 1, none⟩ = some (.slice A1 n1 cap1) := cell_blk (w := W0.drew) hm 1
 have HSEC := Lib.hid (rsector_at l HL.out W0.drew)
 have HROWS : Hid (∀ v, W0.grownBy v none → _) := fun v hg => ref_rows hr hm v hg (.cells #[.int .i64 (i : Int), strV (pad l)] 115)
 have HPUSH : Hid (∀ v v2 w5, W0.grownBy v none → _ → _ → _ → _) := fun v v2 w5 hg h5 hg5 hob => ref_pushed (v := v) (v2 := v2) (w5 := w5) (x := pad l) (i := i) hr hm (fun b hb => HSS.out b (by omega)) hn hg h5 hg5 hob
 have HW0 := Lib.hid hw
 clear hm hr hw HALL c2 c3 z3 hsz
 refine wp_region_noPanic ?_
 refine wp_region_held_drew (S := fun _ => True) (by kernel_rfl) ?hSd (fun hHeld => ?_)
 case hSd => trivial
 refine ztk 0 rfl ?_
 refine ztk 1 rfl ?_
 refine ztk 2 rfl ?_
 refine ztk 3 rfl ?_
 refine ztk 5 rfl ?_
 refine ztk 6 rfl ?_
 refine zrd2 4 7 rfl rfl (fun K hK => ?_) (fun K hK => ?_)
 ·go_simp
  refine hK.out _ _ ?q (fun hHeld => ?_)
  case q => (try dsimp only); all_goals trivial
  clear hK K
  try simp only [zpt]
  refine zrd 7 rfl (fun K hK => ?_)
  go_simp
  refine HSEC.out.mono ?_
  rintro e v ⟨rfl, hov⟩
  have HOV : Hid (W0.grownBy v none) := (drew_grown W0 none).andThen hov.none (fun _ hj => .inr hj)
  have hsl : (v.alloc (.cells #[.int .i64 (i : Int), strV (pad l)] 115)).ownsRow 0 115 2 (.slice A1 n1 cap1) D.wr.length (refRows D.wr) := (HROWS.out v HOV.out).1
  have c1v : v.cell? ⟨m, 1, none⟩ = some (.slice A1 n1 cap1) := (HROWS.out v HOV.out).2.1
  have c1z : (v.alloc (.cells #[.int .i64 (i : Int), strV (pad l)] 115)).cell? ⟨m, 1, none⟩ = some (.slice A1 n1 cap1) := (HROWS.out v HOV.out).2.2
  have HSL := Lib.hid hsl
  clear hov hsl
  go_wp2_with fail
  refine hK.out _ _ ?q (fun hHeld => ?_)
  case q => (try dsimp only); all_goals trivial
  clear hK K
  try simp only [zpt]
  refine ztk 8 rfl ?_
  refine zrd 9 rfl (fun K hK => ?_)
  go_simp
  refine hK.out _ _ ?q (fun hHeld => ?_)
  case q => (try dsimp only); all_goals trivial
  clear hK K
  try simp only [zpt]
  refine zrd 10 rfl (fun K hK => ?_)
  refine step_append_ref rfl (.tmp 46) (.tmp 51) rfl (.slice A1 n1 cap1) D.wr i (pad l) rfl HSL.out v.heap.size rfl (by exact cell_new v #[.int .i64 (i : Int), strV (pad l)] 115 0) (by exact cell_new v #[.int .i64 (i : Int), strV (pad l)] 115 1) HLEN.out ?_
  intro v2 w5 h5 hg5 hob5
  obtain ⟨A2, nn2, cap2, rfl⟩ := row_shape' h5
  have hp := HPUSH.out v _ w5 HOV.out h5 hg5 hob5
  have z0 := frozen_blk hp.1 1
  have e0 := cell_blk hp.1 1
  have HP := Lib.hid hp
  clear hp h5 hg5 hob5
  refine hK.out _ _ ?q (fun hHeld => ?_)
  case q => (try dsimp only); all_goals trivial
  clear hK K
  try simp only [zpt]
  refine ztk 11 rfl ?_
  refine ztk 12 rfl ?_
  refine zrd 13 rfl (fun K hK => ?_)
  go_simp
  refine hK.out _ _ ?q (fun hHeld => ?_)
  case q => (try dsimp only); all_goals trivial
  clear hK K
  try simp only [zpt]
  refine wpAnyH_done (by kernel_rfl) ?_ _
  refine NoPanic.normal ?_
  have hp := HP.out
  clear hHeld HP z0 e0
  go_wp2_with fail
  go_ret
  exact ⟨rfl, hp.2.1, HW0.out.trans hp.2.2⟩
 ·go_simp
  refine HSEC.out.mono ?_
  rintro e v ⟨rfl, hov⟩
  have HOV : Hid (W0.grownBy v none) := (drew_grown W0 none).andThen hov.none (fun _ hj => .inr hj)
  have hsl : (v.alloc (.cells #[.int .i64 (i : Int), strV (pad l)] 115)).ownsRow 0 115 2 (.slice A1 n1 cap1) D.wr.length (refRows D.wr) := (HROWS.out v HOV.out).1
  have c1v : v.cell? ⟨m, 1, none⟩ = some (.slice A1 n1 cap1) := (HROWS.out v HOV.out).2.1
  have c1z : (v.alloc (.cells #[.int .i64 (i : Int), strV (pad l)] 115)).cell? ⟨m, 1, none⟩ = some (.slice A1 n1 cap1) := (HROWS.out v HOV.out).2.2
  have HSL := Lib.hid hsl
  clear hov hsl
  go_wp2_with fail
  refine hK.out _ _ ?q (fun hHeld => ?_)
  case q => (try dsimp only); all_goals trivial
  clear hK K
  try simp only [zpt]
  refine ztk 8 rfl ?_
  refine zrd2 4 9 rfl rfl (fun K hK => ?_) (fun K hK => ?_)
  go_simp
  refine hK.out _ _ ?q (fun hHeld => ?_)
  case q => (try dsimp only); all_goals trivial
  clear hK K
  try simp only [zpt]
  refine zrd 9 rfl (fun K hK => ?_)
  rotate_left
  go_simp
  refine hK.out _ _ ?q (fun hHeld => ?_)
  case q => (try dsimp only); all_goals trivial
  clear hK K
  try simp only [zpt]
  refine zrd 4 rfl (fun K hK => ?_)
  rotate_left
  all_goals
   go_simp
   refine hK.out _ _ ?q (fun hHeld => ?_)
   case q => (try dsimp only); all_goals trivial
   clear hK K
   try simp only [zpt]
   refine zrd 10 rfl (fun K hK => ?_)
   refine step_append_ref rfl (.tmp 46) (.tmp 51) rfl (.slice A1 n1 cap1) D.wr i (pad l) rfl HSL.out v.heap.size rfl (by exact cell_new v #[.int .i64 (i : Int), strV (pad l)] 115 0) (by exact cell_new v #[.int .i64 (i : Int), strV (pad l)] 115 1) HLEN.out ?_
   intro v2 w5 h5 hg5 hob5
   obtain ⟨A2, nn2, cap2, rfl⟩ := row_shape' h5
   have hp := HPUSH.out v _ w5 HOV.out h5 hg5 hob5
   have z0 := frozen_blk hp.1 1
   have e0 := cell_blk hp.1 1
   have HP := Lib.hid hp
   clear hp h5 hg5 hob5
   refine hK.out _ _ ?q (fun hHeld => ?_)
   case q => (try dsimp only); all_goals trivial
   clear hK K
   try simp only [zpt]
   refine ztk 11 rfl ?_
   refine ztk 12 rfl ?_
   refine zrd 13 rfl (fun K hK => ?_)
   go_simp
   refine hK.out _ _ ?q (fun hHeld => ?_)
   case q => (try dsimp only); all_goals trivial
   clear hK K
   try simp only [zpt]
   refine wpAnyH_done (by kernel_rfl) ?_ _
   refine NoPanic.normal ?_
   have hp := HP.out
   clear hHeld HP z0 e0
   go_wp2_with fail
   go_ret
   exact ⟨rfl, hp.2.1, HW0.out.trans hp.2.2⟩
theorem rwrite_at (S : Nat → Prop) (m : Nat) (i : Int) (D : Dsk) (l : List UInt8) (w : World) (h : RefAt w S m D) (hS : ∀ b, w.heap.size ≤ b → S b) (hl63 : l.length ≤ maxLen) (hn : D.wr.length + 1 < 1000000) :
  Calls Tryz.prog 47 #[.pointer (some ⟨m, 0, none⟩), .int .i64 i, strV l] w fun e w' => e = .returned (.int .i64 (wrote D i l).1) ∧ RefAt w' S m (wrote D i l).2 ∧ Off S w w' := by
 unfold maxLen at hl63
 have refused : ∀ x : Int, askedN D i = x → (x = 20 ∨ x = 2) → Calls Tryz.prog 47 #[.pointer (some ⟨m, 0, none⟩), .int .i64 i, strV l] w fun e w' => e = .returned (.int .i64 x) ∧ w = w' := by
  intro x hx hx0
  have hask := rasked_at S m D i w h
  rw [hx] at hask
  have HA := Lib.hid hask
  clear hask h hx
  rcases hx0 with rfl | rfl <;>
  ·go_enter Tryz.func47, Tryz.ntmps47
   go_wp2_with fail
   refine HA.out.mono ?_
   rintro e w' ⟨rfl, rfl⟩
   go_wp2_with fail
   go_ret
   exact ⟨rfl, rfl⟩
 rcases askedN_cases D i with hx | hx | ⟨hx, ho, hi0, hi⟩
 ·refine (refused 20 hx (.inl rfl)).mono ?_
  rintro e w' ⟨rfl, rfl⟩
  unfold wrote
  rw [if_pos (by rw [hx]; decide), hx]
  exact ⟨rfl, h, Off.refl _ _⟩
 ·refine (refused 2 hx (.inr rfl)).mono ?_
  rintro e w' ⟨rfl, rfl⟩
  unfold wrote
  rw [if_pos (by rw [hx]; decide), hx]
  exact ⟨rfl, h, Off.refl _ _⟩
 ·unfold wrote
  rw [if_neg (by simpa using hx)]
  clear refused
  have hbs := bs_size l
  by_cases hl : 128 < l.length
  ·rw [if_pos hl]
   have hask := rasked_at S m D i w h
   rw [hx] at hask
   have HA := Lib.hid hask
   have HR := Lib.hid h
   have d128 : decide ((128 : Int) < (l.length : Int)) = true := by simp; omega
   clear hask h hx hl
   go_enter Tryz.func47, Tryz.ntmps47
   go_wp2_with fail
   refine HA.out.mono ?_
   rintro e w' ⟨rfl, rfl⟩
   go_wp2_with fail
   go_ret
   exact ⟨rfl, HR.out, Off.refl _ _⟩
  ·rw [if_neg hl]
   obtain ⟨j, rfl⟩ : ∃ j : Nat, i = j := ⟨i.toNat, by omega⟩
   rw [Int.toNat_natCast] at hi ⊢
   cases harm : D.armed with
   | none => exact rwrite_plain S m j D l w h hS hi ho (by omega) harm hn
   | some k =>
    cases k with
    | zero =>
     have hask := rasked_at S m D j w h
     rw [hx] at hask
     have HA := Lib.hid hask
     have HC := Lib.hid (rcrash_at S m D w h)
     obtain ⟨_, _, sb, sl, inn, hm, _, _, _, _, _, hinn⟩ := h
     obtain ⟨hin, _⟩ := hinn 0 harm
     rw [harm, hin] at hm
     have c2 : w.cell? ⟨m, 2, none⟩ = some (.bool true) := cell_blk hm 2
     have c3 : w.cell? ⟨m, 3, none⟩ = some (.int .i64 ((0 : Nat) : Int)) := cell_blk hm 3
     have d128 : decide ((128 : Int) < (l.length : Int)) = false := by simp; omega
     clear hask hx hl hm hinn hin
     go_enter Tryz.func47, Tryz.ntmps47
     go_wp2_with fail
     refine HA.out.mono ?_
     rintro e w' ⟨rfl, rfl⟩
     go_wp2_with fail
     refine HC.out.mono ?_
     rintro e w' ⟨rfl, hr, hb⟩
     have HR := Lib.hid (And.intro hr hb)
     clear hr hb
     go_wp2_with fail
     go_ret
     exact ⟨rfl, HR.out⟩
    | succ k => exact rwrite_armed S m j D l w h hS hi ho (by omega) k harm hn
end Go.Proofs.YtgdedgfohjplmaaGreat.Sec
