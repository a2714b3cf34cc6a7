/- A part of the proof of JournalKnown: JnlPartOfP JnlRound JnlAt JnlSealW JnlWide JnlParts JnlTight. -/
import Derived.Test.YtgdedgfohjplmaaGreatK00
import Derived.Test.YtgdedgfohjplmaaGreatK02
import Derived.OrdersHeld
import Derived.Deep.RegionHeld
import Derived.OrdersIn
import Derived.TacticsIn
import Derived.RangeFuncCalls
import Derived.Test.YtgdedgfohjplmaaGreatProg
import Derived.Shelf.RegionOpen
import Derived.Deep.CutBlock
import Derived.Deep.CutRange
import Derived.RangeFuncNested
import Derived.RangeFuncBound
import Derived.RangeFuncLeaves
import Derived.RangeFuncBox
import Derived.Shelf.Abstract
import Derived.OwnWalkIn
import Derived.TacticsInMore
import Derived.LoopNIn
import Derived.LoopIn
set_option maxRecDepth 100000
set_option maxHeartbeats 40000000
namespace Go.Proofs.YtgdedgfohjplmaaGreat.Jnl
open Go.RowKit Go.Maps Sec
theorem partB_form (c : UInt8) (s k i n : Nat) (l : List UInt8) : partB c s k i n l = [c] ++ (numB s 8 ++ (numB k 8 ++ (numB i 2 ++ (numB n 2 ++ ([UInt8.ofNat l.length] ++ (l ++ (List.replicate (102 - l.length) 0 ++ (numB (Crc.sum (partL c s k i n l)).toNat 4 ++ List.replicate (124 - (partL c s k i n l).length) 0)))))))) := by
 unfold partB sealB
 simp only [partL, List.append_assoc]
section
variable (c : UInt8) (s k i n : Nat) (l : List UInt8)
theorem part_0 : (partB c s k i n l)[0]? = some c := by rw [partB_form]; rfl
theorem part_d1 : ((partB c s k i n l).drop 1).take 8 = numB s 8 := by
 rw [partB_form, drop_app (n := 1) [c] _ rfl, take_app _ _ (numB_length s 8)]
theorem part_drop9 : ∃ r, (partB c s k i n l).drop 9 = numB k 8 ++ (numB i 2 ++ (numB n 2 ++ ([UInt8.ofNat l.length] ++ (l ++ r)))) := by
 rw [partB_form, show (9 : Nat) = 1 + 8 from rfl, ← List.drop_drop, drop_app (n := 1) [c] _ rfl, drop_app _ _ (numB_length s 8)]
 exact ⟨_, rfl⟩
theorem part_d9 : ((partB c s k i n l).drop 9).take 8 = numB k 8 := by
 obtain ⟨r, e⟩ := part_drop9 c s k i n l
 rw [e, take_app _ _ (numB_length k 8)]
theorem part_drop17 : ∃ r, (partB c s k i n l).drop 17 = numB i 2 ++ (numB n 2 ++ ([UInt8.ofNat l.length] ++ (l ++ r))) := by
 obtain ⟨r, e⟩ := part_drop9 c s k i n l
 rw [show (17 : Nat) = 9 + 8 from rfl, ← List.drop_drop, e, drop_app _ _ (numB_length k 8)]
 exact ⟨r, rfl⟩
theorem part_at {j : Nat} {x : UInt8} (h : ((partB c s k i n l).drop 17)[j]? = some x) : (partB c s k i n l)[17 + j]? = some x := by
 rwa [List.getElem?_drop] at h
theorem part_17 : (partB c s k i n l)[17]? = some (UInt8.ofNat (i / 256)) ∧ (partB c s k i n l)[18]? = some (UInt8.ofNat i) ∧ (partB c s k i n l)[19]? = some (UInt8.ofNat (n / 256)) ∧ (partB c s k i n l)[20]? = some (UInt8.ofNat n) ∧ (partB c s k i n l)[21]? = some (UInt8.ofNat l.length) := by
 obtain ⟨r, e⟩ := part_drop17 c s k i n l
 refine ⟨part_at c s k i n l (j := 0) ?_, part_at c s k i n l (j := 1) ?_, part_at c s k i n l (j := 2) ?_, part_at c s k i n l (j := 3) ?_, part_at c s k i n l (j := 4) ?_⟩ <;> rw [e] <;> simp [numB]
theorem part_body : ((partB c s k i n l).drop 22).take l.length = l := by
 obtain ⟨r, e⟩ := part_drop17 c s k i n l
 rw [show (22 : Nat) = 17 + 5 from rfl, ← List.drop_drop, e]
 simp [numB]
end
theorem two_bytes (i : Nat) (hi : i < 65536) : bits .or .i64 (IntKind.i64.wrap (IntKind.i64.wrap ((i : Int) / 256) * 256)) (IntKind.i64.wrap ((i : Int) % 256)) = (i : Int) := by
 have h : i / 256 * 256 + i % 256 = i / 256 * 256 ||| i % 256 := by
  have := Nat.shiftLeft_add_eq_or_of_lt (b := i % 256) (i := 8) (Nat.mod_lt _ (by decide)) (i / 256)
  rw [Nat.shiftLeft_eq] at this
  exact this
 have w1 : IntKind.i64.wrap (IntKind.i64.wrap ((i : Int) / 256) * 256) = ((i / 256 * 256 : Nat) : Int) := by
  rw [IntKind.wrap_i64, IntKind.wrap_i64]
  omega
 have w2 : IntKind.i64.wrap ((i : Int) % 256) = ((i % 256 : Nat) : Int) := by
  rw [IntKind.wrap_i64]
  omega
 rw [w1, w2]
 show IntKind.i64.wrap ((BitVec.ofInt 64 ((i / 256 * 256 : Nat) : Int) ||| BitVec.ofInt 64 ((i % 256 : Nat) : Int)).toNat : Int) = _
 have l1 : i / 256 * 256 < 2 ^ 64 := Nat.lt_trans (m := 65537) (by omega) (by decide)
 have l2 : i % 256 < 2 ^ 64 := Nat.lt_trans (m := 256) (by omega) (by decide)
 rw [IntKind.wrap_i64, BitVec.toNat_or, BitVec.ofInt_natCast, BitVec.ofInt_natCast, BitVec.toNat_ofNat, BitVec.toNat_ofNat, Nat.mod_eq_of_lt l1, Nat.mod_eq_of_lt l2, ← h]
 omega
theorem partOf_C (gb cap : Nat) (s k i n : Nat) (l : List UInt8) (hs : s < 9223372036854775808) (hk : k < 9223372036854775808) (hin : i < n) (hn : n < 65536) (hl : l.length ≤ 102) (hfull : l.length = 102 ∨ i + 1 = n) (w : World) (hr : w.rangeAt gb 0 (u8s (partB 67 s k i n l))) (hgl : gb < w.heap.size) (hc : 128 ≤ cap) (hcm : cap ≤ maxLen) :
  Calls Tryz.prog 87 #[.slice (some ⟨gb, 0, none⟩) 128 cap] w fun e w' => e = .returned (.tuple #[.agg #[.int .u8 67, .int .i64 (s : Int), .int .i64 (k : Int), .int .i64 (i : Int), .int .i64 (n : Int), .slice (some ⟨gb, 22, none⟩) l.length (cap - 22)], .bool true]) ∧ Below w.heap.size w w' := by
 unfold maxLen at hcm
 have c1 : (128 : Int) ≤ (cap : Int) := by omega
 have HLW : Hid (∀ v, Below w.heap.size w v → v.rangeAt gb 0 (u8s (partB 67 s k i n l))) := fun v hv j x hj => (hv.cell hgl).trans (hr j x hj)
 have HLK : Hid (∀ v, Below w.heap.size w v → ∀ j x, (partB 67 s k i n l)[j]? = some x → v.cell? ⟨gb, j, none⟩ = some (.int .u8 (x.toNat : Int))) := fun v hv j x hj => by
  have := (hv.cell hgl).trans (hr j (.int .u8 (x.toNat : Int)) (by simp [u8s, hj]))
  rwa [Nat.zero_add] at this
 have HSK := Lib.hid (And.intro hs hk)
 have HIN := Lib.hid (And.intro hin hn)
 have HL := Lib.hid hl
 have HFULL := Lib.hid hfull
 have hr1 := HLK.out _ (grown_below0 (World.grownBy_alloc w (.cells #[.int .u8 0, .int .i64 0, .int .i64 0, .int .i64 0, .int .i64 0, .slice none 0 0] 93) none) (Nat.le_refl _)) 0 67 (part_0 67 s k i n l)
 have HGL := Lib.hid hgl
 clear hs hk hin hn hl hfull hr hgl
 go_enter Tryz.func87, Tryz.ntmps87
 go_upto_region 2 with fail
 have HZ := Lib.hid (PtSt.start w #[.int .u8 67, .int .i64 0, .int .i64 0, .int .i64 0, .int .i64 0, .slice none 0 0])
 obtain ⟨z, hz⟩ : ∃ z, z = (w.alloc (.cells #[.int .u8 0, .int .i64 0, .int .i64 0, .int .i64 0, .int .i64 0, .slice none 0 0] 93)).alloc (.cells #[.int .u8 67, .int .i64 0, .int .i64 0, .int .i64 0, .int .i64 0, .slice none 0 0] 93) := ⟨_, rfl⟩
 unfold part0 at HZ
 rw [← hz] at HZ ⊢
 clear hz hr1
 -- the tag, the length
 have h0 : z.cell? ⟨w.heap.size + 1, 0, none⟩ = some (.int .u8 67) := HZ.out.cell 0
 have h21 : z.cell? ⟨gb, 21, none⟩ = some (.int .u8 (l.length : Int)) := by
  have := HLK.out z HZ.out.below 21 _ (part_17 67 s k i n l).2.2.2.2
  rwa [show (UInt8.ofNat l.length).toNat = l.length by rw [UInt8.toNat_ofNat']; have := HL.out; omega] at this
 have d21 : decide ((102 : Int) < (l.length : Int)) = false := by have := HL.out; simp; omega
 go_upto_region 4 with fail
 clear h0 h21 d21
 go_wp2_with fail
 refine (read_at gb 1 127 (cap - 1) ((partB 67 s k i n l).drop 1) s 8 z (range_drop (HLW.out z HZ.out.below) 1) (by rw [List.length_drop, partB_length _ _ _ _ _ _ HL.out]) (by decide) (by decide) (by omega) (by unfold maxLen; omega) (part_d1 67 s k i n l) (by have := HSK.out.1; show _ < 18446744073709551616; omega) HSK.out.1).mono ?_
 rintro e w1 ⟨rfl, m, rfl⟩
 have g3 : (z.drewN m).cell? ⟨w.heap.size + 1, 1, none⟩ = some (.int .i64 0) := (HZ.out.drewN m).cell 1
 have g4 := (HZ.out.drewN m).free 1
 go_upto_region 5 with fail
 have HZ1 := Lib.hid ((HZ.out.drewN m).set 1 (.int .i64 (s : Int)))
 obtain ⟨z1, hz1⟩ : ∃ z1, z1 = (z.drewN m).setCell ⟨w.heap.size + 1, 1, none⟩ (.int .i64 (s : Int)) := ⟨_, rfl⟩
 rw [← hz1] at HZ1 ⊢
 clear hz1 g3 g4 HZ
 go_wp2_with fail
 refine (read_at gb 9 119 (cap - 9) ((partB 67 s k i n l).drop 9) k 8 z1 (range_drop (HLW.out z1 HZ1.out.below) 9) (by rw [List.length_drop, partB_length _ _ _ _ _ _ HL.out]) (by decide) (by decide) (by omega) (by unfold maxLen; omega) (part_d9 67 s k i n l) (by have := HSK.out.2; show _ < 18446744073709551616; omega) HSK.out.2).mono ?_
 rintro e w1 ⟨rfl, m2, rfl⟩
 have g3 : (z1.drewN m2).cell? ⟨w.heap.size + 1, 2, none⟩ = some (.int .i64 0) := (HZ1.out.drewN m2).cell 2
 have g4 := (HZ1.out.drewN m2).free 2
 go_upto_region 6 with fail
 have HZ := Lib.hid ((HZ1.out.drewN m2).set 2 (.int .i64 (k : Int)))
 obtain ⟨z, hz⟩ : ∃ z, z = (z1.drewN m2).setCell ⟨w.heap.size + 1, 2, none⟩ (.int .i64 (k : Int)) := ⟨_, rfl⟩
 rw [← hz] at HZ ⊢
 clear hz g3 g4 HZ1
 have H4B : Hid (∀ v, Below w.heap.size w v → v.cell? ⟨gb, 17, none⟩ = some (.int .u8 ((i / 256 : Nat) : Int)) ∧ v.cell? ⟨gb, 18, none⟩ = some (.int .u8 ((i % 256 : Nat) : Int)) ∧ v.cell? ⟨gb, 19, none⟩ = some (.int .u8 ((n / 256 : Nat) : Int)) ∧ v.cell? ⟨gb, 20, none⟩ = some (.int .u8 ((n % 256 : Nat) : Int))) := fun v hv => by
  have p := part_17 67 s k i n l
  have h1 := HLK.out v hv 17 _ p.1
  have h2 := HLK.out v hv 18 _ p.2.1
  have h3 := HLK.out v hv 19 _ p.2.2.1
  have h4 := HLK.out v hv 20 _ p.2.2.2.1
  have e1 : (UInt8.ofNat (i / 256)).toNat = i / 256 := by rw [UInt8.toNat_ofNat']; have := HIN.out; omega
  have e2 : (UInt8.ofNat i).toNat = i % 256 := UInt8.toNat_ofNat'
  have e3 : (UInt8.ofNat (n / 256)).toNat = n / 256 := by rw [UInt8.toNat_ofNat']; have := HIN.out; omega
  have e4 : (UInt8.ofNat n).toNat = n % 256 := UInt8.toNat_ofNat'
  rw [e1] at h1
  rw [e2] at h2
  rw [e3] at h3
  rw [e4] at h4
  exact ⟨h1, h2, h3, h4⟩
 have H21 : Hid (∀ v, Below w.heap.size w v → v.cell? ⟨gb, 21, none⟩ = some (.int .u8 (l.length : Int))) := fun v hv => by
  have := HLK.out v hv 21 _ (part_17 67 s k i n l).2.2.2.2
  rwa [show (UInt8.ofNat l.length).toNat = l.length by rw [UInt8.toNat_ofNat']; have := HL.out; omega] at this
 have HTI := Lib.hid (two_bytes i (by have := HIN.out; omega))
 have HTN := Lib.hid (two_bytes n HIN.out.2)
 have HYD : Hid (Below w.heap.size w z.drew) := HZ.out.below.trans (below_drew _ _)
 refine wp_region_noPanic ?_
 refine wp_region_held_drew (S := fun w' => w'.cell? ⟨gb, 17, none⟩ = some (Value.int .u8 ((i / 256 : Nat) : Int)) ∧ w'.cell? ⟨gb, 18, none⟩ = some (Value.int .u8 ((i % 256 : Nat) : Int)) ∧ w'.cell? ⟨gb, 19, none⟩ = some (Value.int .u8 ((n / 256 : Nat) : Int)) ∧ w'.cell? ⟨gb, 20, none⟩ = some (Value.int .u8 ((n % 256 : Nat) : Int))) (by kernel_rfl) ?hSa (fun hHeld => ?_)
 case hSa => exact H4B.out _ HYD.out
 refine ztk 0 rfl ?_
 refine ztk 1 rfl ?_
 refine ztk 2 rfl ?_
 refine ztk 3 rfl ?_
 refine ztk 4 rfl ?_
 refine ztk 5 rfl ?_
 refine ztk 6 rfl ?_
 refine ztk 7 rfl ?_
 refine ztk 8 rfl ?_
 refine ztk 9 rfl ?_ (v := Value.int .i64 (i : Int)) (hy := ?hya9)
 case hya9 => (intro wS hSw; (try dsimp only at hSw); go_simp; rw [HTI.out])
 refine ztk 10 rfl ?_
 refine ztk 11 rfl ?_
 refine ztk 12 rfl ?_
 refine ztk 13 rfl ?_
 refine ztk 14 rfl ?_
 refine ztk 15 rfl ?_
 refine ztk 16 rfl ?_
 refine ztk 17 rfl ?_
 refine ztk 18 rfl ?_
 refine ztk 19 rfl ?_ (v := Value.int .i64 (n : Int)) (hy := ?hya19)
 case hya19 => (intro wS hSw; (try dsimp only at hSw); go_simp; rw [HTN.out])
 refine ztk 20 rfl ?_
 refine zrd 21 rfl (fun K hK => ?_)
 have g3 : z.cell? ⟨w.heap.size + 1, 3, none⟩ = some (.int .i64 0) := HZ.out.cell 3
 have g4 : z.frozen? ⟨w.heap.size + 1, 3, none⟩ = false := HZ.out.free 3
 go_simp
 clear g3 g4
 have HZ1 := Lib.hid ((HZ.out.set 3 (.int .i64 (i : Int))).drewN 1)
 refine hK.out _ _ ?q (fun hHeld => ?_)
 case q => (try dsimp only); exact H4B.out _ HZ1.out.below
 clear hK K
 try simp only [zpt]
 refine ztk 22 rfl ?_
 refine zrd 23 rfl (fun K hK => ?_)
 have g3 : z.cell? ⟨w.heap.size + 1, 4, none⟩ = some (.int .i64 0) := HZ.out.cell 4
 have g4 : z.frozen? ⟨w.heap.size + 1, 4, none⟩ = false := HZ.out.free 4
 go_simp
 clear g3 g4
 have HZ2 := Lib.hid (((HZ.out.set 3 (.int .i64 (i : Int))).set 4 (.int .i64 (n : Int))).drewN 1)
 refine hK.out _ _ ?q (fun hHeld => ?_)
 case q => (try dsimp only); exact H4B.out _ HZ2.out.below
 clear hK K
 try simp only [zpt]
 refine wpAnyH_done (by kernel_rfl) ?_ _
 refine NoPanic.normal ?_
 clear hHeld
 obtain ⟨zf, hzf⟩ : ∃ zf, zf = ((z.setCell ⟨w.heap.size + 1, 3, none⟩ (.int .i64 (i : Int))).setCell ⟨w.heap.size + 1, 4, none⟩ (.int .i64 (n : Int))).drew := ⟨_, rfl⟩
 have HZF : Hid (PtSt w zf #[.int .u8 67, .int .i64 (s : Int), .int .i64 (k : Int), .int .i64 (i : Int), .int .i64 (n : Int), .slice none 0 0]) := by rw [hzf]; exact HZ2.out
 rw [← hzf]
 clear hzf HZ HZ1 HZ2 HYD
 have h21 : zf.cell? ⟨gb, 21, none⟩ = some (.int .u8 (l.length : Int)) := H21.out _ HZF.out.below
 have g3 : zf.cell? ⟨w.heap.size + 1, 5, none⟩ = some (.slice none 0 0) := HZF.out.cell 5
 have g4 : zf.frozen? ⟨w.heap.size + 1, 5, none⟩ = false := HZF.out.free 5
 have l1 : (l.length : Int) ≤ 102 := by have := HL.out; omega
 go_upto_region 8 with fail
 have e22 : 22 + l.length - 22 = l.length := by omega
 try rw [e22]
 have HZG : Hid (PtSt w (zf.setCell ⟨w.heap.size + 1, 5, none⟩ (.slice (some ⟨gb, 22, none⟩) l.length (cap - 22))) #[.int .u8 67, .int .i64 (s : Int), .int .i64 (k : Int), .int .i64 (i : Int), .int .i64 (n : Int), .slice (some ⟨gb, 22, none⟩) l.length (cap - 22)]) := HZF.out.set 5 _
 obtain ⟨zg, hzg⟩ : ∃ zg, zg = zf.setCell ⟨w.heap.size + 1, 5, none⟩ (.slice (some ⟨gb, 22, none⟩) l.length (cap - 22)) := ⟨_, rfl⟩
 rw [← hzg] at HZG ⊢
 clear hzg g3 g4 h21 HZF l1 e22
 have h3 : zg.cell? ⟨w.heap.size + 1, 3, none⟩ = some (.int .i64 (i : Int)) := HZG.out.cell 3
 have h4 : zg.cell? ⟨w.heap.size + 1, 4, none⟩ = some (.int .i64 (n : Int)) := HZG.out.cell 4
 have h5 : zg.cell? ⟨w.heap.size + 1, 5, none⟩ = some (.slice (some ⟨gb, 22, none⟩) l.length (cap - 22)) := HZG.out.cell 5
 go_cut [5] from 68 (fun v5 wx => v5 = .bool true ∧ wx = zg)
 case first =>
  by_cases hf : l.length = 102
  ·have d1 : ((l.length : Int) == 102) = true := by simp; omega
   go_wp2_with fail
   go_meet
   case rel => exact ⟨rfl, rfl⟩
  ·have d1 : ((l.length : Int) == 102) = false := by simp; omega
   have hfn : i + 1 = n := HFULL.out.resolve_left hf
   have d2 : ((i : Int) == wrap64 ((n : Int) - 1)) = true := by
    have e : wrap64 ((n : Int) - 1) = (i : Int) := by have := HIN.out; unfold wrap64; omega
    rw [e]; simp
   go_wp2_with fail
   go_meet
   case rel => exact ⟨rfl, rfl⟩
 case rest =>
  obtain ⟨rfl, hwx⟩ := hcut
  have hwx := hwx.symm
  subst hwx
  clear h3 h4 h5
  have HC0 := Lib.hid HZG.out.six
  have din : decide ((i : Int) < (n : Int)) = true := by have := HIN.out; simp; omega
  have din2 : decide (i < n) = true := by have := HIN.out; simp; omega
  go_wp2_with fail
  refine wp_region_noPanic ?_
  refine wp_region_held_drew (S := fun w' => w'.cell? ⟨w.heap.size + 1, 0, none⟩ = some (Value.int .u8 67) ∧ w'.cell? ⟨w.heap.size + 1, 1, none⟩ = some (Value.int .i64 (s : Int)) ∧ w'.cell? ⟨w.heap.size + 1, 2, none⟩ = some (Value.int .i64 (k : Int)) ∧ w'.cell? ⟨w.heap.size + 1, 3, none⟩ = some (Value.int .i64 (i : Int)) ∧ w'.cell? ⟨w.heap.size + 1, 4, none⟩ = some (Value.int .i64 (n : Int)) ∧ w'.cell? ⟨w.heap.size + 1, 5, none⟩ = some (Value.slice (some ⟨gb, 22, none⟩) l.length (cap - 22))) (by kernel_rfl) ?hSe (fun hHeld => ?_)
  case hSe => exact HC0.out
  refine ztk 0 rfl ?_
  refine ztk 1 rfl ?_
  refine ztk 2 rfl ?_
  refine ztk 3 rfl ?_
  refine ztk 4 rfl ?_
  refine ztk 5 rfl ?_
  refine ztk 6 rfl ?_
  refine ztk 7 rfl ?_
  refine ztk 8 rfl ?_
  refine ztk 9 rfl ?_
  refine ztk 10 rfl ?_
  refine ztk 12 rfl ?_
  refine zrd 11 rfl (fun K hK => ?_)
  go_simp
  refine (part_bytes_at 67 s k i n l (some ⟨gb, 22, none⟩) (cap - 22) HSK.out.1 HSK.out.2 (by have := HIN.out; omega) (by have := HIN.out; omega) HL.out zg.drew (.inr ⟨gb, 22, rfl, by have h1 := HGL.out; have h2 := HZG.out.size; show gb < zg.heap.size; omega, by have h := range_head (range_drop (HLW.out zg HZG.out.below) 22) l.length; rw [part_body] at h; exact h⟩)).mono ?_
  rintro e w2 ⟨v2, rfl, hr2, hb2⟩
  obtain ⟨g2, cap2, rfl, _, _, _, _, hrg2⟩ := hr2.some (by have := partB_length 67 s k i n l HL.out; intro e; rw [e] at this; cases this)
  rw [partB_length _ _ _ _ _ _ HL.out]
  have HRG2 := Lib.hid hrg2
  have HP2 := Lib.hid ((HZG.out.drewN 1).later hb2)
  have HRW := Lib.hid (HLW.out _ HP2.out.below)
  have HC2 := Lib.hid HP2.out.six
  clear hr2 hb2 hrg2
  go_wp2_with fail
  refine hK.out _ _ ?q (fun hHeld => ?_)
  case q => (try dsimp only); exact HC2.out
  clear hK K
  try simp only [zpt]
  refine zrd 13 rfl (fun K hK => ?_)
  go_simp
  refine (equal_len g2 0 gb 0 128 128 (partB 67 s k i n l) (partB 67 s k i n l) (partB_length _ _ _ _ _ _ HL.out) (partB_length _ _ _ _ _ _ HL.out) cap2 cap w2 HRG2.out HRW.out).mono ?_
  rintro e w3 ⟨rfl, hw3⟩
  have hw3 := hw3.symm
  subst hw3
  rw [decide_eq_true rfl]
  go_wp2_with fail
  refine hK.out _ _ ?q (fun hHeld => ?_)
  case q => (try dsimp only); exact HC2.out
  clear hK K
  try simp only [zpt]
  refine ztk 14 rfl ?_
  refine zrd 15 rfl (fun K hK => ?_)
  obtain ⟨r0, r1, r2, r3, r4, r5⟩ := HP2.out.res6
  have q0 := HP2.out.resfree
  go_simp
  clear r0 r1 r2 r3 r4 r5 q0
  have HPP := Lib.hid (HP2.out.put (.int .u8 67) (.int .i64 (s : Int)) (.int .i64 (k : Int)) (.int .i64 (i : Int)) (.int .i64 (n : Int)) (.slice (some ⟨gb, 22, none⟩) l.length (cap - 22)))
  refine hK.out _ _ ?q (fun hHeld => ?_)
  case q => (try dsimp only); exact six_of HPP.out.2.2
  clear hK K
  try simp only [zpt]
  refine ztk 16 rfl ?_
  refine wpAnyH_done (by kernel_rfl) ?_ _
  refine NoPanic.normal ?_
  clear hHeld
  go_wp2_with fail
  (try simp only [Exit.inBlock, Exit.then])
  refine bodyPost_ret (results_row_tmp rfl _ _ w.heap.size _ _ _ _ rfl HPP.out.1 Tryz.underlying93 rfl (by kernel_rfl)) rfl ?_
  exact ⟨rfl, HPP.out.2.1⟩
theorem partOf_R (gb cap : Nat) (s k i n : Nat) (l : List UInt8) (hs : s < 9223372036854775808) (hk : k < 9223372036854775808) (hin : i < n) (hn : n < 65536) (hl : l.length ≤ 102) (hfull : l.length = 102 ∨ i + 1 = n) (w : World) (hr : w.rangeAt gb 0 (u8s (partB 82 s k i n l))) (hgl : gb < w.heap.size) (hc : 128 ≤ cap) (hcm : cap ≤ maxLen) :
  Calls Tryz.prog 87 #[.slice (some ⟨gb, 0, none⟩) 128 cap] w fun e w' => e = .returned (.tuple #[.agg #[.int .u8 82, .int .i64 (s : Int), .int .i64 (k : Int), .int .i64 (i : Int), .int .i64 (n : Int), .slice (some ⟨gb, 22, none⟩) l.length (cap - 22)], .bool true]) ∧ Below w.heap.size w w' := by
 unfold maxLen at hcm
 have c1 : (128 : Int) ≤ (cap : Int) := by omega
 have HLW : Hid (∀ v, Below w.heap.size w v → v.rangeAt gb 0 (u8s (partB 82 s k i n l))) := fun v hv j x hj => (hv.cell hgl).trans (hr j x hj)
 have HLK : Hid (∀ v, Below w.heap.size w v → ∀ j x, (partB 82 s k i n l)[j]? = some x → v.cell? ⟨gb, j, none⟩ = some (.int .u8 (x.toNat : Int))) := fun v hv j x hj => by
  have := (hv.cell hgl).trans (hr j (.int .u8 (x.toNat : Int)) (by simp [u8s, hj]))
  rwa [Nat.zero_add] at this
 have HSK := Lib.hid (And.intro hs hk)
 have HIN := Lib.hid (And.intro hin hn)
 have HL := Lib.hid hl
 have HFULL := Lib.hid hfull
 have hr1 := HLK.out _ (grown_below0 (World.grownBy_alloc w (.cells #[.int .u8 0, .int .i64 0, .int .i64 0, .int .i64 0, .int .i64 0, .slice none 0 0] 93) none) (Nat.le_refl _)) 0 82 (part_0 82 s k i n l)
 have HGL := Lib.hid hgl
 clear hs hk hin hn hl hfull hr hgl
 go_enter Tryz.func87, Tryz.ntmps87
 go_upto_region 2 with fail
 have HZ := Lib.hid (PtSt.start w #[.int .u8 82, .int .i64 0, .int .i64 0, .int .i64 0, .int .i64 0, .slice none 0 0])
 obtain ⟨z, hz⟩ : ∃ z, z = (w.alloc (.cells #[.int .u8 0, .int .i64 0, .int .i64 0, .int .i64 0, .int .i64 0, .slice none 0 0] 93)).alloc (.cells #[.int .u8 82, .int .i64 0, .int .i64 0, .int .i64 0, .int .i64 0, .slice none 0 0] 93) := ⟨_, rfl⟩
 unfold part0 at HZ
 rw [← hz] at HZ ⊢
 clear hz hr1
 -- the tag, the length
 have h0 : z.cell? ⟨w.heap.size + 1, 0, none⟩ = some (.int .u8 82) := HZ.out.cell 0
 have h21 : z.cell? ⟨gb, 21, none⟩ = some (.int .u8 (l.length : Int)) := by
  have := HLK.out z HZ.out.below 21 _ (part_17 82 s k i n l).2.2.2.2
  rwa [show (UInt8.ofNat l.length).toNat = l.length by rw [UInt8.toNat_ofNat']; have := HL.out; omega] at this
 have d21 : decide ((102 : Int) < (l.length : Int)) = false := by have := HL.out; simp; omega
 go_upto_region 4 with fail
 clear h0 h21 d21
 go_wp2_with fail
 refine (read_at gb 1 127 (cap - 1) ((partB 82 s k i n l).drop 1) s 8 z (range_drop (HLW.out z HZ.out.below) 1) (by rw [List.length_drop, partB_length _ _ _ _ _ _ HL.out]) (by decide) (by decide) (by omega) (by unfold maxLen; omega) (part_d1 82 s k i n l) (by have := HSK.out.1; show _ < 18446744073709551616; omega) HSK.out.1).mono ?_
 rintro e w1 ⟨rfl, m, rfl⟩
 have g3 : (z.drewN m).cell? ⟨w.heap.size + 1, 1, none⟩ = some (.int .i64 0) := (HZ.out.drewN m).cell 1
 have g4 := (HZ.out.drewN m).free 1
 go_upto_region 5 with fail
 have HZ1 := Lib.hid ((HZ.out.drewN m).set 1 (.int .i64 (s : Int)))
 obtain ⟨z1, hz1⟩ : ∃ z1, z1 = (z.drewN m).setCell ⟨w.heap.size + 1, 1, none⟩ (.int .i64 (s : Int)) := ⟨_, rfl⟩
 rw [← hz1] at HZ1 ⊢
 clear hz1 g3 g4 HZ
 go_wp2_with fail
 refine (read_at gb 9 119 (cap - 9) ((partB 82 s k i n l).drop 9) k 8 z1 (range_drop (HLW.out z1 HZ1.out.below) 9) (by rw [List.length_drop, partB_length _ _ _ _ _ _ HL.out]) (by decide) (by decide) (by omega) (by unfold maxLen; omega) (part_d9 82 s k i n l) (by have := HSK.out.2; show _ < 18446744073709551616; omega) HSK.out.2).mono ?_
 rintro e w1 ⟨rfl, m2, rfl⟩
 have g3 : (z1.drewN m2).cell? ⟨w.heap.size + 1, 2, none⟩ = some (.int .i64 0) := (HZ1.out.drewN m2).cell 2
 have g4 := (HZ1.out.drewN m2).free 2
 go_upto_region 6 with fail
 have HZ := Lib.hid ((HZ1.out.drewN m2).set 2 (.int .i64 (k : Int)))
 obtain ⟨z, hz⟩ : ∃ z, z = (z1.drewN m2).setCell ⟨w.heap.size + 1, 2, none⟩ (.int .i64 (k : Int)) := ⟨_, rfl⟩
 rw [← hz] at HZ ⊢
 clear hz g3 g4 HZ1
 have H4B : Hid (∀ v, Below w.heap.size w v → v.cell? ⟨gb, 17, none⟩ = some (.int .u8 ((i / 256 : Nat) : Int)) ∧ v.cell? ⟨gb, 18, none⟩ = some (.int .u8 ((i % 256 : Nat) : Int)) ∧ v.cell? ⟨gb, 19, none⟩ = some (.int .u8 ((n / 256 : Nat) : Int)) ∧ v.cell? ⟨gb, 20, none⟩ = some (.int .u8 ((n % 256 : Nat) : Int))) := fun v hv => by
  have p := part_17 82 s k i n l
  have h1 := HLK.out v hv 17 _ p.1
  have h2 := HLK.out v hv 18 _ p.2.1
  have h3 := HLK.out v hv 19 _ p.2.2.1
  have h4 := HLK.out v hv 20 _ p.2.2.2.1
  have e1 : (UInt8.ofNat (i / 256)).toNat = i / 256 := by rw [UInt8.toNat_ofNat']; have := HIN.out; omega
  have e2 : (UInt8.ofNat i).toNat = i % 256 := UInt8.toNat_ofNat'
  have e3 : (UInt8.ofNat (n / 256)).toNat = n / 256 := by rw [UInt8.toNat_ofNat']; have := HIN.out; omega
  have e4 : (UInt8.ofNat n).toNat = n % 256 := UInt8.toNat_ofNat'
  rw [e1] at h1
  rw [e2] at h2
  rw [e3] at h3
  rw [e4] at h4
  exact ⟨h1, h2, h3, h4⟩
 have H21 : Hid (∀ v, Below w.heap.size w v → v.cell? ⟨gb, 21, none⟩ = some (.int .u8 (l.length : Int))) := fun v hv => by
  have := HLK.out v hv 21 _ (part_17 82 s k i n l).2.2.2.2
  rwa [show (UInt8.ofNat l.length).toNat = l.length by rw [UInt8.toNat_ofNat']; have := HL.out; omega] at this
 have HTI := Lib.hid (two_bytes i (by have := HIN.out; omega))
 have HTN := Lib.hid (two_bytes n HIN.out.2)
 have HYD : Hid (Below w.heap.size w z.drew) := HZ.out.below.trans (below_drew _ _)
 refine wp_region_noPanic ?_
 refine wp_region_held_drew (S := fun w' => w'.cell? ⟨gb, 17, none⟩ = some (Value.int .u8 ((i / 256 : Nat) : Int)) ∧ w'.cell? ⟨gb, 18, none⟩ = some (Value.int .u8 ((i % 256 : Nat) : Int)) ∧ w'.cell? ⟨gb, 19, none⟩ = some (Value.int .u8 ((n / 256 : Nat) : Int)) ∧ w'.cell? ⟨gb, 20, none⟩ = some (Value.int .u8 ((n % 256 : Nat) : Int))) (by kernel_rfl) ?hSa (fun hHeld => ?_)
 case hSa => exact H4B.out _ HYD.out
 refine ztk 0 rfl ?_
 refine ztk 1 rfl ?_
 refine ztk 2 rfl ?_
 refine ztk 3 rfl ?_
 refine ztk 4 rfl ?_
 refine ztk 5 rfl ?_
 refine ztk 6 rfl ?_
 refine ztk 7 rfl ?_
 refine ztk 8 rfl ?_
 refine ztk 9 rfl ?_ (v := Value.int .i64 (i : Int)) (hy := ?hya9)
 case hya9 => (intro wS hSw; (try dsimp only at hSw); go_simp; rw [HTI.out])
 refine ztk 10 rfl ?_
 refine ztk 11 rfl ?_
 refine ztk 12 rfl ?_
 refine ztk 13 rfl ?_
 refine ztk 14 rfl ?_
 refine ztk 15 rfl ?_
 refine ztk 16 rfl ?_
 refine ztk 17 rfl ?_
 refine ztk 18 rfl ?_
 refine ztk 19 rfl ?_ (v := Value.int .i64 (n : Int)) (hy := ?hya19)
 case hya19 => (intro wS hSw; (try dsimp only at hSw); go_simp; rw [HTN.out])
 refine ztk 20 rfl ?_
 refine zrd 21 rfl (fun K hK => ?_)
 have g3 : z.cell? ⟨w.heap.size + 1, 3, none⟩ = some (.int .i64 0) := HZ.out.cell 3
 have g4 : z.frozen? ⟨w.heap.size + 1, 3, none⟩ = false := HZ.out.free 3
 go_simp
 clear g3 g4
 have HZ1 := Lib.hid ((HZ.out.set 3 (.int .i64 (i : Int))).drewN 1)
 refine hK.out _ _ ?q (fun hHeld => ?_)
 case q => (try dsimp only); exact H4B.out _ HZ1.out.below
 clear hK K
 try simp only [zpt]
 refine ztk 22 rfl ?_
 refine zrd 23 rfl (fun K hK => ?_)
 have g3 : z.cell? ⟨w.heap.size + 1, 4, none⟩ = some (.int .i64 0) := HZ.out.cell 4
 have g4 : z.frozen? ⟨w.heap.size + 1, 4, none⟩ = false := HZ.out.free 4
 go_simp
 clear g3 g4
 have HZ2 := Lib.hid (((HZ.out.set 3 (.int .i64 (i : Int))).set 4 (.int .i64 (n : Int))).drewN 1)
 refine hK.out _ _ ?q (fun hHeld => ?_)
 case q => (try dsimp only); exact H4B.out _ HZ2.out.below
 clear hK K
 try simp only [zpt]
 refine wpAnyH_done (by kernel_rfl) ?_ _
 refine NoPanic.normal ?_
 clear hHeld
 obtain ⟨zf, hzf⟩ : ∃ zf, zf = ((z.setCell ⟨w.heap.size + 1, 3, none⟩ (.int .i64 (i : Int))).setCell ⟨w.heap.size + 1, 4, none⟩ (.int .i64 (n : Int))).drew := ⟨_, rfl⟩
 have HZF : Hid (PtSt w zf #[.int .u8 82, .int .i64 (s : Int), .int .i64 (k : Int), .int .i64 (i : Int), .int .i64 (n : Int), .slice none 0 0]) := by rw [hzf]; exact HZ2.out
 rw [← hzf]
 clear hzf HZ HZ1 HZ2 HYD
 have h21 : zf.cell? ⟨gb, 21, none⟩ = some (.int .u8 (l.length : Int)) := H21.out _ HZF.out.below
 have g3 : zf.cell? ⟨w.heap.size + 1, 5, none⟩ = some (.slice none 0 0) := HZF.out.cell 5
 have g4 : zf.frozen? ⟨w.heap.size + 1, 5, none⟩ = false := HZF.out.free 5
 have l1 : (l.length : Int) ≤ 102 := by have := HL.out; omega
 go_upto_region 8 with fail
 have e22 : 22 + l.length - 22 = l.length := by omega
 try rw [e22]
 have HZG : Hid (PtSt w (zf.setCell ⟨w.heap.size + 1, 5, none⟩ (.slice (some ⟨gb, 22, none⟩) l.length (cap - 22))) #[.int .u8 82, .int .i64 (s : Int), .int .i64 (k : Int), .int .i64 (i : Int), .int .i64 (n : Int), .slice (some ⟨gb, 22, none⟩) l.length (cap - 22)]) := HZF.out.set 5 _
 obtain ⟨zg, hzg⟩ : ∃ zg, zg = zf.setCell ⟨w.heap.size + 1, 5, none⟩ (.slice (some ⟨gb, 22, none⟩) l.length (cap - 22)) := ⟨_, rfl⟩
 rw [← hzg] at HZG ⊢
 clear hzg g3 g4 h21 HZF l1 e22
 have h3 : zg.cell? ⟨w.heap.size + 1, 3, none⟩ = some (.int .i64 (i : Int)) := HZG.out.cell 3
 have h4 : zg.cell? ⟨w.heap.size + 1, 4, none⟩ = some (.int .i64 (n : Int)) := HZG.out.cell 4
 have h5 : zg.cell? ⟨w.heap.size + 1, 5, none⟩ = some (.slice (some ⟨gb, 22, none⟩) l.length (cap - 22)) := HZG.out.cell 5
 go_cut [5] from 68 (fun v5 wx => v5 = .bool true ∧ wx = zg)
 case first =>
  by_cases hf : l.length = 102
  ·have d1 : ((l.length : Int) == 102) = true := by simp; omega
   go_wp2_with fail
   go_meet
   case rel => exact ⟨rfl, rfl⟩
  ·have d1 : ((l.length : Int) == 102) = false := by simp; omega
   have hfn : i + 1 = n := HFULL.out.resolve_left hf
   have d2 : ((i : Int) == wrap64 ((n : Int) - 1)) = true := by
    have e : wrap64 ((n : Int) - 1) = (i : Int) := by have := HIN.out; unfold wrap64; omega
    rw [e]; simp
   go_wp2_with fail
   go_meet
   case rel => exact ⟨rfl, rfl⟩
 case rest =>
  obtain ⟨rfl, hwx⟩ := hcut
  have hwx := hwx.symm
  subst hwx
  clear h3 h4 h5
  have HC0 := Lib.hid HZG.out.six
  have din : decide ((i : Int) < (n : Int)) = true := by have := HIN.out; simp; omega
  have din2 : decide (i < n) = true := by have := HIN.out; simp; omega
  go_wp2_with fail
  refine wp_region_noPanic ?_
  refine wp_region_held_drew (S := fun w' => w'.cell? ⟨w.heap.size + 1, 0, none⟩ = some (Value.int .u8 82) ∧ w'.cell? ⟨w.heap.size + 1, 1, none⟩ = some (Value.int .i64 (s : Int)) ∧ w'.cell? ⟨w.heap.size + 1, 2, none⟩ = some (Value.int .i64 (k : Int)) ∧ w'.cell? ⟨w.heap.size + 1, 3, none⟩ = some (Value.int .i64 (i : Int)) ∧ w'.cell? ⟨w.heap.size + 1, 4, none⟩ = some (Value.int .i64 (n : Int)) ∧ w'.cell? ⟨w.heap.size + 1, 5, none⟩ = some (Value.slice (some ⟨gb, 22, none⟩) l.length (cap - 22))) (by kernel_rfl) ?hSe (fun hHeld => ?_)
  case hSe => exact HC0.out
  refine ztk 0 rfl ?_
  refine ztk 1 rfl ?_
  refine ztk 2 rfl ?_
  refine ztk 3 rfl ?_
  refine ztk 4 rfl ?_
  refine ztk 5 rfl ?_
  refine ztk 6 rfl ?_
  refine ztk 7 rfl ?_
  refine ztk 8 rfl ?_
  refine ztk 9 rfl ?_
  refine ztk 10 rfl ?_
  refine ztk 12 rfl ?_
  refine zrd 11 rfl (fun K hK => ?_)
  go_simp
  refine (part_bytes_at 82 s k i n l (some ⟨gb, 22, none⟩) (cap - 22) HSK.out.1 HSK.out.2 (by have := HIN.out; omega) (by have := HIN.out; omega) HL.out zg.drew (.inr ⟨gb, 22, rfl, by have h1 := HGL.out; have h2 := HZG.out.size; show gb < zg.heap.size; omega, by have h := range_head (range_drop (HLW.out zg HZG.out.below) 22) l.length; rw [part_body] at h; exact h⟩)).mono ?_
  rintro e w2 ⟨v2, rfl, hr2, hb2⟩
  obtain ⟨g2, cap2, rfl, _, _, _, _, hrg2⟩ := hr2.some (by have := partB_length 82 s k i n l HL.out; intro e; rw [e] at this; cases this)
  rw [partB_length _ _ _ _ _ _ HL.out]
  have HRG2 := Lib.hid hrg2
  have HP2 := Lib.hid ((HZG.out.drewN 1).later hb2)
  have HRW := Lib.hid (HLW.out _ HP2.out.below)
  have HC2 := Lib.hid HP2.out.six
  clear hr2 hb2 hrg2
  go_wp2_with fail
  refine hK.out _ _ ?q (fun hHeld => ?_)
  case q => (try dsimp only); exact HC2.out
  clear hK K
  try simp only [zpt]
  refine zrd 13 rfl (fun K hK => ?_)
  go_simp
  refine (equal_len g2 0 gb 0 128 128 (partB 82 s k i n l) (partB 82 s k i n l) (partB_length _ _ _ _ _ _ HL.out) (partB_length _ _ _ _ _ _ HL.out) cap2 cap w2 HRG2.out HRW.out).mono ?_
  rintro e w3 ⟨rfl, hw3⟩
  have hw3 := hw3.symm
  subst hw3
  rw [decide_eq_true rfl]
  go_wp2_with fail
  refine hK.out _ _ ?q (fun hHeld => ?_)
  case q => (try dsimp only); exact HC2.out
  clear hK K
  try simp only [zpt]
  refine ztk 14 rfl ?_
  refine zrd 15 rfl (fun K hK => ?_)
  obtain ⟨r0, r1, r2, r3, r4, r5⟩ := HP2.out.res6
  have q0 := HP2.out.resfree
  go_simp
  clear r0 r1 r2 r3 r4 r5 q0
  have HPP := Lib.hid (HP2.out.put (.int .u8 82) (.int .i64 (s : Int)) (.int .i64 (k : Int)) (.int .i64 (i : Int)) (.int .i64 (n : Int)) (.slice (some ⟨gb, 22, none⟩) l.length (cap - 22)))
  refine hK.out _ _ ?q (fun hHeld => ?_)
  case q => (try dsimp only); exact six_of HPP.out.2.2
  clear hK K
  try simp only [zpt]
  refine ztk 16 rfl ?_
  refine wpAnyH_done (by kernel_rfl) ?_ _
  refine NoPanic.normal ?_
  clear hHeld
  go_wp2_with fail
  (try simp only [Exit.inBlock, Exit.then])
  refine bodyPost_ret (results_row_tmp rfl _ _ w.heap.size _ _ _ _ rfl HPP.out.1 Tryz.underlying93 rfl (by kernel_rfl)) rfl ?_
  exact ⟨rfl, HPP.out.2.1⟩
end Go.Proofs.YtgdedgfohjplmaaGreat.Jnl
namespace Go.Proofs.YtgdedgfohjplmaaGreat.Jnl
open Go
section
variable {P : Program} {ops : Array Oper} {Q : Exit → Act → World → Prop} {S : World → Prop} {l n : Nat}
theorem rows_wide {row : String} {args : Array Value} {w : World} {R : Value → World → Prop} (h : Rows P row args w R) : RowsIn (Fence.wide.inRound l) n P row args w R :=
 fun c cs _ => let ⟨v, w', r, s⟩ := h c cs; ⟨v, w', r, stepsIn_wide.2 s⟩
theorem upon_in {o : Oper} {a : Act} {K : Act → World → Prop} {r : Result Next} (h : o.upon P a K Q r) : o.uponIn (Fence.wide.inRound l) n P a K Q r := by
 cases r with
 | ok x w' =>
  cases x <;> simp only [Oper.upon, Oper.uponIn] at h ⊢ <;>
   first
    | exact h
    | exact ⟨fun h => by simp [Fence.wide, Fence.inRound] at h, CallsIn.inRound l (callsIn_wide.2 h)⟩
    | exact ⟨fun h => by simp [Fence.wide, Fence.inRound] at h, rows_wide h⟩
 | halt x w' => cases x <;> simp only [Oper.upon, Oper.uponIn] at h ⊢ <;> exact h
theorem wpOp_in (hno : ¬ LetsOut Q) {i : Nat} {a : Act} {w : World} {K K' : Act → World → Prop} (hd : ∀ o, ops[i]? = some o → ∀ c, o.op ≠ .defer c) (hK : ∀ a w, K a w → K' a w) (h : wpOp P ops Q i K a w) : wpOpIn (Fence.wide.inRound l) n P ops Q i K' a w := by
 have h := wpOp_mono hK h
 unfold wpOp at h
 unfold wpOpIn
 split
 ·rename_i ho
  simpa [ho] using h
 ·rename_i o ho
  simp only [ho] at h
  split
  ·rename_i hw
   rw [if_pos hw] at h
   refine ⟨fun _ _ => trivial, ?_⟩
   have e : o.semAt (Fence.wide.inRound l).round a.eval = execOp a.eval o := Oper.semAt_some l a.eval o (hd o ho)
   rw [e]
   exact upon_in (h.resolve_right fun h => hno h.2)
  ·rename_i hw
   rw [if_neg hw] at h
   exact ⟨fun _ _ => trivial, h⟩
theorem wpAny_in (hno : ¬ LetsOut Q) (hd : ∀ (i : Nat) (o : Oper), ops[i]? = some o → ∀ c, o.op ≠ .defer c) {md : Region.Mode} : ∀ (fuel : Nat) (listed : Array Bool) (a : Act) (w : World), wpAny P md ops Q fuel listed a w → wpAnyIn (Fence.wide.inRound l) n P md ops Q fuel listed a w
 | 0, _, _, _, h => h
 | fuel + 1, _, _, _, h => ⟨h.1, fun i hi => wpOp_in hno (hd i) (fun a' w' h' => wpAny_in hno hd fuel _ a' w' h') (h.2 i hi)⟩
def noDefer (ops : Array Oper) : Bool := ops.toList.all fun o => match o.op with | .defer _ => false | _ => true
theorem wpIn_region_round {id : Nat} {a : Act} {w : World} (hno : ¬ LetsOut Q) (hd : noDefer ops = true) (hm : P.follows .mixedOrders = true) (hS : S w.drew)
  (h : S w.drew → wpAnyH P .any ops Q S ops.size (Array.replicate ops.size false) a w.drew) : (Code.region id ops true).wpIn (Fence.wide.inRound l) n P Q a w := by
 refine wpIn_region_any hm (wpAny_in hno (fun i o hi c e => ?_) _ _ _ _ (wpAny_of_held _ _ _ _ (h hS)))
 have h1 : o ∈ ops.toList := by
  rw [Array.mem_toList_iff]
  exact Array.mem_of_getElem? hi
 have h2 := List.all_eq_true.1 hd o h1
 rw [e] at h2
 cases h2
end
end Go.Proofs.YtgdedgfohjplmaaGreat.Jnl
namespace Go.Proofs.YtgdedgfohjplmaaGreat.Jnl
open Go.RowKit Go.Maps Sec
structure Jn where
 area : Nat
 gen : Nat
 op : Nat
 first : Nat
 size : Nat
 st : List UInt8
 recs : List (List UInt8)
 used : Nat
def JC (d : Nat) (J : Jn) (sv rv : Value) : Array Value := #[.pointer (some ⟨d, 0, none⟩), .int .i64 (J.area : Int), .int .i64 (J.gen : Int), .int .i64 (J.op : Int), .int .i64 (J.first : Int), .int .i64 (J.size : Int), sv, rv, .int .i64 (J.used : Int), .int .i64 0]
def JBlk (w : World) (jb d : Nat) (J : Jn) (sv rv : Value) : Prop := w.heap[jb]? = some (.cells (JC d J sv rv) 50)
def parts (n : Nat) : Nat := max 1 ((n + 101) / 102)
section
variable {w w' : World} {jb d : Nat} {J : Jn} {sv rv : Value}
theorem JBlk.cell (h : JBlk w jb d J sv rv) (j : Nat) : w.cell? ⟨jb, j, none⟩ = (JC d J sv rv)[j]? := cell_blk h j
theorem JBlk.free (h : JBlk w jb d J sv rv) (j : Nat) : w.frozen? ⟨jb, j, none⟩ = false := frozen_blk h j
theorem JBlk.lt (h : JBlk w jb d J sv rv) : jb < w.heap.size := (Array.getElem?_eq_some_iff.1 h).1
theorem JBlk.grown (h : JBlk w jb d J sv rv) (hg : w.grownBy w' none) : JBlk w' jb d J sv rv := (hg.block jb h.lt (by simp)).trans h
theorem JBlk.off {T : Nat → Prop} (h : JBlk w jb d J sv rv) (ho : Off T w w') (hT : ¬ T jb) : JBlk w' jb d J sv rv := (ho.block jb h.lt hT).trans h
theorem drew_then (h : w.drew.grownBy w' none) : w.grownBy w' none := ⟨h.os, h.tape, h.output, h.size, fun k hk hn => h.block k hk hn⟩
end
theorem count_at (n : Nat) (hn : n < 1000000000000) (w : World) :
  Calls Tryz.prog 31 #[.int .i64 (n : Int)] w fun e w' => e = .returned (.int .i64 (parts n : Int)) ∧ w' = w := by
 obtain ⟨m, hm⟩ : ∃ m : Int, m = ((parts n : Nat) : Int) := ⟨_, rfl⟩
 have hmx : ∀ (w : World) (ts : Array TypeId) (t : TypeId), (Builtin.max_ ts t #[.int .i64 1, .int .i64 (((n : Int) + 102 - 1) / 102)]).run Tryz.prog w = .ok (.int .i64 m) w := fun w ts t => by
  rw [run_max_int2]
  congr 2
  rw [hm]
  unfold parts
  split <;> omega
 have hmx2 : ∀ (w : World) (ts : Array TypeId) (t : TypeId), (Builtin.max_ ts t #[.int .i64 1, .int .i64 (((n : Int) + 101) / 102)]).run Tryz.prog w = .ok (.int .i64 m) w := fun w ts t => by
  have := hmx w ts t
  rwa [show (n : Int) + 102 - 1 = (n : Int) + 101 by omega] at this
 rw [← hm]
 clear hm
 go_enter Tryz.func31, Tryz.ntmps31
 go_wp2
 go_ret
 exact ⟨rfl, rfl⟩
theorem half_at (Sd : Nat → Prop) (d : Nat) (D : Dsk) (jb : Nat) (J : Jn) (sv rv : Value) (w : World) (h : DiskAt w Sd d D) (hj : JBlk w jb d J sv rv) :
  Calls Tryz.prog 29 #[.pointer (some ⟨jb, 0, none⟩)] w fun e w' => e = .returned (.int .i64 ((D.n / 2 : Nat) : Int)) ∧ w' = w := by
 have c0 : w.cell? ⟨jb, 0, none⟩ = some (.pointer (some ⟨d, 0, none⟩)) := hj.cell 0
 have HD := Lib.hid h
 have hn := h.1
 clear h hj
 go_enter Tryz.func29, Tryz.ntmps29
 go_wp2_with fail
 refine (sectors_at Sd d D w HD.out).mono ?_
 rintro e w2 ⟨rfl, hw2⟩
 subst hw2
 go_wp2_with fail
 go_ret
 exact ⟨rfl, rfl⟩
theorem sector_at (Sd : Nat → Prop) (d : Nat) (D : Dsk) (jb : Nat) (J : Jn) (sv rv : Value) (i : Nat) (w : World) (h : DiskAt w Sd d D) (hj : JBlk w jb d J sv rv) (hi : J.area * (D.n / 2) + i < D.n) (ho : D.off = false) :
  Calls Tryz.prog 24 #[.pointer (some ⟨jb, 0, none⟩), .int .i64 (i : Int)] w fun e w' => ∃ g, e = .returned (.slice (some ⟨g, 0, none⟩) 128 128) ∧ w.heap.size ≤ g ∧ g < w'.heap.size ∧ w'.rangeAt g 0 (u8s (D.now (J.area * (D.n / 2) + i))) ∧ w.grownBy w' none := by
 have HC0 : Hid (w.drew.cell? ⟨jb, 0, none⟩ = some (Value.pointer (some ⟨d, 0, none⟩)) ∧ w.drew.cell? ⟨jb, 1, none⟩ = some (Value.int .i64 (J.area : Int))) := ⟨hj.cell 0, hj.cell 1⟩
 have HD1 : Hid (DiskAt w.drew Sd d D) := h.grown ⟨rfl, rfl, rfl, Nat.le_refl _, fun _ _ _ => rfl⟩
 have HB1 : Hid (JBlk w.drew jb d J sv rv) := hj
 have HLT := Lib.hid hi
 have HOFF := Lib.hid ho
 have HN := Lib.hid h.1
 have HM3 : Hid ((J.area : Int) * ((D.n : Int) / 2) + (i : Int) = ((J.area * (D.n / 2) + i : Nat) : Int)) := by
  show _ = _
  rw [Int.natCast_add, Int.natCast_mul, Int.natCast_ediv]
  rfl
 have HM1 : Hid (IntKind.i64.wrap ((J.area : Int) * ((D.n : Int) / 2)) = (J.area : Int) * ((D.n : Int) / 2)) := by
  show _ = _
  have h1 := HM3.out
  have h2 := HLT.out
  have h3 := HN.out
  generalize hx : (J.area : Int) * ((D.n : Int) / 2) = x at h1 ⊢
  have h4 : (0 : Int) ≤ x := by rw [← hx]; exact Int.mul_nonneg (by omega) (by omega)
  rw [IntKind.wrap_i64]
  omega
 have HM2 : Hid (IntKind.i64.wrap ((J.area : Int) * ((D.n : Int) / 2) + (i : Int)) = (J.area : Int) * ((D.n : Int) / 2) + (i : Int)) := by
  show _ = _
  rw [HM3.out, IntKind.wrap_i64]
  have h2 := HLT.out
  have h3 := HN.out
  omega
 clear h hj hi ho
 go_enter Tryz.func24, Tryz.ntmps24
 go_wp2_with fail
 refine wp_region_noPanic ?_
 refine wp_region_held_drew (S := fun w' => w'.cell? ⟨jb, 0, none⟩ = some (Value.pointer (some ⟨d, 0, none⟩)) ∧ w'.cell? ⟨jb, 1, none⟩ = some (Value.int .i64 (J.area : Int))) (by kernel_rfl) ?hSa (fun hHeld => ?_)
 case hSa => exact HC0.out
 refine ztk 0 rfl ?_
 refine ztk 1 rfl ?_
 refine ztk 2 rfl ?_
 refine ztk 3 rfl ?_
 refine ztk 4 rfl ?_
 refine ztk 5 rfl ?_
 refine ztk 6 rfl ?_
 refine ztk 7 rfl ?_
 refine ztk 8 rfl ?_
 refine ztk 11 rfl ?_
 refine zrd 9 rfl (fun K hK => ?_)
 go_simp
 refine (half_at Sd d D jb J sv rv w.drew HD1.out HB1.out).mono ?_
 rintro e w2 ⟨rfl, hw2⟩
 have hw2 := hw2.symm
 subst hw2
 go_wp2_with fail
 refine hK.out _ _ ?q (fun hHeld => ?_)
 case q => (try dsimp only); exact HC0.out
 clear hK K
 try simp only [zpt]
 refine ztk 10 rfl ?_ (v := Value.int .i64 ((J.area : Int) * ((D.n : Int) / 2))) (hy := ?hya10)
 case hya10 => (intro wS hSw; (try dsimp only at hSw); go_simp; rw [HM1.out])
 refine ztk 12 rfl ?_ (v := Value.int .i64 ((J.area : Int) * ((D.n : Int) / 2) + (i : Int))) (hy := ?hya12)
 case hya12 => (intro wS hSw; (try dsimp only at hSw); go_simp; rw [HM2.out])
 refine zrd 13 rfl (fun K hK => ?_)
 go_simp
 rw [HM3.out]
 refine (read_told Sd d (J.area * (D.n / 2) + i) D w.drew HD1.out HLT.out HOFF.out).mono ?_
 rintro e w2 ⟨rfl, hl2, hr2, hs2, hg2, hd2⟩
 have HR2 := Lib.hid hr2
 have HS2 := Lib.hid hs2
 have HG2 := Lib.hid hg2
 clear hl2 hr2 hs2 hg2 hd2
 go_wp2_with fail
 refine hK.out _ _ ?q (fun hHeld => ?_)
 case q => (try dsimp only); exact ⟨HG2.out.cell HC0.out.1 (by simp), HG2.out.cell HC0.out.2 (by simp)⟩
 clear hK K
 try simp only [zpt]
 refine ztk 14 rfl ?_
 refine ztk 15 rfl ?_
 refine ztk 16 rfl ?_
 refine ztk 17 rfl ?_
 refine ztk 18 rfl ?_
 refine wpAnyH_done (by kernel_rfl) ?_ _
 refine NoPanic.normal ?_
 clear hHeld
 go_wp2_with fail
 go_ret
 exact ⟨_, rfl, Nat.le_refl _, by have := HS2.out; show w.heap.size < _; rw [this]; exact Nat.lt_succ_self _, HR2.out, drew_then HG2.out⟩
theorem pad_full {l : List UInt8} (h : l.length = 128) : pad l = l := by simp [pad, h]
theorem wrote_live (D : Dsk) {i : Nat} {l : List UInt8} (ho : D.off = false) (ha : D.armed = none) (hi : i < D.n) (hl : l.length = 128) : wrote D (i : Int) l = (0, D.push i l) := by
 unfold Sec.wrote
 have hask : askedN D (i : Int) = 0 := by
  unfold askedN
  rw [if_neg (by rw [ho]; decide), if_neg (by omega)]
 rw [if_neg (by simpa using hask), if_neg (by omega), ha, pad_full hl]
 simp
section
variable {w w' y w2 w3 : World} {jb d : Nat} {J : Jn} {sv rv : Value} {Sd : Nat → Prop} {D : Dsk}
theorem seal_off (hb : Below y.drew.heap.size y.drew w2) (ho : Off (Beside Sd y.drew.heap.size w2.heap.size) w2 w3) : Off Sd y w3 := by
 have h1 : Off Sd y w2 := ⟨hb.os, hb.tape, hb.output, hb.size, fun k hk _ => hb.block k hk⟩
 refine ⟨ho.os.trans h1.os, ho.tape.trans h1.tape, ho.output.trans h1.output, Nat.le_trans h1.size ho.size, fun k hk hs => ?_⟩
 refine (ho.block k (Nat.lt_of_lt_of_le hk h1.size) ?_).trans (h1.block k hk hs)
 rintro (⟨h, _⟩ | h)
 ·exact hs h
 ·have := hb.size
  have h2 : y.heap.size ≤ w2.heap.size := this
  omega
end
theorem mul_wrap {a N : Nat} (h : a * (N / 2) < N) (hN : N ≤ 16384) : IntKind.i64.wrap ((a : Int) * ((N : Int) / 2)) = (a : Int) * ((N : Int) / 2) := by
 have h1 : (a : Int) * ((N : Int) / 2) = ((a * (N / 2) : Nat) : Int) := by
  rw [Int.natCast_mul, Int.natCast_ediv]
  rfl
 rw [h1, IntKind.wrap_i64]
 omega
end Go.Proofs.YtgdedgfohjplmaaGreat.Jnl
namespace Go.Proofs.YtgdedgfohjplmaaGreat.Jnl
open Go
section
variable {P : Program} {ops : Array Oper} {Q : Exit → Act → World → Prop} {S : World → Prop} {n : Nat} {md : Region.Mode}
abbrev opW (n : Nat) (P : Program) (ops : Array Oper) (Q : Exit → Act → World → Prop) := wpOpIn Fence.wide n P ops Q
theorem yields_opW {i : Nat} {o : Oper} {v : Value} {a : Act} (hi : ops[i]? = some o) (hy : YieldsIf P ops S o v a) {K : Act → World → Prop} {w : World} (hS : S w) (h : K (a.put o.dst v) w) : opW n P ops Q i K a w := by
 unfold opW wpOpIn
 rw [hi]
 rcases hy with ⟨hw, hv⟩ | ⟨hw, rfl⟩
 ·dsimp only
  rw [if_pos hw]
  refine ⟨fun _ _ => trivial, ?_⟩
  rw [show Fence.wide.round = none from rfl, Oper.semAt_none, hv w hS]
  exact h
 ·dsimp only
  rw [if_neg (by rw [hw]; decide)]
  exact ⟨fun _ _ => trivial, h⟩
theorem opW_put {Y : Act → Prop} {j : Nat} {oi oj : Oper} {v : Value} {K : Act → World → Prop} {a : Act} {w : World} (hj : ops[j]? = some oj) (hap : oi.apart ops oj = true) (hsj : ∀ cs b, oj.op ≠ .select cs b)
  (hQ : ∀ c a w, Q (.panic c) (a.put oi.dst v) w → Q (.panic c) a w) (hk : ∀ u, Y (a.put oj.dst u)) (hkd : ∀ d u, Y (({ a with defers := d :: a.defers } : Act).put oj.dst u))
  (h : opW n P ops Q j K (a.put oi.dst v) w) : opW n P ops Q j (fun a' w' => Y a' ∧ K (a'.put oi.dst v) w') a w := by
 obtain ⟨h1, h2, _⟩ := Oper.apart_spec hap
 unfold opW wpOpIn at h ⊢
 rw [hj] at h ⊢
 dsimp only at h ⊢
 rw [wanted_put oj a oi.dst v h1] at h
 by_cases hw : Region.wanted oj (yielded ops a.tmps) = true
 ·rw [if_pos hw] at h ⊢
  refine ⟨fun _ _ => trivial, ?_⟩
  have h := h.2
  rw [show Fence.wide.round = none from rfl, Oper.semAt_none] at h ⊢
  rw [execOp_put oj hsj a oi.dst v h1] at h
  generalize (execOp a.eval oj).run P w = r at h ⊢
  cases r with
  | halt x w' =>
   cases x <;> simp only [Oper.uponIn] at h ⊢
   exact hQ _ _ _ h
  | ok x w' =>
   cases x with
   | value u => exact ⟨hk u, (Act.put_comm a v u h2) ▸ h⟩
   | skip => exact ⟨hk _, (Act.put_comm a v undef h2) ▸ h⟩
   | defer d =>
    refine ⟨hkd d _, ?_⟩
    show K _ _
    rw [← Act.put_comm _ v undef h2, ← Act.put_defers]
    exact h
   | enter f args =>
    refine ⟨h.1, CallsIn.mono h.2 fun e w'' he => ?_⟩
    cases e with
    | returned u => exact ⟨hk u, (Act.put_comm a v u h2) ▸ he⟩
    | panicked c => exact hQ _ _ _ he
    | outgrown => exact he
   | row row args => exact ⟨h.1, RowsIn.mono h.2 fun u w'' he => ⟨hk u, (Act.put_comm a v u h2) ▸ he⟩⟩
   | round l f tmps assign body =>
    refine ⟨h.1, RoundIn.mono h.2 fun e w'' he => ?_⟩
    cases e with
    | returned u => exact ⟨hk u, (Act.put_comm a v u h2) ▸ he⟩
    | panicked c => exact hQ _ _ _ he
    | outgrown => exact he
   | _ => exact h.elim
 ·rw [if_neg hw] at h ⊢
  exact ⟨fun _ _ => trivial, hk _, (Act.put_comm a v undef h2) ▸ h.2⟩
def Closed (md : Region.Mode) (ops : Array Oper) (listed : Array Bool) : Prop := listed.size = ops.size ∧ ∀ j oj, ops[j]? = some oj → listed.getD j false = true → ∀ e ∈ oj.after, Region.binds md e = true → listed.getD e.on false = true
theorem closed_start (md : Region.Mode) (ops : Array Oper) : Closed md ops (Array.replicate ops.size false) := ⟨by simp, fun j oj _ h => by
 simp [Array.getD_eq_getD_getElem?, Array.getElem?_replicate] at h
 split at h <;> cases h⟩
theorem closed_set {listed : Array Bool} {i : Nat} (h : Closed md ops listed) (hi : i ∈ Region.ready md ops listed) : Closed md ops (listed.setIfInBounds i true) := ⟨by simpa using h.1, fun j oj hj hl e he hb => by
 by_cases hji : i = j
 ·obtain ⟨_, o, ho, hall⟩ := mem_ready.1 hi
  rw [hji, hj] at ho
  cases ho
  exact getD_set_true (hall e he hb)
 ·rw [getD_set_ne false hji] at hl
  exact getD_set_true (h.2 j oj hj hl e he hb)⟩
def Waits (md : Region.Mode) (ops : Array Oper) (z i : Nat) : Prop := ∀ listed, Closed md ops listed → listed.getD i true = false → z ∉ Region.ready md ops listed
def depB (md : Region.Mode) (ops : Array Oper) (j i : Nat) : Bool := match ops[j]? with | some o => o.after.toList.any fun e => Region.binds md e && e.on == i | none => false
theorem depB_spec {j i : Nat} (h : depB md ops j i = true) : ∃ o, ops[j]? = some o ∧ ∃ e ∈ o.after, Region.binds md e = true ∧ e.on = i := by
 unfold depB at h
 split at h
 ·rename_i o ho
  obtain ⟨e, he, h⟩ := List.any_eq_true.1 h
  rw [Bool.and_eq_true, beq_iff_eq] at h
  exact ⟨o, ho, e, Array.mem_toList_iff.1 he, h⟩
 ·cases h
theorem unlisted {listed : Array Bool} {i : Nat} (h : listed.getD i true = false) : listed.getD i false = false := by
 rcases Nat.lt_or_ge i listed.size with h' | h'
 ·simpa [h'] using h
 ·simp [Array.getElem?_eq_none h'] at h
theorem waits_direct {z i : Nat} (h : depB md ops z i = true) : Waits md ops z i := fun listed _ hi hz => by
 obtain ⟨o, ho, e, he, hb, heq⟩ := depB_spec h
 obtain ⟨_, o', ho', hall⟩ := mem_ready.1 hz
 rw [ho] at ho'
 cases ho'
 have := hall e he hb
 rw [heq, unlisted hi] at this
 cases this
theorem waits_step {z i : Nat} (j : Nat) (hj : Waits md ops z j) (h : depB md ops j i = true) : Waits md ops z i := fun listed hc hi hz => by
 obtain ⟨o, ho, e, he, hb, heq⟩ := depB_spec h
 by_cases hlj : listed.getD j true = false
 ·exact hj listed hc hlj hz
 ·have hi' := unlisted hi
  have h' : j < listed.size := by rw [hc.1]; exact (Array.getElem?_eq_some_iff.1 ho).1
  have h1 : listed.getD j false = true := by
   simp [h'] at hlj ⊢
   exact hlj
  have := hc.2 j o ho h1 e he hb
  rw [heq, hi'] at this
  cases this
def anyU (z n : Nat) (P : Program) (md : Region.Mode) (ops : Array Oper) (Q : Exit → Act → World → Prop) (S : World → Prop) : Nat → Array Bool → Act → World → Prop
 | 0, _, _, _ => False
 | fuel + 1, listed, a, w => (Region.ready md ops listed = [z] ∧ wpAnyIn Fence.wide n P md ops Q (fuel + 1) listed a w) ∨
   ((Region.ready md ops listed = [] → Q .normal a w) ∧ z ∉ Region.ready md ops listed ∧ ∀ i ∈ Region.ready md ops listed, opW n P ops Q i (fun a' w' => S w' ∧ anyU z n P md ops Q S fuel (listed.setIfInBounds i true) a' w') a w)
theorem anyU_in {z : Nat} : ∀ (fuel : Nat) (listed : Array Bool) (a : Act) (w : World), anyU z n P md ops Q S fuel listed a w → wpAnyIn Fence.wide n P md ops Q fuel listed a w
 | 0, _, _, _, h => h.elim
 | _ + 1, _, _, _, .inl h => h.2
 | fuel + 1, _, _, _, .inr h => ⟨h.1, fun i hi => wpOpIn_mono (fun a' w' h' => anyU_in fuel _ a' w' h'.2) (h.2.2 i hi)⟩
theorem anyU_first {z i : Nat} {oi : Oper} {v : Value} (hwz : Waits md ops z i) (hi : ops[i]? = some oi) (hsel : ∀ (j : Nat) (o : Oper) cs b, ops[j]? = some o → o.op ≠ .select cs b) (hQ : ∀ c a w, Q (.panic c) (a.put oi.dst v) w → Q (.panic c) a w) :
  ∀ (fuel : Nat) (listed : Array Bool) (a : Act) (w : World), Closed md ops listed → (∀ j oj, ops[j]? = some oj → j ≠ i → listed.getD j true = false → (∀ e ∈ oj.after, Region.binds md e = true → e.on ≠ i) → oi.apart ops oj = true) →
   i ∈ Region.ready md ops listed → YieldsIf P ops S oi v a → S w → anyU z n P md ops Q S fuel (listed.setIfInBounds i true) (a.put oi.dst v) w → anyU z n P md ops Q S (fuel + 1) listed a w := by
 intro fuel
 induction fuel with
 | zero => exact fun _ _ _ _ _ _ _ _ H => H.elim
 | succ fuel ih =>
  intro listed a w hcl hfree hr hy hS H
  have hz := hwz listed hcl (mem_ready.1 hr).1
  refine .inr ⟨fun h => absurd hr (by rw [h]; simp), hz, fun j hj => ?_⟩
  by_cases hji : j = i
  ·rw [hji]
   exact yields_opW hi hy hS ⟨hS, H⟩
  ·rcases id H with ⟨hrz, _⟩ | ⟨_, _, H2⟩
   ·have := ready_mono hj hji
    rw [hrz, List.mem_singleton] at this
    exact absurd (this ▸ hj) hz
   ·obtain ⟨hjun, oj, hoj, hall⟩ := mem_ready.1 hj
    have hnot : ∀ e ∈ oj.after, Region.binds md e = true → e.on ≠ i := fun e he hb heq => by
     have g1 := hall e he hb
     rw [heq, unlisted (mem_ready.1 hr).1] at g1
     cases g1
    have hap := hfree j oj hoj hji hjun hnot
    obtain ⟨_, _, h3⟩ := Oper.apart_spec hap
    have hk : ∀ b : Act, YieldsIf P ops S oi v b → ∀ u, YieldsIf P ops S oi v (b.put oj.dst u) := fun b hb u => hb.of_same (execOp_put oi (fun cs b => hsel i oi cs b hi) b oj.dst u h3) (wanted_put oi b oj.dst u h3)
    have h2 := opW_put (Y := fun a' => YieldsIf P ops S oi v a') hoj hap (fun cs b => hsel j oj cs b hoj) hQ (hk a hy) (fun d u => hk { a with defers := d :: a.defers } (hy.of_same rfl rfl) u) (H2 j (ready_mono hj hji))
    refine wpOpIn_mono (fun a' w' h3 => ⟨h3.2.1, ih (listed.setIfInBounds j true) a' w' (closed_set hcl hj) (fun k ok hkk hki hun hno => ?_) (ready_mono hr (Ne.symm hji)) h3.1 h3.2.1 ?_⟩) h2
    ·refine hfree k ok hkk hki ?_ hno
     by_cases hjk : j = k
     ·rw [← hjk]
      exact hjun
     ·rw [getD_set_ne true hjk] at hun
      exact hun
    ·rw [Array.setIfInBounds_comm _ _ hji]
     exact h3.2.2
theorem anyU_take {z i : Nat} {oi : Oper} {v : Value} {fuel : Nat} {listed : Array Bool} {a : Act} {w : World} (hcl : Closed md ops listed) (hwz : Waits md ops z i) (hi : ops[i]? = some oi) (hs : Region.noSelect ops = true) (hf : Region.free md ops listed i = true) (hr : (Region.ready md ops listed).contains i = true)
  (hQ : ∀ c a w, Q (.panic c) (a.put oi.dst v) w → Q (.panic c) a w) (hy : YieldsIf P ops S oi v a) (hS : S w) (h : Closed md ops (listed.setIfInBounds i true) → anyU z n P md ops Q S fuel (listed.setIfInBounds i true) (a.put oi.dst v) w) : anyU z n P md ops Q S (fuel + 1) listed a w :=
 have hr' : i ∈ Region.ready md ops listed := by simpa using hr
 anyU_first hwz hi (Region.noSelect_spec hs) hQ fuel listed a w hcl (Region.free_spec hi hf) hr' hy hS (h (closed_set hcl hr'))
theorem anyU_stop {z : Nat} {fuel : Nat} {listed : Array Bool} {a : Act} {w : World} (hr : Region.ready md ops listed = [z]) (h : wpAnyIn Fence.wide n P md ops Q (fuel + 1) listed a w) : anyU z n P md ops Q S (fuel + 1) listed a w := .inl ⟨hr, h⟩
theorem wpIn_region_until {z : Nat} {id : Nat} {a : Act} {w : World} (hm : P.follows .mixedOrders = true) (hS : S w.drew) (h : S w.drew → Closed .any ops (Array.replicate ops.size false) → anyU z n P .any ops Q S ops.size (Array.replicate ops.size false) a w.drew) : (Code.region id ops true).wpIn Fence.wide n P Q a w :=
 wpIn_region_any hm (anyU_in _ _ _ _ (h hS (closed_start _ _)))
end
theorem zau {P : Program} {ops : Array Oper} {Q : Exit → Act → World → Prop} {S : World → Prop} {n : Nat} {md : Region.Mode} {z fuel : Nat} {listed : Array Bool} {a a' : Act} {w : World} {d : Option Tmp} {op : Op} {ty : TypeId} {ps : String} {af : Array Edge} {gd : Option (Nat × Bool)} {v : Value} (i : Nat) (hwz : Waits md ops z i) (hi : ops[i]? = some ⟨d, op, ty, ps, af, gd⟩) (h : Closed md ops (listed.setIfInBounds i true) → anyU z n P md ops Q S fuel (listed.setIfInBounds i true) a' w) (hcl : Closed md ops listed := by assumption) (hs : Region.noSelect ops = true := by kernel_rfl) (hf : Region.free md ops listed i = true := by kernel_rfl) (hr : (Region.ready md ops listed).contains i = true := by kernel_rfl)
  (hw : Region.wanted ⟨d, op, ty, ps, af, gd⟩ (yielded ops a.tmps) = true := by rfl) (hS : S w := by assumption) (hy : ∀ w, S w → (execOp a.eval ⟨d, op, ty, ps, af, gd⟩).run P w = .ok (.value v) w := by (intro wS hSw; (try dsimp only at hSw); go_simp; (first | done | with_reducible rfl)))
  (hQ : ∀ c a w, Q (.panic c) (a.put d v) w → Q (.panic c) a w := by exact fun _ _ _ h => h) (ha : a.put d v = a' := by ((try simp only [zpt]); rfl)) : anyU z n P md ops Q S (fuel + 1) listed a w := by
 subst ha
 exact anyU_take hcl hwz hi hs hf hr hQ (.inl ⟨hw, hy⟩) hS h
end Go.Proofs.YtgdedgfohjplmaaGreat.Jnl
namespace Go.Proofs.YtgdedgfohjplmaaGreat.Jnl
open Go.RowKit Go.Maps Go.Shelf Sec
attribute [local go_sem] Oper.semAt_some
def chunk (l : List UInt8) (i : Nat) : List UInt8 := (l.drop (i * 102)).take 102
def pslice (A : Option Addr) (cap : Nat) (l : List UInt8) (i : Nat) : Value := match A with
 | none => .slice none 0 0
 | some p => if cap = 0 then .slice (some p) 0 0 else .slice (some ⟨p.block, p.off + i * 102, none⟩) (chunk l i).length (cap - i * 102)
abbrev pencs (c : UInt8) (s k n : Nat) (A : Option Addr) (cap : Nat) (l : List UInt8) (i : Nat) : Array Value := #[.agg #[.int .u8 (c.toNat : Int), .int .i64 (s : Int), .int .i64 (k : Int), .int .i64 (i : Int), .int .i64 (n : Int), pslice A cap l i]]
def upto (k : Nat) : List Nat := List.range k
theorem upto_succ (k : Nat) : upto (k + 1) = upto k ++ [k] := by simp [upto, List.range_succ]
theorem upto_length (k : Nat) : (upto k).length = k := by simp [upto]
theorem parts_one (n : Nat) : 1 ≤ parts n := by unfold parts; omega
theorem parts_in {n i : Nat} (h : i < parts n) : i * 102 ≤ n := by unfold parts at h; omega
theorem parts_le (n : Nat) : parts n ≤ n + 1 := by unfold parts; omega
theorem chunk_length (l : List UInt8) (i : Nat) : (chunk l i).length = min l.length ((i + 1) * 102) - i * 102 := by
 simp [chunk]
 omega
def Keep4 (Bb Bt Bs Bk : Nat) (W W' : World) : Prop := W'.heap[Bb]? = W.heap[Bb]? ∧ W'.heap[Bt]? = W.heap[Bt]? ∧ W'.heap[Bs]? = W.heap[Bs]? ∧ W'.heap[Bk]? = W.heap[Bk]?
section
variable {Bb Bt Bs Bk : Nat}
theorem keep4_refl (W : World) : Keep4 Bb Bt Bs Bk W W := ⟨rfl, rfl, rfl, rfl⟩
theorem keep4_t {A B C : World} (h : Keep4 Bb Bt Bs Bk A B) (k : Keep4 Bb Bt Bs Bk B C) : Keep4 Bb Bt Bs Bk A C := ⟨k.1.trans h.1, k.2.1.trans h.2.1, k.2.2.1.trans h.2.2.1, k.2.2.2.trans h.2.2.2⟩
theorem keep4_b {w : World} (h : Bb < w.heap.size ∧ Bt < w.heap.size ∧ Bs < w.heap.size ∧ Bk < w.heap.size) (W : World) (l : Nat) (o o' : Obj) (hl : w.heap.size ≤ l) (hw : W.heap[l]? = some o) (_ : o.isCells = false) (_ : o.isWalk = false) : Keep4 Bb Bt Bs Bk W (W.putObj l o') := by
 have hlt := (Array.getElem?_eq_some_iff.1 hw).1
 have k : ∀ x, x < w.heap.size → (W.putObj l o').heap[x]? = W.heap[x]? := fun x hx => (grownBy_putObj' W l o').block x (by omega) (fun e => by injection e with e; omega)
 exact ⟨k _ h.1, k _ h.2.1, k _ h.2.2.1, k _ h.2.2.2⟩
def Box4 (W : World) (Bb Bt Bs Bk : Nat) (A : Option Addr) (n cap : Nat) (c : UInt8) (s k : Nat) : Prop :=
 W.cell? ⟨Bb, 0, none⟩ = some (.slice A n cap) ∧ W.cell? ⟨Bt, 0, none⟩ = some (Value.int .u8 (c.toNat : Int)) ∧ W.cell? ⟨Bs, 0, none⟩ = some (Value.int .i64 (s : Int)) ∧ W.cell? ⟨Bk, 0, none⟩ = some (Value.int .i64 (k : Int))
theorem Box4.keep {W W' : World} {A : Option Addr} {n cap : Nat} {c : UInt8} {s k : Nat} (h : Box4 W Bb Bt Bs Bk A n cap c s k) (hk : Keep4 Bb Bt Bs Bk W W') : Box4 W' Bb Bt Bs Bk A n cap c s k :=
 ⟨(World.cell?_of_block (w := W) (a := ⟨Bb, 0, none⟩) hk.1).trans h.1, (World.cell?_of_block (w := W) (a := ⟨Bt, 0, none⟩) hk.2.1).trans h.2.1, (World.cell?_of_block (w := W) (a := ⟨Bs, 0, none⟩) hk.2.2.1).trans h.2.2.1, (World.cell?_of_block (w := W) (a := ⟨Bk, 0, none⟩) hk.2.2.2).trans h.2.2.2⟩
end
theorem parts1_in (n : Nat) (hn : 1 ≤ n) (lp Bb Bt Bs Bk : Nat) (A : Option Addr) (l : List UInt8) (cap : Nat) (c : UInt8) (s k : Nat) (hl : l.length < 100000000) (hcap : l.length ≤ cap) (hcm : cap ≤ maxLen) (hA : (l = [] ∧ cap = 0) ∨ ∃ g off, A = some ⟨g, off, none⟩) (J Jx : List Nat → World → Prop)
  (hY : ∀ pre x W, J pre W → pre.length < parts l.length → x < parts l.length → YieldAt Fence.wide (n - 1) Tryz.prog lp (pencs c s k (parts l.length) A cap l x) W fun e W' =>
   (e = .returned (.bool true) ∧ J (pre ++ [x]) W' ∧ Keep4 Bb Bt Bs Bk W W') ∨ (e = .returned (.bool false) ∧ Jx (pre ++ [x]) W'))
  (hJd : ∀ pre W, J pre W → J pre W.drew)
  (W : World) (hB : Box4 W Bb Bt Bs Bk A l.length cap c s k) (h0 : J [] W) :
  CallsIn Fence.wide n Tryz.prog 88 #[.func (.yield lp) #[] #[], .pointer (some ⟨Bb, 0, none⟩), .pointer (some ⟨Bt, 0, none⟩), .pointer (some ⟨Bs, 0, none⟩), .pointer (some ⟨Bk, 0, none⟩)] W fun e W' => (∃ v, e = .returned v) ∧
   ((∃ ys, ys = upto (parts l.length) ∧ J ys W') ∨ (∃ pre, (∃ q, q ≤ parts l.length ∧ pre = upto q) ∧ Jx pre W')) := by
 have HBX := Lib.hid hB
 have HL := Lib.hid hl
 have HCAP := Lib.hid (And.intro hcap hcm)
 obtain ⟨c1, c2, c3, c4⟩ := hB
 clear hl hcap hcm
 refine callsIn_of_wp Tryz.func88 rfl trivial ?_ rfl
 simp only [Tryz.ntmps88, List.size_toArray, List.length_cons, List.length_nil, Nat.reduceAdd, Nat.reduceSub, Array.replicate_succ, Array.replicate_zero, List.push_toArray, List.append_toArray, List.nil_append, List.cons_append]
 gi_wp2_with (refine ⟨trivial, ?_⟩; gi_at_call 31; refine (callsIn_wide.2 (count_at l.length (by have := HL.out; omega) _)).mono ?_; rintro e w' ⟨rfl, rfl⟩)
 obtain ⟨M, hM⟩ : ∃ M, M = parts l.length := ⟨_, rfl⟩
 have HM := Lib.hid hM
 rw [← hM]
 clear hM c1 c2 c3 c4
 gi_loopw [12] (fun i wr => ∃ q : Nat, q ≤ M ∧ i = .int .i64 (q : Int) ∧ J (upto q) wr ∧ Keep4 Bb Bt Bs Bk w' wr) (fun i _ => M - (intOf i).toNat)
 case atStart => exact ⟨0, Nat.zero_le _, rfl, h0, keep4_refl _⟩
 case round =>
  obtain ⟨i, hi, rfl, hJs, hnx⟩ := hrel
  by_cases hlt : i < M
  ·have hd : decide ((i : Int) < (M : Int)) = true := by simp; omega
   have hd2 : decide (i < M) = true := by simpa using hlt
   obtain ⟨E, hE⟩ : ∃ E, E = min l.length ((i + 1) * 102) := ⟨_, rfl⟩
   have HMM : Hid (i < parts l.length) := by rw [← HM.out]; exact hlt
   have hmn : ∀ (w : World) (ts : Array TypeId) (t : TypeId), (Builtin.min_ ts t #[.int .i64 (l.length : Int), .int .i64 (((i : Int) + 1) * 102)]).run Tryz.prog w = .ok (.int .i64 (E : Int)) w := fun w ts t => by
    rw [run_min_int2]
    congr 2
    split <;> omega
   have HW1 : Hid (IntKind.i64.wrap ((i : Int) * 102) = (i : Int) * 102) := by show _ = _; have := HL.out; have := parts_in HMM.out; rw [IntKind.wrap_i64]; omega
   have HW2 : Hid (IntKind.i64.wrap ((i : Int) + 1) = (i : Int) + 1) := by show _ = _; have := HL.out; have := parts_in HMM.out; rw [IntKind.wrap_i64]; omega
   have HW3 : Hid (IntKind.i64.wrap (((i : Int) + 1) * 102) = ((i : Int) + 1) * 102) := by show _ = _; have := HL.out; have := parts_in HMM.out; rw [IntKind.wrap_i64]; omega
   have HWZ : Hid (wrap64 ((i : Int) + 1) = ((i + 1 : Nat) : Int)) := by show _ = _; have := HL.out; have := parts_le l.length; have := HMM.out; unfold wrap64; omega
   have HC : Hid (Box4 wr.drew Bb Bt Bs Bk A l.length cap c s k) := HBX.out.keep hnx
   have HJD := Lib.hid (hJd _ _ hJs)
   have HNX := Lib.hid hnx
   have HJS := Lib.hid hJs
   have HY := Lib.hid (hY (upto i) i wr.drew HJD.out (by rw [upto_length]; exact HMM.out) HMM.out)
   have i1 : (i : Int) * 102 ≤ (E : Int) := by have := parts_in HMM.out; omega
   have i2 : (E : Int) ≤ (cap : Int) := by have := HCAP.out.1; omega
   have i3 : (0 : Int) ≤ (i : Int) * 102 := by omega
   have HE := Lib.hid hE
   clear hnx hJs hE hY hJd
   gi_wp2
   have hA3 : (A = none ∧ l = [] ∧ cap = 0) ∨ (∃ x, A = some x ∧ l = [] ∧ cap = 0) ∨ ∃ g off, A = some ⟨g, off, none⟩ ∧ cap ≠ 0 := by
    by_cases h0 : cap = 0
    ·have hn0 : l = [] := by
      rcases hA with h | _
      ·exact h.1
      ·have h1 := HCAP.out.1
       have h2 := HE.out
       exact List.eq_nil_of_length_eq_zero (by omega)
     cases A with
     | none => exact .inl ⟨rfl, hn0, h0⟩
     | some x => exact .inr (.inl ⟨x, rfl, hn0, h0⟩)
    ·rcases hA with h | ⟨g, off, h⟩
     ·exact absurd h.2 h0
     ·exact .inr (.inr ⟨g, off, h, h0⟩)
   rcases hA3 with ⟨rfl, hnil, hcap0⟩ | ⟨x0, rfl, hnil, hcap0⟩ | ⟨g, off, rfl, hcapn⟩
   have HNIL := Lib.hid hnil
   have HC0 := Lib.hid hcap0
   clear hnil hcap0
   have HSL : Hid (E - ((i : Int) * 102).toNat = 0 ∧ cap - ((i : Int) * 102).toNat = 0) := by have h1 := HE.out; have h0 : l.length = 0 := (by rw [HNIL.out]; rfl); have h2 := HC0.out; exact ⟨by omega, by omega⟩
   refine wpIn_region_until (z := 17) (S := fun w' => w'.cell? ⟨Bb, 0, none⟩ = some (Value.slice none l.length cap) ∧ w'.cell? ⟨Bt, 0, none⟩ = some (Value.int .u8 (c.toNat : Int)) ∧ w'.cell? ⟨Bs, 0, none⟩ = some (Value.int .i64 (s : Int)) ∧ w'.cell? ⟨Bk, 0, none⟩ = some (Value.int .i64 (k : Int))) (by kernel_rfl) ?hSn (fun hHeld hCl => ?_)
   case hSn => exact HC.out
   refine zau 0 (waits_direct (by kernel_rfl)) rfl (fun hCl => ?_)
   refine zau 1 (waits_step 16 (waits_direct (by kernel_rfl)) (by kernel_rfl)) rfl (fun hCl => ?_)
   refine zau 2 (waits_step 16 (waits_direct (by kernel_rfl)) (by kernel_rfl)) rfl (fun hCl => ?_)
   refine zau 3 (waits_step 16 (waits_direct (by kernel_rfl)) (by kernel_rfl)) rfl (fun hCl => ?_)
   refine zau 4 (waits_step 16 (waits_direct (by kernel_rfl)) (by kernel_rfl)) rfl (fun hCl => ?_)
   refine zau 5 (waits_step 16 (waits_direct (by kernel_rfl)) (by kernel_rfl)) rfl (fun hCl => ?_)
   refine zau 6 (waits_step 15 (waits_step 16 (waits_direct (by kernel_rfl)) (by kernel_rfl)) (by kernel_rfl)) rfl (fun hCl => ?_)
   refine zau 7 (waits_step 8 (waits_step 15 (waits_step 16 (waits_direct (by kernel_rfl)) (by kernel_rfl)) (by kernel_rfl)) (by kernel_rfl)) rfl (fun hCl => ?_)
   refine anyU_take (i := 8) (oi := ⟨_, _, _, _, _, _⟩) (v := Value.int .i64 ((i : Int) * 102)) hCl (waits_step 15 (waits_step 16 (waits_direct (by kernel_rfl)) (by kernel_rfl)) (by kernel_rfl)) rfl (by kernel_rfl) (by kernel_rfl) (by kernel_rfl) (fun _ _ _ h => h) (Or.inl ⟨by rfl, ?hyn8⟩) hHeld ?_
   case hyn8 => (intro wS hSw; (try dsimp only at hSw); go_simp; rw [HW1.out])
   intro hCl2
   clear hCl
   have hCl := hCl2
   clear hCl2
   try simp only [zpt]
   refine zau 9 (waits_step 10 (waits_step 14 (waits_step 15 (waits_step 16 (waits_direct (by kernel_rfl)) (by kernel_rfl)) (by kernel_rfl)) (by kernel_rfl)) (by kernel_rfl)) rfl (fun hCl => ?_)
   refine zau 10 (waits_step 14 (waits_step 15 (waits_step 16 (waits_direct (by kernel_rfl)) (by kernel_rfl)) (by kernel_rfl)) (by kernel_rfl)) rfl (fun hCl => ?_)
   refine zau 11 (waits_step 12 (waits_step 13 (waits_step 14 (waits_step 15 (waits_step 16 (waits_direct (by kernel_rfl)) (by kernel_rfl)) (by kernel_rfl)) (by kernel_rfl)) (by kernel_rfl)) (by kernel_rfl)) rfl (fun hCl => ?_)
   refine anyU_take (i := 12) (oi := ⟨_, _, _, _, _, _⟩) (v := Value.int .i64 ((i : Int) + 1)) hCl (waits_step 13 (waits_step 14 (waits_step 15 (waits_step 16 (waits_direct (by kernel_rfl)) (by kernel_rfl)) (by kernel_rfl)) (by kernel_rfl)) (by kernel_rfl)) rfl (by kernel_rfl) (by kernel_rfl) (by kernel_rfl) (fun _ _ _ h => h) (Or.inl ⟨by rfl, ?hyn12⟩) hHeld ?_
   case hyn12 => (intro wS hSw; (try dsimp only at hSw); go_simp; rw [HW2.out])
   intro hCl2
   clear hCl
   have hCl := hCl2
   clear hCl2
   try simp only [zpt]
   refine anyU_take (i := 13) (oi := ⟨_, _, _, _, _, _⟩) (v := Value.int .i64 (((i : Int) + 1) * 102)) hCl (waits_step 14 (waits_step 15 (waits_step 16 (waits_direct (by kernel_rfl)) (by kernel_rfl)) (by kernel_rfl)) (by kernel_rfl)) rfl (by kernel_rfl) (by kernel_rfl) (by kernel_rfl) (fun _ _ _ h => h) (Or.inl ⟨by rfl, ?hyn13⟩) hHeld ?_
   case hyn13 => (intro wS hSw; (try dsimp only at hSw); go_simp; rw [HW3.out])
   intro hCl2
   clear hCl
   have hCl := hCl2
   clear hCl2
   try simp only [zpt]
   refine zau 14 (waits_step 15 (waits_step 16 (waits_direct (by kernel_rfl)) (by kernel_rfl)) (by kernel_rfl)) rfl (fun hCl => ?_)
   refine anyU_take (i := 15) (oi := ⟨_, _, _, _, _, _⟩) (v := Value.slice none 0 0) hCl (waits_step 16 (waits_direct (by kernel_rfl)) (by kernel_rfl)) rfl (by kernel_rfl) (by kernel_rfl) (by kernel_rfl) (fun _ _ _ h => h) (Or.inl ⟨by rfl, ?hyn15⟩) hHeld ?_
   case hyn15 => (intro wS hSw; (try dsimp only at hSw); go_simp; exact HSL.out)
   intro hCl2
   clear hCl
   have hCl := hCl2
   clear hCl2
   try simp only [zpt]
   refine zau 16 (waits_direct (by kernel_rfl)) rfl (fun hCl => ?_)
   refine anyU_stop (by kernel_rfl) ?_
   refine wpAnyIn_ready (rs := [17]) (by kernel_rfl) (by simp) ?_
   refine AllReadyIn.cons (o := ⟨_, _, _, _, _, _⟩) rfl (fun K hK => ?_) AllReadyIn.nil
   have hy' := HY.out
   simp only [pencs, pslice] at hy'
   rotate_left
   have HNIL := Lib.hid hnil
   have HC0 := Lib.hid hcap0
   clear hnil hcap0
   have HSL : Hid ((¬ cap = ((i : Int) * 102).toNat → x0.add ((i : Int) * 102).toNat = x0) ∧ E - ((i : Int) * 102).toNat = 0 ∧ cap - ((i : Int) * 102).toNat = 0) := by
    have h1 := HE.out
    have h0 : l.length = 0 := (by rw [HNIL.out]; rfl)
    have h2 := HC0.out
    have h4 : parts 0 = 1 := (by decide)
    have h5 := HMM.out
    rw [h0, h4] at h5
    have h3 : i = 0 := (by omega)
    refine ⟨fun h => absurd (by omega) h, by omega, by omega⟩
   refine wpIn_region_until (z := 17) (S := fun w' => w'.cell? ⟨Bb, 0, none⟩ = some (Value.slice (some x0) l.length cap) ∧ w'.cell? ⟨Bt, 0, none⟩ = some (Value.int .u8 (c.toNat : Int)) ∧ w'.cell? ⟨Bs, 0, none⟩ = some (Value.int .i64 (s : Int)) ∧ w'.cell? ⟨Bk, 0, none⟩ = some (Value.int .i64 (k : Int))) (by kernel_rfl) ?hSx (fun hHeld hCl => ?_)
   case hSx => exact HC.out
   refine zau 0 (waits_direct (by kernel_rfl)) rfl (fun hCl => ?_)
   refine zau 1 (waits_step 16 (waits_direct (by kernel_rfl)) (by kernel_rfl)) rfl (fun hCl => ?_)
   refine zau 2 (waits_step 16 (waits_direct (by kernel_rfl)) (by kernel_rfl)) rfl (fun hCl => ?_)
   refine zau 3 (waits_step 16 (waits_direct (by kernel_rfl)) (by kernel_rfl)) rfl (fun hCl => ?_)
   refine zau 4 (waits_step 16 (waits_direct (by kernel_rfl)) (by kernel_rfl)) rfl (fun hCl => ?_)
   refine zau 5 (waits_step 16 (waits_direct (by kernel_rfl)) (by kernel_rfl)) rfl (fun hCl => ?_)
   refine zau 6 (waits_step 15 (waits_step 16 (waits_direct (by kernel_rfl)) (by kernel_rfl)) (by kernel_rfl)) rfl (fun hCl => ?_)
   refine zau 7 (waits_step 8 (waits_step 15 (waits_step 16 (waits_direct (by kernel_rfl)) (by kernel_rfl)) (by kernel_rfl)) (by kernel_rfl)) rfl (fun hCl => ?_)
   refine anyU_take (i := 8) (oi := ⟨_, _, _, _, _, _⟩) (v := Value.int .i64 ((i : Int) * 102)) hCl (waits_step 15 (waits_step 16 (waits_direct (by kernel_rfl)) (by kernel_rfl)) (by kernel_rfl)) rfl (by kernel_rfl) (by kernel_rfl) (by kernel_rfl) (fun _ _ _ h => h) (Or.inl ⟨by rfl, ?hyx8⟩) hHeld ?_
   case hyx8 => (intro wS hSw; (try dsimp only at hSw); go_simp; rw [HW1.out])
   intro hCl2
   clear hCl
   have hCl := hCl2
   clear hCl2
   try simp only [zpt]
   refine zau 9 (waits_step 10 (waits_step 14 (waits_step 15 (waits_step 16 (waits_direct (by kernel_rfl)) (by kernel_rfl)) (by kernel_rfl)) (by kernel_rfl)) (by kernel_rfl)) rfl (fun hCl => ?_)
   refine zau 10 (waits_step 14 (waits_step 15 (waits_step 16 (waits_direct (by kernel_rfl)) (by kernel_rfl)) (by kernel_rfl)) (by kernel_rfl)) rfl (fun hCl => ?_)
   refine zau 11 (waits_step 12 (waits_step 13 (waits_step 14 (waits_step 15 (waits_step 16 (waits_direct (by kernel_rfl)) (by kernel_rfl)) (by kernel_rfl)) (by kernel_rfl)) (by kernel_rfl)) (by kernel_rfl)) rfl (fun hCl => ?_)
   refine anyU_take (i := 12) (oi := ⟨_, _, _, _, _, _⟩) (v := Value.int .i64 ((i : Int) + 1)) hCl (waits_step 13 (waits_step 14 (waits_step 15 (waits_step 16 (waits_direct (by kernel_rfl)) (by kernel_rfl)) (by kernel_rfl)) (by kernel_rfl)) (by kernel_rfl)) rfl (by kernel_rfl) (by kernel_rfl) (by kernel_rfl) (fun _ _ _ h => h) (Or.inl ⟨by rfl, ?hyx12⟩) hHeld ?_
   case hyx12 => (intro wS hSw; (try dsimp only at hSw); go_simp; rw [HW2.out])
   intro hCl2
   clear hCl
   have hCl := hCl2
   clear hCl2
   try simp only [zpt]
   refine anyU_take (i := 13) (oi := ⟨_, _, _, _, _, _⟩) (v := Value.int .i64 (((i : Int) + 1) * 102)) hCl (waits_step 14 (waits_step 15 (waits_step 16 (waits_direct (by kernel_rfl)) (by kernel_rfl)) (by kernel_rfl)) (by kernel_rfl)) rfl (by kernel_rfl) (by kernel_rfl) (by kernel_rfl) (fun _ _ _ h => h) (Or.inl ⟨by rfl, ?hyx13⟩) hHeld ?_
   case hyx13 => (intro wS hSw; (try dsimp only at hSw); go_simp; rw [HW3.out])
   intro hCl2
   clear hCl
   have hCl := hCl2
   clear hCl2
   try simp only [zpt]
   refine zau 14 (waits_step 15 (waits_step 16 (waits_direct (by kernel_rfl)) (by kernel_rfl)) (by kernel_rfl)) rfl (fun hCl => ?_)
   refine anyU_take (i := 15) (oi := ⟨_, _, _, _, _, _⟩) (v := Value.slice (some x0) 0 0) hCl (waits_step 16 (waits_direct (by kernel_rfl)) (by kernel_rfl)) rfl (by kernel_rfl) (by kernel_rfl) (by kernel_rfl) (fun _ _ _ h => h) (Or.inl ⟨by rfl, ?hyx15⟩) hHeld ?_
   case hyx15 => (intro wS hSw; (try dsimp only at hSw); go_simp; exact HSL.out)
   intro hCl2
   clear hCl
   have hCl := hCl2
   clear hCl2
   try simp only [zpt]
   refine zau 16 (waits_direct (by kernel_rfl)) rfl (fun hCl => ?_)
   refine anyU_stop (by kernel_rfl) ?_
   refine wpAnyIn_ready (rs := [17]) (by kernel_rfl) (by simp) ?_
   refine AllReadyIn.cons (o := ⟨_, _, _, _, _, _⟩) rfl (fun K hK => ?_) AllReadyIn.nil
   have hy' := HY.out
   simp only [pencs, pslice] at hy'
   rw [if_pos HC0.out] at hy'
   rotate_left
   have HCN := Lib.hid hcapn
   clear hcapn
   have HSL : Hid ((if cap = ((i : Int) * 102).toNat then some (⟨g, off, none⟩ : Addr) else some ⟨g, off + ((i : Int) * 102).toNat, none⟩) = some ⟨g, off + i * 102, none⟩ ∧ E - ((i : Int) * 102).toNat = (chunk l i).length ∧ cap - ((i : Int) * 102).toNat = cap - i * 102) := by
    show _ ∧ _
    have e1 : ((i : Int) * 102).toNat = i * 102 := by omega
    rw [e1, chunk_length, ← HE.out]
    refine ⟨?_, rfl, rfl⟩
    by_cases hc : cap = i * 102
    ·have h1 := HMM.out
     have h2 := HCAP.out.1
     have h3 : i = 0 := by unfold parts at h1; omega
     rw [if_pos hc, h3]
     rfl
    ·rw [if_neg hc]
   refine wpIn_region_until (z := 17) (S := fun w' => w'.cell? ⟨Bb, 0, none⟩ = some (Value.slice (some ⟨g, off, none⟩) l.length cap) ∧ w'.cell? ⟨Bt, 0, none⟩ = some (Value.int .u8 (c.toNat : Int)) ∧ w'.cell? ⟨Bs, 0, none⟩ = some (Value.int .i64 (s : Int)) ∧ w'.cell? ⟨Bk, 0, none⟩ = some (Value.int .i64 (k : Int))) (by kernel_rfl) ?hSs (fun hHeld hCl => ?_)
   case hSs => exact HC.out
   refine zau 0 (waits_direct (by kernel_rfl)) rfl (fun hCl => ?_)
   refine zau 1 (waits_step 16 (waits_direct (by kernel_rfl)) (by kernel_rfl)) rfl (fun hCl => ?_)
   refine zau 2 (waits_step 16 (waits_direct (by kernel_rfl)) (by kernel_rfl)) rfl (fun hCl => ?_)
   refine zau 3 (waits_step 16 (waits_direct (by kernel_rfl)) (by kernel_rfl)) rfl (fun hCl => ?_)
   refine zau 4 (waits_step 16 (waits_direct (by kernel_rfl)) (by kernel_rfl)) rfl (fun hCl => ?_)
   refine zau 5 (waits_step 16 (waits_direct (by kernel_rfl)) (by kernel_rfl)) rfl (fun hCl => ?_)
   refine zau 6 (waits_step 15 (waits_step 16 (waits_direct (by kernel_rfl)) (by kernel_rfl)) (by kernel_rfl)) rfl (fun hCl => ?_)
   refine zau 7 (waits_step 8 (waits_step 15 (waits_step 16 (waits_direct (by kernel_rfl)) (by kernel_rfl)) (by kernel_rfl)) (by kernel_rfl)) rfl (fun hCl => ?_)
   refine anyU_take (i := 8) (oi := ⟨_, _, _, _, _, _⟩) (v := Value.int .i64 ((i : Int) * 102)) hCl (waits_step 15 (waits_step 16 (waits_direct (by kernel_rfl)) (by kernel_rfl)) (by kernel_rfl)) rfl (by kernel_rfl) (by kernel_rfl) (by kernel_rfl) (fun _ _ _ h => h) (Or.inl ⟨by rfl, ?hys8⟩) hHeld ?_
   case hys8 => (intro wS hSw; (try dsimp only at hSw); go_simp; rw [HW1.out])
   intro hCl2
   clear hCl
   have hCl := hCl2
   clear hCl2
   try simp only [zpt]
   refine zau 9 (waits_step 10 (waits_step 14 (waits_step 15 (waits_step 16 (waits_direct (by kernel_rfl)) (by kernel_rfl)) (by kernel_rfl)) (by kernel_rfl)) (by kernel_rfl)) rfl (fun hCl => ?_)
   refine zau 10 (waits_step 14 (waits_step 15 (waits_step 16 (waits_direct (by kernel_rfl)) (by kernel_rfl)) (by kernel_rfl)) (by kernel_rfl)) rfl (fun hCl => ?_)
   refine zau 11 (waits_step 12 (waits_step 13 (waits_step 14 (waits_step 15 (waits_step 16 (waits_direct (by kernel_rfl)) (by kernel_rfl)) (by kernel_rfl)) (by kernel_rfl)) (by kernel_rfl)) (by kernel_rfl)) rfl (fun hCl => ?_)
   refine anyU_take (i := 12) (oi := ⟨_, _, _, _, _, _⟩) (v := Value.int .i64 ((i : Int) + 1)) hCl (waits_step 13 (waits_step 14 (waits_step 15 (waits_step 16 (waits_direct (by kernel_rfl)) (by kernel_rfl)) (by kernel_rfl)) (by kernel_rfl)) (by kernel_rfl)) rfl (by kernel_rfl) (by kernel_rfl) (by kernel_rfl) (fun _ _ _ h => h) (Or.inl ⟨by rfl, ?hys12⟩) hHeld ?_
   case hys12 => (intro wS hSw; (try dsimp only at hSw); go_simp; rw [HW2.out])
   intro hCl2
   clear hCl
   have hCl := hCl2
   clear hCl2
   try simp only [zpt]
   refine anyU_take (i := 13) (oi := ⟨_, _, _, _, _, _⟩) (v := Value.int .i64 (((i : Int) + 1) * 102)) hCl (waits_step 14 (waits_step 15 (waits_step 16 (waits_direct (by kernel_rfl)) (by kernel_rfl)) (by kernel_rfl)) (by kernel_rfl)) rfl (by kernel_rfl) (by kernel_rfl) (by kernel_rfl) (fun _ _ _ h => h) (Or.inl ⟨by rfl, ?hys13⟩) hHeld ?_
   case hys13 => (intro wS hSw; (try dsimp only at hSw); go_simp; rw [HW3.out])
   intro hCl2
   clear hCl
   have hCl := hCl2
   clear hCl2
   try simp only [zpt]
   refine zau 14 (waits_step 15 (waits_step 16 (waits_direct (by kernel_rfl)) (by kernel_rfl)) (by kernel_rfl)) rfl (fun hCl => ?_)
   refine anyU_take (i := 15) (oi := ⟨_, _, _, _, _, _⟩) (v := Value.slice (some ⟨g, off + i * 102, none⟩) (chunk l i).length (cap - i * 102)) hCl (waits_step 16 (waits_direct (by kernel_rfl)) (by kernel_rfl)) rfl (by kernel_rfl) (by kernel_rfl) (by kernel_rfl) (fun _ _ _ h => h) (Or.inl ⟨by rfl, ?hys15⟩) hHeld ?_
   case hys15 => (intro wS hSw; (try dsimp only at hSw); go_simp; exact HSL.out)
   intro hCl2
   clear hCl
   have hCl := hCl2
   clear hCl2
   try simp only [zpt]
   refine zau 16 (waits_direct (by kernel_rfl)) rfl (fun hCl => ?_)
   refine anyU_stop (by kernel_rfl) ?_
   refine wpAnyIn_ready (rs := [17]) (by kernel_rfl) (by simp) ?_
   refine AllReadyIn.cons (o := ⟨_, _, _, _, _, _⟩) rfl (fun K hK => ?_) AllReadyIn.nil
   have hy' := HY.out
   simp only [pencs, pslice] at hy'
   rw [if_neg HCN.out] at hy'
   rotate_left
   all_goals
    rw [← HM.out] at hy'
    obtain ⟨fn, tmps, assign, body, hy, hR⟩ := hy'
    have HR := Lib.hid hR
    clear hR
    have HK := Lib.hid hK
    clear hK hHeld hCl
    go_simp
    clear hy
    refine HR.out.mono ?_
    rintro e W3 (⟨rfl, hJ3, hk3⟩ | ⟨rfl, hJx3⟩)
    ·refine HK.out _ _ ?_
     clear HK
     try simp only [zpt]
     refine wpAnyIn_ready (rs := [18]) (by kernel_rfl) (by simp) ?_
     refine AllReadyIn.cons (o := ⟨_, _, _, _, _, _⟩) rfl (fun K hK => ?_) AllReadyIn.nil
     go_simp
     refine hK _ _ ?_
     clear hK K
     try simp only [zpt]
     refine wpAnyIn_done (by kernel_rfl) ?_ _
     gi_wp2
     go_roundw
     case rel => exact ⟨i + 1, hlt, congrArg (Value.int .i64) HWZ.out, by rw [upto_succ]; exact hJ3, keep4_t HNX.out hk3⟩
     case measure => rw [HWZ.out]; show M - ((i + 1 : Nat) : Int).toNat < M - (i : Int).toNat; omega
    ·refine HK.out _ _ ?_
     clear HK
     try simp only [zpt]
     refine wpAnyIn_ready (rs := [18]) (by kernel_rfl) (by simp) ?_
     refine AllReadyIn.cons (o := ⟨_, _, _, _, _, _⟩) rfl (fun K hK => ?_) AllReadyIn.nil
     go_simp
     refine hK _ _ ?_
     clear hK K
     try simp only [zpt]
     refine wpAnyIn_done (by kernel_rfl) ?_ _
     gi_wp2
     refine bodyPost_ret (results_none rfl _ _ _) rfl ?_
     exact ⟨⟨_, rfl⟩, .inr ⟨_, ⟨i + 1, HMM.out, by rw [upto_succ]⟩, hJx3⟩⟩
  ·have hd : decide ((i : Int) < (M : Int)) = false := by simp; omega
   have hd2 : decide (i < M) = false := by simpa using hlt
   obtain rfl : i = M := by omega
   gi_wp2
   go_end0
   exact ⟨⟨_, rfl⟩, .inl ⟨_, rfl, HM.out ▸ hJs⟩⟩
theorem parts_call (n : Nat) (c : UInt8) (s k : Nat) (A : Option Addr) (len cap : Nat) (w : World) :
  CallsIn Fence.wide n Tryz.prog 61 #[.int .u8 (c.toNat : Int), .int .i64 (s : Int), .int .i64 (k : Int), .slice A len cap] w fun e w' => e = .returned (.func (.func 88) #[] #[.pointer (some ⟨w.heap.size + 3, 0, none⟩), .pointer (some ⟨w.heap.size, 0, none⟩), .pointer (some ⟨w.heap.size + 1, 0, none⟩), .pointer (some ⟨w.heap.size + 2, 0, none⟩)]) ∧ w' = (((w.alloc (.cells #[.int .u8 (c.toNat : Int)] 5)).alloc (.cells #[.int .i64 (s : Int)] 2)).alloc (.cells #[.int .i64 (k : Int)] 2)).alloc (.cells #[.slice A len cap] 28) := by
 refine callsIn_of_wp Tryz.func61 rfl trivial ?_ rfl
 simp only [Tryz.ntmps61, List.size_toArray, List.length_cons, List.length_nil, Nat.reduceAdd, Nat.reduceSub, Array.replicate_succ, Array.replicate_zero, List.push_toArray, List.append_toArray, List.nil_append, List.cons_append]
 gi_wp2
 go_ret
 exact ⟨rfl, rfl⟩
abbrev Ix (n : Nat) := { i : Nat // i < parts n }
theorem parts_stops (n : Nat) (hn : 1 ≤ n) (Bb Bt Bs Bk : Nat) (A : Option Addr) (l : List UInt8) (cap : Nat) (c : UInt8) (s k : Nat) (hl : l.length < 100000000) (hcap : l.length ≤ cap) (hcm : cap ≤ maxLen) (hA : (l = [] ∧ cap = 0) ∨ ∃ g off, A = some ⟨g, off, none⟩) (w : World)
  (hlt : Bb < w.heap.size ∧ Bt < w.heap.size ∧ Bs < w.heap.size ∧ Bk < w.heap.size) (hB : Box4 w Bb Bt Bs Bk A l.length cap c s k) :
  SeqStopsK (α := Ix l.length) Fence.wide n Tryz.prog 88 #[.pointer (some ⟨Bb, 0, none⟩), .pointer (some ⟨Bt, 0, none⟩), .pointer (some ⟨Bs, 0, none⟩), .pointer (some ⟨Bk, 0, none⟩)] (fun x => pencs c s k (parts l.length) A cap l x.1) (Keep4 Bb Bt Bs Bk) (fun ys => ys.map (·.1) = upto (parts l.length)) (fun _ => True) (parts l.length) w := fun lp J Jx W hW hJ hJx hY h0 => by
 have hB' : Box4 W Bb Bt Bs Bk A l.length cap c s k := hB.keep ⟨hW.block _ hlt.1, hW.block _ hlt.2.1, hW.block _ hlt.2.2.1, hW.block _ hlt.2.2.2⟩
 refine CallsIn.mono (parts1_in n hn lp Bb Bt Bs Bk A l cap c s k hl hcap hcm hA (fun pre W => ∃ ps : List (Ix l.length), ps.map (·.1) = pre ∧ J ps W) (fun pre W => ∃ ps : List (Ix l.length), ps.map (·.1) = pre ∧ Jx ps W) ?_ ?_ W hB' ⟨[], rfl, h0⟩) ?_
 ·rintro pre x W1 ⟨ps, e, hj⟩ hlen hx
  obtain ⟨fn, tmps, assign, body, hy, hR⟩ := hY ps ⟨x, hx⟩ W1 hj (by rw [← e, List.length_map] at hlen; exact hlen)
  refine ⟨fn, tmps, assign, body, hy, RoundIn.mono hR fun e2 W' h => ?_⟩
  rcases h with ⟨h1, h2, h3⟩ | ⟨h1, h2⟩
  ·exact .inl ⟨h1, ⟨ps ++ [⟨x, hx⟩], by rw [List.map_append, e]; rfl, h2⟩, h3⟩
  ·exact .inr ⟨h1, ps ++ [⟨x, hx⟩], by rw [List.map_append, e]; rfl, h2⟩
 ·rintro pre W1 ⟨ps, e, hj⟩
  exact ⟨ps, e, hJ ps W1 W1.drew none hj ⟨rfl, rfl, rfl, Nat.le_refl _, fun _ _ _ => rfl⟩ (by simp)⟩
 ·rintro e W' ⟨hv, ⟨ys, rfl, ps, e1, hj⟩ | ⟨pre, _, ps, e1, hj⟩⟩
  ·exact ⟨hv, .inl ⟨ps, e1, hj⟩⟩
  ·exact ⟨hv, .inr ⟨ps, trivial, hj⟩⟩
end Go.Proofs.YtgdedgfohjplmaaGreat.Jnl
namespace Go.Proofs.YtgdedgfohjplmaaGreat.Sec
open Go.RowKit Go.Maps
def Tight (w : World) (d b : Nat) : Prop := b = d ∨ w.cell? ⟨d, 1, none⟩ = some (.map (some b)) ∨ w.cell? ⟨d, 2, none⟩ = some (.map (some b)) ∨ ∃ sv, w.cell? ⟨d, 3, none⟩ = some sv ∧ sv.ownBlock = some b
section
variable {w w' : World} {S : Nat → Prop} {d b B mb mn : Nat} {D : Dsk}
theorem DiskAt.tight (h : DiskAt w S d D) (ha : D.armed = none) : DiskAt w (Tight w d) d D := by
 obtain ⟨h1, h2, mb, mn, sv, pa, hd, hB, hmb, hmn, hne, hsb, hsn, hrow, hos, harm⟩ := h
 rw [ha] at harm
 refine ⟨h1, h2, mb, mn, sv, pa, hd, .inl rfl, .inr (.inl (cell_blk hd 1)), .inr (.inr (.inl (cell_blk hd 2))), hne, hsb, hsn, hrow, fun g hg => .inr (.inr (.inr ⟨sv, cell_blk hd 3, hg⟩)), ?_⟩
 rw [ha]
 exact harm
theorem DiskAt.tight_sub (h : DiskAt w S d D) (hb : Tight w d b) : S b := by
 obtain ⟨h1, h2, mb, mn, sv, pa, hd, hB, hmb, hmn, hne, hsb, hsn, hrow, hos, harm⟩ := h
 have c1 : w.cell? ⟨d, 1, none⟩ = some (.map (some mb)) := cell_blk hd 1
 have c2 : w.cell? ⟨d, 2, none⟩ = some (.map (some mn)) := cell_blk hd 2
 have c3 : w.cell? ⟨d, 3, none⟩ = some sv := cell_blk hd 3
 rcases hb with e | e | e | ⟨sv', e, ho⟩
 ·exact e ▸ hB
 ·rw [c1] at e
  injection e with e; injection e with e; injection e with e
  exact e ▸ hmb
 ·rw [c2] at e
  injection e with e; injection e with e; injection e with e
  exact e ▸ hmn
 ·rw [c3] at e
  injection e with e
  exact hos b (e ▸ ho)
theorem DiskAt.tight_kind (h : DiskAt w S d D) (hb : Tight w d b) {C : Array Value} {t : TypeId} {fr : Nat × Nat} (hc : w.heap[b]? = some (.cells C t fr)) : t = 59 ∨ t = 112 := by
 obtain ⟨h1, h2, mb, mn, sv, pa, hd, hB, hmb, hmn, hne, hsb, hsn, hrow, hos, harm⟩ := h
 have c1 : w.cell? ⟨d, 1, none⟩ = some (.map (some mb)) := cell_blk hd 1
 have c2 : w.cell? ⟨d, 2, none⟩ = some (.map (some mn)) := cell_blk hd 2
 have c3 : w.cell? ⟨d, 3, none⟩ = some sv := cell_blk hd 3
 rcases hb with e | e | e | ⟨sv', e, ho⟩
 ·rw [e, hd] at hc
  injection hc with hc; injection hc with _ hc
  exact .inl hc.symm
 ·rw [c1] at e
  injection e with e; injection e with e; injection e with e
  obtain ⟨n, E, hn, ⟨es, clock, hbm, F⟩, hk⟩ := hsb
  rw [← e, hbm] at hc
  cases hc
 ·rw [c2] at e
  injection e with e; injection e with e; injection e with e
  obtain ⟨n, E, hn, ⟨es, clock, hbm, F⟩, hk⟩ := hsn
  rw [← e, hbm] at hc
  cases hc
 ·rw [c3] at e
  injection e with e
  obtain ⟨_, ⟨e2, _⟩ | ⟨g, cap, cur, e2, h3, hcur, _⟩⟩ := hrow
  ·rw [← e, e2] at ho
   simp [Value.ownBlock] at ho
  ·rw [← e, e2] at ho
   simp [Value.ownBlock] at ho
   rw [← ho, hcur] at hc
   injection hc with hc; injection hc with _ hc
   exact .inr hc.symm
theorem DiskAt.own {row : Option Nat} (h : DiskAt w (Tight w d) d D) (ha : D.armed = none) (c1 : w.cell? ⟨d, 1, none⟩ = some (.map (some mb))) (c2 : w.cell? ⟨d, 2, none⟩ = some (.map (some mn))) (hmb : mb < B) (hmn : mn < B)
  (hg : w.grownBy w' row) (hr : ∀ r, row = some r → B ≤ r ∧ ∃ o : Obj, w.heap[r]? = some o ∧ o.isCells = false) : DiskAt w' (Tight w' d) d D ∧ (∀ j, w'.cell? ⟨d, j, none⟩ = w.cell? ⟨d, j, none⟩) ∧ ∀ b, Tight w' d b ↔ Tight w d b := by
 have h' := h
 obtain ⟨h1, h2, mb', mn', sv, pa, hd, hB, _, _, hne, hsb, hsn, hrow, hos, harm⟩ := h
 have k1 : w.cell? ⟨d, 1, none⟩ = some (.map (some mb')) := cell_blk hd 1
 have k2 : w.cell? ⟨d, 2, none⟩ = some (.map (some mn')) := cell_blk hd 2
 have e1 : mb' = mb := by
  rw [k1] at c1
  injection c1 with e; injection e with e; injection e with e
 have e2 : mn' = mn := by
  rw [k2] at c2
  injection c2 with e; injection e with e; injection e with e
 subst e1 e2
 have cellsNo : ∀ b C t, w.heap[b]? = some (.cells C t) → some b ≠ row := fun b C t hb e => by
  obtain ⟨_, o, ho, hc⟩ := hr b e.symm
  rw [hb] at ho
  cases ho
  cases hc
 have small : ∀ b, b < B → some b ≠ row := fun b hb e => by have := (hr b e.symm).1; omega
 have hdlt := (Array.getElem?_eq_some_iff.1 hd).1
 have hd' := (hg.block d hdlt (cellsNo d _ _ hd)).trans hd
 have hcell : ∀ j, w'.cell? ⟨d, j, none⟩ = w.cell? ⟨d, j, none⟩ := fun j => by rw [cell_blk hd', cell_blk hd]
 have hT : ∀ b, Tight w' d b ↔ Tight w d b := fun b => by unfold Tight; rw [hcell, hcell, hcell]
 refine ⟨?_, hcell, hT⟩
 rw [ha] at harm
 refine ⟨h1, h2, mb', mn', sv, pa, hd', .inl rfl, (hT _).2 (.inr (.inl k1)), (hT _).2 (.inr (.inr (.inl k2))), hne, hsb.kept hg (small _ hmb), hsn.kept hg (small _ hmn), ?_, fun g hg => (hT _).2 (hos g hg), by rw [ha]; exact harm⟩
 refine World.ownsRow.kept hrow hg ?_
 obtain ⟨_, ⟨e, _⟩ | ⟨g, cap, cur, e, h3, hcur, _⟩⟩ := id hrow
 ·exact .inl (by rw [e]; rfl)
 ·exact .inr (by rw [e]; exact cellsNo g _ _ hcur)
theorem DiskAt.tight_big {k : Nat} (h : DiskAt w S d D) (c1 : w.cell? ⟨d, 1, none⟩ = some (.map (some mb))) (c2 : w.cell? ⟨d, 2, none⟩ = some (.map (some mn))) (hmb : mb < B) (hmn : mn < B) (hk : B ≤ k) (hT : Tight w d k) : ∃ C t, w.heap[k]? = some (.cells C t) := by
 obtain ⟨h1, h2, mb', mn', sv, pa, hd, hB, hmb', hmn', hne, hsb, hsn, hrow, hos, harm⟩ := h
 have c3 : w.cell? ⟨d, 3, none⟩ = some sv := cell_blk hd 3
 rcases hT with e | e | e | ⟨sv', e, ho⟩
 ·rw [e]
  exact ⟨_, _, hd⟩
 ·rw [c1] at e
  injection e with e; injection e with e; injection e with e
  omega
 ·rw [c2] at e
  injection e with e; injection e with e; injection e with e
  omega
 ·rw [c3] at e
  injection e with e
  obtain ⟨_, ⟨e2, _⟩ | ⟨g, cap, cur, e2, h3, hcur, _⟩⟩ := hrow
  ·rw [← e, e2] at ho
   simp [Value.ownBlock] at ho
  ·rw [← e, e2] at ho
   simp [Value.ownBlock] at ho
   exact ⟨_, _, ho ▸ hcur⟩
end
end Go.Proofs.YtgdedgfohjplmaaGreat.Sec
