/- A part of the proof of JournalKnown: JnlBytes JsecKept JnlSeal JnlHead JnlRead JnlPart JnlEqual JnlHeadOf JnlHeadOfH JnlPartOf. -/
import Derived.Laws.MakeOwn
import Derived.Laws.AppendOwn
import Derived.Laws.OwnMore
import Derived.Test.YtgdedgfohjplmaaGreatK00
import Derived.Test.YtgdedgfohjplmaaGreatK01
import Derived.RangeFuncNested
import Derived.RangeFuncBound
import Derived.Shelf.RegionOpen
import Derived.Laws.ResultCell
import Derived.Laws.Rows
import Derived.Deep.CutBlock
set_option maxRecDepth 100000
set_option maxHeartbeats 40000000
namespace Go.Proofs.YtgdedgfohjplmaaGreat.Jnl
open Go.RowKit Go.Maps Sec
def numB (n : Nat) : Nat → List UInt8
 | 0 => []
 | s + 1 => UInt8.ofNat (n / 256 ^ s) :: numB n s
theorem numB_length (n s : Nat) : (numB n s).length = s := by
 induction s with
 | zero => rfl
 | succ s ih => simp [numB, ih]
theorem numB_take (n : Nat) : ∀ (s k : Nat), k < s → (numB n s).take (k + 1) = (numB n s).take k ++ [UInt8.ofNat (n / 256 ^ (s - 1 - k))]
 | 0, k, h => by omega
 | s + 1, 0, _ => by simp [numB]
 | s + 1, k + 1, h => by
  have := numB_take n s k (by omega)
  simp only [numB, List.take_succ_cons, List.cons_append, this]
  rw [show s + 1 - 1 - (k + 1) = s - 1 - k by omega]
def BRow (w : World) (B : Nat) (v : Value) (l : List UInt8) : Prop := w.ownsRow B 5 1 v l.length (u8s l)
theorem u8s_app (a b : List UInt8) : u8s (a ++ b) = u8s a ++ u8s b := by simp [u8s]
theorem u8s_one (l : List UInt8) : ∀ z ∈ u8s l, z.oneCell' = true := by
 intro z hz
 simp only [u8s, List.mem_map] at hz
 obtain ⟨c, _, rfl⟩ := hz
 rfl
theorem info_byte : (Tryz.prog.info? 5).map (fun i => (i.zero, i.size, i.bytes)) = some (some (.int .u8 0), 1, 1) := by kernel_rfl
variable {w w' : World} {B : Nat} {v : Value} {l : List UInt8}
theorem BRow.own (h : BRow w B v l) : ∀ g, v.ownBlock = some g → B ≤ g := by
 intro g hg
 obtain ⟨_, ⟨rfl, _⟩ | ⟨g', cap, cur, rfl, hB, _⟩⟩ := h
 ·simp [Value.ownBlock] at hg
 ·simp [Value.ownBlock] at hg
  omega
theorem BRow.below (h : BRow w B v l) (hg : w.grownBy w' v.ownBlock) (hB : B ≤ w.heap.size) : Below B w w' :=
 ⟨hg.os, hg.tape, hg.output, hg.size, fun k hk => hg.block k (by omega) (fun e => by have := h.own k e.symm; omega)⟩
theorem wpList_append_bytes {ops : Array Oper} {rest : List Oper} {o : Oper} {a : Act} {w : World} {Q : Exit → Act → World → Prop} (hgd : o.guard = none) (s x : Operand) (ho : o.op = .call { callee := .builtin .append, args := #[s, x], argTypes := #[28, 28] })
  (B : Nat) (v : Value) (l m : List UInt8) (A : Option Addr) (n cap : Nat) (hn : m.length = n) (hs : a.eval s = v) (hown : BRow w B v l) (hx : a.eval x = .slice A n cap)
  (hc : (m = [] ∧ cap = 0) ∨ ∃ g off, A = some ⟨g, off, none⟩ ∧ w.rangeAt g off (u8s m)) (hb : l.length + n < 100000000000) (hB : B ≤ w.heap.size)
  (h : ∀ v' w', BRow w' B v' (l ++ m) → Below B w w' → wpList Tryz.prog ops Q rest (a.put o.dst v') w') : wpList Tryz.prog ops Q (o :: rest) a w := by
 obtain ⟨i0, hi0, he⟩ := Option.map_eq_some_iff.1 info_byte
 simp only [Prod.mk.injEq] at he
 subst hn
 have hx0 : (A = none ∧ m = [] ∧ cap = 0) ∨ ∃ x, A = some x ∧ ∀ j u, (u8s m)[j]? = some u → w.cell? (x.add j) = some u := by
  rcases hc with ⟨h1, h2⟩ | ⟨g, off, h1, hr⟩
  ·cases A with
   | none => exact .inl ⟨rfl, h1, h2⟩
   | some x => exact .inr ⟨x, rfl, fun j u hj => by rw [h1] at hj; simp [u8s] at hj⟩
  ·exact .inr ⟨_, h1, fun j u hj => by have := hr j u hj; rw [Addr.add_lit]; exact this⟩
 rcases hx0 with ⟨rfl, rfl, rfl⟩ | ⟨x0, rfl, hr⟩
 ·have hrun := run_append_owned_none (P := Tryz.prog) w B 28 o.type 5 i0 1 Tryz.underlying28 hi0 v l.length _ hown
  refine wpList_plain hgd fun K hK => ?_
  unfold Oper.wp
  simp [execOp, ho, resolve, invoke, builtin, hs, hx]
  simp only [hrun, Result.andThen]
  refine hK _ _ (h v w (by rw [List.append_nil]; exact hown) (Below.refl _ _))
 ·obtain ⟨v', w', hrun, hown', hgr, _⟩ := run_append_own (P := Tryz.prog) w B 28 o.type 5 i0 _ 1 1 Tryz.underlying28 hi0 he.1 he.2.1 he.2.2 rfl (by decide) v l.length _ hown x0 m.length cap (u8s m) (by rw [u8s_length, Nat.mul_one]) hr (u8s_one m) (by unfold maxLen; omega) (by omega) hB
  refine wpList_plain hgd fun K hK => ?_
  unfold Oper.wp
  simp [execOp, ho, resolve, invoke, builtin, hs, hx, hrun, Result.andThen]
  refine hK _ _ (h v' w' ?_ (hown.below hgr hB))
  unfold BRow
  rw [List.length_append, u8s_app]
  exact hown'
theorem BRow.grown (h : BRow w B v l) (hg : w.grownBy w' none) : BRow w' B v l := Sec.row_off h (Off.of_grown hg (S := fun _ => False) (by simp)) (by simp)
theorem Below.to_grown (h : Below w.heap.size w w') : w.grownBy w' none := ⟨h.os, h.tape, h.output, h.size, fun k hk _ => h.block k hk⟩
theorem grown_below0 (h : w.grownBy w' none) (hB : B ≤ w.heap.size) : Below B w w' := ⟨h.os, h.tape, h.output, h.size, fun k hk => h.block k (by omega) (by simp)⟩
theorem number_at (B : Nat) (v : Value) (l : List UInt8) (n s : Nat) (hs : s ≤ 8) (_ : n < 9223372036854775808) (w : World) (h : BRow w B v l) (hl : l.length < 1000000000) (hB : B ≤ w.heap.size) :
  Calls Tryz.prog 89 #[v, .int .i64 (n : Int), .int .i64 (s : Int)] w fun e w' => ∃ v', e = .returned v' ∧ BRow w' B v' (l ++ numB n s) ∧ Below B w w' := by
 go_enter Tryz.func89, Tryz.ntmps89
 go_wp2
 go_loopw [0, 7] (fun u i wr => ∃ k : Nat, k ≤ s ∧ i = .int .i64 (8 * ((s : Int) - 1 - (k : Int))) ∧ BRow wr B u (l ++ (numB n s).take k) ∧ Below B w wr) (fun _ i _ => ((intOf i + 8) / 8).toNat)
 case atStart =>
  refine ⟨0, Nat.zero_le _, ?_, by simpa using h, Below.refl _ _⟩
  congr 1
  omega
 case round =>
  obtain ⟨k, hk, rfl, hrow, hg⟩ := hrel
  have HROW := Lib.hid hrow
  have HG := Lib.hid hg
  have HL := Lib.hid hl
  have HB := Lib.hid hB
  clear hrow hg hl hB h
  by_cases hlt : k < s
  ·have hd : decide ((0 : Int) ≤ 8 * ((s : Int) - 1 - (k : Int))) = true := by simp; omega
   have i0 : (0 : Int) ≤ 8 * ((s : Int) - 1 - (k : Int)) := by omega
   have i1 : 8 * ((s : Int) - 1 - (k : Int)) ≤ 56 := by omega
   have HC : Hid ((UInt8.ofNat (n / 256 ^ (s - 1 - k))).toNat = (n : Int) / 2 ^ (8 * (s - 1 - k)) % 256) := by
    show _ = _
    rw [UInt8.toNat_ofNat', show (256 : Nat) = 2 ^ 8 from rfl, ← Nat.pow_mul, Int.natCast_emod, Int.natCast_ediv, Int.natCast_pow]
    rfl
   have HBW : Hid (∀ o : Obj, B ≤ (wr.alloc o).heap.size) := fun o => Nat.le_trans (Nat.le_trans HB.out HG.out.size) (World.grownBy_alloc wr o none).size
   have HFEW : Hid ((l ++ (numB n s).take k).length + 1 < 100000000000) := by show _ < _; rw [List.length_append, List.length_take, numB_length]; have := HL.out; omega
   go_wp2_with (first
    | (at_builtin; refine wpList_append_bytes rfl (.tmp 15) (.tmp 20) rfl B _ _ [UInt8.ofNat (n / 256 ^ (s - 1 - k))] (some ⟨wr.heap.size, 0, none⟩) 1 1 rfl rfl (HROW.out.grown (World.grownBy_alloc wr _ none)) rfl (.inr ⟨_, 0, rfl, range_blk (MapKept.heap_alloc wr _).1 (by simp only [u8s, List.map, HC.out])⟩) HFEW.out (HBW.out _) ?_; intro v3 w3 hr3 hb3; go_frame)
    | fail)
   go_roundw
   case rel =>
    refine ⟨k + 1, hlt, ?_, ?_, (HG.out.trans (grown_below0 (World.grownBy_alloc wr _ none) (Nat.le_trans HB.out HG.out.size))).trans hb3⟩
    ·congr 1
     omega
    ·rw [numB_take n s k hlt, ← List.append_assoc]
     exact hr3
   case measure => simp only [intOf]; omega
  ·obtain rfl : k = s := by omega
   have hd : decide ((0 : Int) ≤ 8 * ((k : Int) - 1 - (k : Int))) = false := by simp; omega
   go_wp2_with fail
   go_ret
   refine ⟨_, rfl, ?_, HG.out⟩
   have := HROW.out
   rwa [List.take_of_length_le (by rw [numB_length]; omega)] at this
end Go.Proofs.YtgdedgfohjplmaaGreat.Jnl
namespace Go.Proofs.YtgdedgfohjplmaaGreat.Sec
open Go.RowKit Go.Maps
theorem write_kept (S : Nat → Prop) (d i : Nat) (D : Dsk) (l : List UInt8) (A : Option Addr) (cap : Nat) (w : World) (h : DiskAt w S d D) (hr : RowB w S A l) (hS : ∀ b, w.heap.size ≤ b → S b) (hi : i < D.n) (ho : D.off = false) (hl : l.length ≤ 128) (harm : D.armed = none) (hn : D.wr.length < 1000000) :
  Calls Tryz.prog 46 #[.pointer (some ⟨d, 0, none⟩), .int .i64 (i : Int), .slice A l.length cap] w fun e w' => e = .returned (.int .i64 0) ∧ DiskAt w' S d (D.push i (pad l)) ∧ Off S w w' ∧ w'.cell? ⟨d, 1, none⟩ = w.cell? ⟨d, 1, none⟩ ∧ w'.cell? ⟨d, 2, none⟩ = w.cell? ⟨d, 2, none⟩ := by
 have hask := asked_at S d D (i : Int) w h
 rw [show askedN D (i : Int) = 0 by unfold askedN; rw [if_neg (by simp [ho]), if_neg (by omega)]] at hask
 obtain ⟨h1, h2, mb, mn, sv, pa, hd, hB, hmb, hmn, hne, hsb, hsn, hrow, hos, ha⟩ := h
 have c4 : w.cell? ⟨d, 4, none⟩ = some (.pointer pa) := cell_blk hd 4
 have HD12 : Hid (w.cell? ⟨d, 1, none⟩ = some (.map (some mb)) ∧ w.cell? ⟨d, 2, none⟩ = some (.map (some mn))) := ⟨cell_blk hd 1, cell_blk hd 2⟩
 have ha' := ha
 rw [harm] at ha'
 have hpa : pa = none := ha'
 subst hpa
 have d128 : decide ((128 : Int) < (l.length : Int)) = false := by simp; omega
 have hbw := build_wr
 have hzw := zero_wr
 have HRW := Lib.hid (hr.grown (wr0_grown w i))
 have HA := Lib.hid hask
 have HL := Lib.hid hl
 have HPL := Lib.hid (pad_length l hl)
 have HTH := Lib.hid (wr0_there w i)
 have HB0 := Lib.hid (Off.refl S w)
 have HW0 := Lib.hid (And.intro hd (And.intro hsb (And.intro hsn (And.intro hrow ha))))
 have H2 := Lib.hid h2
 clear hd hask hr ha ha' hsb hsn hrow h2 hl
 go_enter Tryz.func46, Tryz.ntmps46
 go_wp2_with fail
 refine HA.out.mono ?_
 rintro e w' ⟨rfl, rfl⟩
 go_wp2_with (first
  | (with_reducible show Go.wpList _ _ _ ((⟨_, .store _ _ _, _, _, _, _⟩ : Oper) :: _) _ _; refine wpList_store_wr0 rfl _ _ rfl i (w) w.heap.size rfl rfl rfl rfl ?_; generalize (wrA 0 noughts).setIfInBounds 0 _ = junk; go_frame)
  | go_in)
 rw [run_copy_sec _ _ w.heap.size S A l cap HL.out HRW.out HTH.out]
 simp only [Result.andThen]
 rw [Oper.upon_value]
 have hsz := laid_size (w) i l
 have hgr := laid_grown (w) i l
 have hld := laid (w) i l HL.out
 skip
 have hs0 : (w).heap.size = w.heap.size := rfl
 obtain ⟨g, hgq⟩ : ∃ g, g = w.heap.size := ⟨_, rfl⟩
 rw [← hgq] at hsz hgr hld hS ⊢
 generalize (wr0 (w) i).setCells g 1 (u8s l) = w1 at hsz hgr hld ⊢
 obtain ⟨hd, hsb, hsn, hrow, ha⟩ := HW0.out
 have hdlt := (Array.getElem?_eq_some_iff.1 hd).1
 have hown := hrow.lt
 have hmnlt := hsn.lt
 have HMN : Hid (mn < g ∧ d < g) := by show _ ∧ _; omega
 clear hmnlt
 have hd1 := (hgr.block d hdlt (by simp)).trans hd
 have hsb1 := hsb.kept hgr (by simp)
 have hsn1 := hsn.kept hgr (by simp)
 have hrow1 := row_grown hrow hgr
 have ha1 := ha.grown hgr
 have c3x : w1.drew.cell? ⟨d, 3, none⟩ = some sv := cell_blk (w := w1.drew) hd1 3
 have hgA := drew_alloc_grown w1 (.cells (wrA i (pad l)) 112) none
 have hdA := (hgA.block d (by omega) (by simp)).trans hd1
 have c3y : (w1.drew.alloc (.cells (wrA i (pad l)) 112)).cell? ⟨d, 3, none⟩ = some sv := cell_blk hdA 3
 have c3z : (w1.alloc (.cells (wrA i (pad l)) 112)).cell? ⟨d, 3, none⟩ = some sv := c3y
 have HLAID := Lib.hid hld
 have HG : Hid (g < w1.heap.size) := by show g < _; omega
 have hgd : g ≠ d := by omega
 have HROW := Lib.hid (row_grown hrow1 hgA)
 obtain ⟨i0, hi0, he0⟩ := Option.map_eq_some_iff.1 info_wr
 simp only [Prod.mk.injEq] at he0
 have HI0 := Lib.hid (And.intro hi0 he0)
 have HZW : Hid ((Value.agg (wrA 0 noughts)).cells.size = 129) := by show (wrA 0 noughts).size = 129; rw [wrA_size, noughts_length]
 have HLL : Hid ((wrA i (pad l)).toList.length = 1 * 129) := by show _ = _; rw [Array.length_toList, wrA_size, HPL.out]
 have HNEWS : Hid (∀ j u, (wrA i (pad l)).toList[j]? = some u → (w1.drew.alloc (.cells (wrA i (pad l)) 112)).cell? ((⟨w1.heap.size, 0, none⟩ : Addr).add j) = some u) := by
  intro j u hu
  have hadd : (⟨w1.heap.size, 0, none⟩ : Addr).add j = ⟨w1.heap.size, j, none⟩ := by unfold Addr.add; split <;> simp_all
  rw [hadd]
  have := cell_new w1.drew (wrA i (pad l)) 112 j
  exact this.trans (by simpa using hu)
 have HM1 : Hid (D.wr.length + 1 ≤ maxLen) := by show _ ≤ _; unfold maxLen; omega
 have HM2 : Hid ((D.wr.length + 1) * 136 ≤ 140737488355328) := by show _ ≤ _; omega
 have HBB : Hid (0 ≤ (w1.drew.alloc (.cells (wrA i (pad l)) 112)).heap.size) := Nat.zero_le _
 have HPUSH : Hid (∀ sv2 w5, w5.ownsRow 0 112 129 sv2 (D.wr.length + 1) (rows D.wr ++ (wrA i (pad l)).toList) → (w1.drew.alloc (.cells (wrA i (pad l)) 112)).grownBy w5 sv.ownBlock → (sv2.ownBlock = sv.ownBlock ∨ sv2.ownBlock = some (w1.drew.alloc (.cells (wrA i (pad l)) 112)).heap.size) → _) := fun sv2 w5 ho5 hg5 hob => DiskAt.push (w := w1) (D := D) (sv2 := sv2) hd1 hB hsb1 hsn1 hrow1 hos ha1 (fun b hb => hS b (by omega)) hgA ho5 hg5 hob
 have HKEEP : Hid (∀ (sv2 : Value) (w5 : World), w5.ownsRow 0 112 129 sv2 (D.wr.length + 1) (rows D.wr ++ (wrA i (pad l)).toList) → (w1.drew.alloc (.cells (wrA i (pad l)) 112)).grownBy w5 sv.ownBlock → w5.rangeAt g 0 (wrA i (pad l)).toList ∧ g < w5.heap.size) := by
  intro sv2 w5 _ hg5
  have hgs := hg5.size
  have hgA' := hgA.size
  refine ⟨fun j v hv => ?_, by omega⟩
  have hne5 : some g ≠ sv.ownBlock := fun e => by have := (hown g e.symm).2; omega
  exact hg5.cell (hgA.cell (hld j v hv) (by simp)) hne5
 have HKEEP2 : Hid (∀ (sv2 : Value) (w5 : World), w5.ownsRow 0 112 129 sv2 (D.wr.length + 1) (rows D.wr ++ (wrA i (pad l)).toList) → (w1.drew.alloc (.cells (wrA i (pad l)) 112)).grownBy w5 sv.ownBlock → (w5.setCell ⟨d, 3, none⟩ sv2).rangeAt g 0 (wrA i (pad l)).toList ∧ g < (w5.setCell ⟨d, 3, none⟩ sv2).heap.size) := by
  intro sv2 w5 ho5 hg5
  obtain ⟨hr5, hs5⟩ := HKEEP.out sv2 w5 ho5 hg5
  refine ⟨fun j v hv => ?_, by simpa using hs5⟩
  rw [World.cell?_setCell_other _ _ _ _ (by simp)]
  exact hr5 j v hv
 have hb1 : Off S (w) w1 := Off.of_grown hgr (by simp)
 have HB1 := Lib.hid hb1
 have HSZ := Lib.hid hsz
 have HGQ := Lib.hid hgq
 clear hs0 HRW HTH c4 HW0 hd hsb hsn hrow ha hdlt hown hd1 hsb1 hsn1 hrow1 ha1 hgA hdA hld hi0 he0 hb1 hgr hsz hgq
 clear hbw hzw
 go_wp2_with fail
 refine wp_region_noPanic ?_
 refine wp_region_held_drew (S := fun w' => w'.rangeAt g 0 (wrA i (pad l)).toList ∧ g < w'.heap.size) (by kernel_rfl) ?hSa (fun hHeld => ?_)
 case hSa => exact ⟨(World.rangeAt_drew _ _ _ _).2 HLAID.out, by simpa using HG.out⟩
 refine ztk 0 rfl ?_
 refine ztk 1 rfl ?_
 refine ztk 2 rfl ?_
 refine ztk 3 rfl ?_
 refine wpAnyH_take (i := 5) (oi := ⟨_, _, _, _, _, _⟩) (v := .agg (wrA i (pad l))) rfl (by kernel_rfl) (by kernel_rfl) (by kernel_rfl) (fun _ _ _ h => h) (yields_wr (by rfl) (.tmp 8) rfl g rfl i (pad l) HPL.out (fun w h => h.1)) hHeld ?_
 try simp only [zpt]
 refine zrd2 4 6 rfl rfl (fun K hK => ?_) (fun K hK => ?_)
 go_simp
 refine hK.out _ _ ?q (fun hHeld => ?_)
 case q => (try dsimp only); exact hHeld
 clear hK K
 try simp only [zpt]
 refine zrd 6 rfl (fun K hK => ?_)
 refine step_wp rfl ?_
 refine wp_one_wr (.tmp 51) rfl i (pad l) HPL.out rfl ?_
 refine hK.out _ _ ?q (fun hHeld => ?_)
 case q => (try dsimp only); exact ⟨World.rangeAt_alloc hHeld.1 _, by rw [World.size_alloc]; exact Nat.lt_succ_of_lt hHeld.2⟩
 rotate_left
 refine step_wp rfl ?_
 refine wp_one_wr (.tmp 51) rfl i (pad l) HPL.out rfl ?_
 refine hK.out _ _ ?q (fun hHeld => ?_)
 case q => (try dsimp only); exact ⟨World.rangeAt_alloc hHeld.1 _, by rw [World.size_alloc]; exact Nat.lt_succ_of_lt hHeld.2⟩
 clear hK K
 try simp only [zpt]
 refine zrd 4 rfl (fun K hK => ?_)
 go_simp
 refine hK.out _ _ ?q (fun hHeld => ?_)
 case q => (try dsimp only); exact hHeld
 rotate_left
 all_goals
  clear hK K
  try simp only [zpt]
  refine zrd 7 rfl (fun K hK => ?_)
  refine step_append_own rfl (.tmp 50) (.tmp 52) 56 112 rfl i0 _ 129 136 Tryz.underlying56 HI0.out.1 HI0.out.2.1 HI0.out.2.2.1 HI0.out.2.2.2 HZW.out (by decide) 0 sv D.wr.length (rows D.wr) HROW.out rfl ⟨w1.heap.size, 0, none⟩ 1 1 (wrA i (pad l)).toList rfl HLL.out HNEWS.out (wrA_one i (pad l)) HM1.out HM2.out HBB.out ?_
  intro sv2 w5 hown5 hgr5 hob5
  obtain ⟨g2, cap2, rfl⟩ := row_shape hown5
  have HOWN5 := Lib.hid hown5
  have HGR5 := Lib.hid hgr5
  clear hown5 hgr5
  have hp := HPUSH.out _ w5 HOWN5.out HGR5.out hob5
  have d3 := cell_blk hp.1 3
  have z3 := frozen_blk hp.1 3
  have HP := Lib.hid hp
  clear hp
  refine hK.out _ _ ?q (fun hHeld => ?_)
  case q => (try dsimp only); exact HKEEP.out _ _ HOWN5.out HGR5.out
  clear hK K
  try simp only [zpt]
  refine ztk 8 rfl ?_
  refine ztk 9 rfl ?_
  refine zrd 10 rfl (fun K hK => ?_)
  go_simp
  refine hK.out _ _ ?q (fun hHeld => ?_)
  case q => (try dsimp only); exact HKEEP2.out _ _ HOWN5.out HGR5.out
  clear hK K
  try simp only [zpt]
  refine wpAnyH_done (by kernel_rfl) ?_ _
  refine NoPanic.normal ?_
  obtain ⟨_, hd6, hsb6, hsn6, hrow6, hos6, ha6, hbw6⟩ := HP.out
  have hr6 := hHeld.1
  clear hHeld HP d3 z3 HOWN5 HGR5
  generalize w5.setCell ⟨d, 3, none⟩ (.slice (some ⟨g2, 0, none⟩) (D.wr.length + 1) cap2) = w6 at hd6 hsb6 hsn6 hrow6 ha6 hbw6 hr6 ⊢
  have HD6 := Lib.hid hd6
  have HSN6 := Lib.hid hsn6
  have HALL := Lib.hid (And.intro hsb6 (And.intro hrow6 (And.intro hos6 (And.intro ha6 hbw6))))
  have hc2 : w6.drew.cell? ⟨d, 2, none⟩ = some (.map (some mn)) := cell_blk (w := w6.drew) hd6 2
  have HC2 := Lib.hid hc2
  have HR6 := Lib.hid hr6
  clear hd6 hsb6 hsn6 hrow6 hos6 ha6 hbw6 hr6 hc2 c3x c3y c3z
  go_wp2_with fail
  refine wp_region_noPanic ?_
  refine wp_region_held_drew (S := fun w' => w'.rangeAt g 0 (wrA i (pad l)).toList ∧ w'.cell? ⟨d, 2, none⟩ = some (.map (some mn))) (by kernel_rfl) ?hSaxz (fun hHeld => ?_)
  case hSaxz => exact ⟨(World.rangeAt_drew _ _ _ _).2 HR6.out, HC2.out⟩
  refine ztk 0 rfl ?_
  refine ztk 1 rfl ?_
  refine ztk 2 rfl ?_
  refine ztk 3 rfl ?_
  refine wpAnyH_take (i := 4) (oi := ⟨_, _, _, _, _, _⟩) (v := .agg (wrA i (pad l))) rfl (by kernel_rfl) (by kernel_rfl) (by kernel_rfl) (fun _ _ _ h => h) (yields_wr (by rfl) (.tmp 8) rfl g rfl i (pad l) HPL.out (fun w h => h.1)) hHeld ?_
  try simp only [zpt]
  refine zrd 5 rfl (fun K hK => ?_)
  go_simp
  refine (put_at mn D.n i D.now (pad l) _ hi h1 HPL.out (by exact HSN6.out.kept (drew_grown w6 none) (by simp))).mono ?_
  rintro e w7 ⟨rfl, hsn7, hg7⟩
  have HSN7 := Lib.hid hsn7
  have HG7 := Lib.hid ((drew_grown w6 (some mn)).andThen hg7 (fun _ hj => .inr hj))
  clear hsn7 hg7
  go_wp2_with fail
  refine hK.out _ _ ?q (fun hHeld => ?_)
  case q => (try dsimp only); exact ⟨fun j v hv => HG7.out.cell (HR6.out j v hv) (fun e => by have := HMN.out; injection e with e; dsimp only at e; omega), (cell_blk ((HG7.out.block d (Array.getElem?_eq_some_iff.1 HD6.out).1 (fun e => by have := HSN6.out.ne HD6.out; injection e with e; exact this e.symm)).trans HD6.out) 2)⟩
  clear hK K
  try simp only [zpt]
  refine wpAnyH_done (by kernel_rfl) ?_ _
  refine NoPanic.normal ?_
  go_wp2_with fail
  go_ret
  obtain ⟨hsb6, hrow6, hos6, ha6, hbw6⟩ := HALL.out
  have fin := disk_now (D := { (D : Dsk) with wr := D.wr ++ [(i, pad l)] }) h1 (fun p hp => by rcases List.mem_append.1 hp with hp | hp; exact H2.out p hp; rw [List.mem_singleton.1 hp]; exact ⟨hi, HPL.out⟩) HD6.out hB hmb hmn hne hsb6 HSN6.out hrow6 hos6 ha6 HG7.out HSN7.out
  have hd7 := (HG7.out.block d (Array.getElem?_eq_some_iff.1 HD6.out).1 (fun e => by have := HSN6.out.ne HD6.out; injection e with e; exact this e.symm)).trans HD6.out
  exact ⟨rfl, fin.1, ((HB0.out.trans HB1.out).trans hbw6).trans fin.2, (cell_blk hd7 1).trans HD12.out.1.symm, (cell_blk hd7 2).trans HD12.out.2.symm⟩
end Go.Proofs.YtgdedgfohjplmaaGreat.Sec
namespace Go.Proofs.YtgdedgfohjplmaaGreat.Jnl
open Go.RowKit Go.Maps Sec
theorem u8s_zeros (n : Nat) : (Builtin.zeroCells (Value.int .u8 0).cells n).toList = u8s (List.replicate n 0) := by
 apply List.ext_getElem?
 intro i
 simp only [Builtin.zeroCells, Value.cells, u8s, List.map_replicate, Array.toList_map, Array.toList_range, List.getElem?_map, List.getElem?_replicate]
 by_cases h : i < n
 ·simp [h, Nat.mod_one]
 ·simp [h]
theorem zeros_size (n : Nat) : (Builtin.zeroCells (Value.int .u8 0).cells n).size = n := by
 rw [size_zeroCells]
 simp [Value.cells]
theorem run_append_zeros (w : World) (ty : TypeId) (B : Nat) (v : Value) (l : List UInt8) (n : Nat) (hown : BRow w B v l) (h0 : l ≠ []) (hb : l.length + n < 100000000000) (hB : B ≤ w.heap.size) :
  ∃ v' w', (Builtin.append_ #[28, 3] ty #[v, .int .i64 (n : Int)]).run Tryz.prog w = .ok v' w' ∧ BRow w' B v' (l ++ List.replicate n 0) ∧ w.grownBy w' v.ownBlock := by
 obtain ⟨i0, hi0, he⟩ := Option.map_eq_some_iff.1 info_byte
 simp only [Prod.mk.injEq] at he
 obtain ⟨hz, hsz, hby⟩ := he
 have ht := Tryz.underlying28
 have hti := Tryz.underlying3
 obtain ⟨_, ⟨_, e⟩ | ⟨g, cap, cur, rfl, hbg, hg, hnc, hcm, hcs, htake⟩⟩ := id hown
 ·exact absurd (List.eq_nil_of_length_eq_zero e) h0
 have hw : IntKind.i64.wrap (n : Int) = n := by rw [IntKind.wrap_i64]; omega
 have h1 : ¬ ((n : Int) < 0) := by omega
 have h2 : ¬ (281474976710656 < (n : Int)) := by omega
 have hlen : (u8s (l ++ List.replicate n 0)).length = (l ++ List.replicate n 0).length * 1 := by rw [u8s_length, Nat.mul_one]
 rw [Nat.mul_one] at hcs htake
 by_cases hroom : l.length + n ≤ cap
 ·have hst := run_storeCells_at Tryz.prog g l.length 5 (u8s (List.replicate n 0)) 0 cur w hg (by rw [u8s_length, List.length_replicate, hcs]; omega) (u8s_one _)
  simp only [Nat.add_zero] at hst
  by_cases hn : n = 0
  ·subst hn
   refine ⟨.slice (some ⟨g, 0, none⟩) (l.length + 0) cap, w, ?_, by simpa using hown, ⟨rfl, rfl, rfl, Nat.le_refl _, fun _ _ _ => rfl⟩⟩
   have hw0 : IntKind.i64.wrap 0 = 0 := by rw [IntKind.wrap_i64]; omega
   have hr0 : l.length ≤ cap := by omega
   simp [Builtin.append_, run_underlying ht, run_underlying hti, sizeOf, typeInfo, hi0, hw0, hr0, asInt, asIntOf, storeCells]
  ·refine ⟨.slice (some ⟨g, 0, none⟩) (l.length + n) cap, w.setRow g (cur.toList.take l.length ++ u8s (List.replicate n 0) ++ cur.toList.drop (l.length + (u8s (List.replicate n 0)).length)).toArray, ?_, ?_, ?_⟩
   ·simp [Builtin.append_, run_underlying ht, run_underlying hti, sizeOf, typeInfo, hi0, hby, hsz, hw, h1, h2, hn, hroom, asInt, asIntOf, zeroValue, hz, u8s_zeros, Addr.add_lit, hst]
   ·refine ⟨hlen, .inr ⟨g, cap, _, by rw [List.length_append, List.length_replicate], hbg, setRow_heap w g cur _ 5 _ hg, by rw [List.length_append, List.length_replicate]; exact hroom, hcm, ?_, ?_⟩⟩
    ·simp only [List.size_toArray, List.length_append, List.length_take, List.length_drop, Array.length_toList, u8s_length, List.length_replicate]
     omega
    ·rw [Nat.mul_one, htake, u8s_app]
     show List.take _ ((u8s l ++ u8s (List.replicate n 0)) ++ _) = _
     rw [List.take_append_of_le_length (by rw [List.length_append, List.length_append, u8s_length, u8s_length]; exact Nat.le_refl _), List.take_of_length_le (by rw [List.length_append, List.length_append, u8s_length, u8s_length]; exact Nat.le_refl _)]
   ·exact ⟨rfl, rfl, rfl, by simp, fun k _ hk => setRow_other w g k _ (fun e => hk (by simp [Value.ownBlock, e]))⟩
 ·have hn : n ≠ 0 := by omega
  have holds : ∀ j u, (u8s l)[j]? = some u → w.drew.cell? ((⟨g, 0, none⟩ : Addr).add j) = some u := fun j u hj => by
   have := World.ownsRow.cells hown (g := g) rfl j u hj
   simpa using this
  have hfo := run_firstCells_some (P := Tryz.prog) w.drew 1 l.length ⟨g, 0, none⟩ l.length cap (u8s l) (by rw [u8s_length, Nat.mul_one]) holds
  have h63 : ¬ (9223372036854775807 < ((l.length : Int) + (n : Int))) := by omega
  have h48 : ¬ (281474976710656 < Builtin.nextslicecap (l.length + n) cap) := by
   have := growslice_fits (bytes := 1) (need := l.length + n) (old := cap) (by omega) (by omega)
   omega
  refine ⟨.slice (some ⟨w.heap.size, 0, none⟩) (l.length + n) (grownCap w (l.length + n) cap 5), w.drew.alloc (.cells ((u8s l).toArray ++ (u8s (List.replicate n 0)).toArray ++ Builtin.zeroCells (Value.int .u8 0).cells (grownCap w (l.length + n) cap 5 - (l.length + n))) 5), ?_, ?_, ?_⟩
  ·simp [Builtin.append_, run_underlying ht, run_underlying hti, sizeOf, typeInfo, hi0, hby, hsz, hw, h1, h2, hn, hroom, h63, h48, asInt, asIntOf, zeroValue, hz, Question.forced, hfo, newRow, grownCap]
   congr 2
   apply Array.ext'
   simp [u8s_zeros]
  ·have hge := grownCap_ge w (l.length + n) cap 5
   refine ⟨hlen, .inr ⟨w.heap.size, grownCap w (l.length + n) cap 5, _, by rw [List.length_append, List.length_replicate], hB, heap_alloc_new w.drew _, by rw [List.length_append, List.length_replicate]; exact hge, grownCap_le_maxLen w _ _ _ (by unfold maxLen; omega), ?_, ?_⟩⟩
   ·simp only [Array.size_append, List.size_toArray, zeros_size, u8s_length, List.length_replicate]
    omega
   ·rw [Nat.mul_one, u8s_app]
    simp only [Array.toList_append]
    rw [List.take_append_of_le_length (by simp [u8s_length]), List.take_of_length_le (by simp [u8s_length])]
  ·exact ⟨rfl, rfl, rfl, by simp, fun k hk _ => (World.grownBy_alloc w.drew _ none).block k hk (by simp)⟩
variable {w w' : World} {B : Nat} {v : Value} {l : List UInt8}
theorem wpList_append_zeros {ops : Array Oper} {rest : List Oper} {o : Oper} {a : Act} {w : World} {Q : Exit → Act → World → Prop} (hgd : o.guard = none) (s x : Operand) (ho : o.op = .call { callee := .builtin .append, args := #[s, x], argTypes := #[28, 3] })
  (B : Nat) (v : Value) (l : List UInt8) (n : Nat) (hs : a.eval s = v) (hown : BRow w B v l) (h0 : l ≠ []) (hx : a.eval x = .int .i64 (n : Int)) (hb : l.length + n < 100000000000) (hB : B ≤ w.heap.size)
  (h : ∀ v' w', BRow w' B v' (l ++ List.replicate n 0) → Below B w w' → wpList Tryz.prog ops Q rest (a.put o.dst v') w') : wpList Tryz.prog ops Q (o :: rest) a w := by
 obtain ⟨v', w', hrun, hown', hgr⟩ := run_append_zeros w o.type B v l n hown h0 hb hB
 refine wpList_plain hgd fun K hK => ?_
 unfold Oper.wp
 simp [execOp, ho, resolve, invoke, builtin, hs, hx, hrun, Result.andThen]
 exact hK _ _ (h v' w' hown' (hown.below hgr hB))
theorem BRow.some (h : BRow w B v l) (h0 : l ≠ []) : ∃ g cap, v = .slice (some ⟨g, 0, none⟩) l.length cap ∧ l.length ≤ cap ∧ cap ≤ maxLen ∧ B ≤ g ∧ g < w.heap.size ∧ w.rangeAt g 0 (u8s l) := by
 have h' := h
 obtain ⟨_, ⟨_, e⟩ | ⟨g, cap, cur, rfl, hbg, hg, hnc, hcm, hcs, htake⟩⟩ := h
 ·exact absurd (List.eq_nil_of_length_eq_zero e) h0
 ·refine ⟨g, cap, rfl, hnc, hcm, hbg, (Array.getElem?_eq_some_iff.1 hg).1, fun j u hj => ?_⟩
  have := World.ownsRow.cells h' (g := g) rfl j u hj
  rw [Addr.add_lit] at this
  exact this
theorem row8_of {w : World} {g off : Nat} {l : List UInt8} (h : w.rangeAt g off (u8s l)) : Crc.Row8 w (g + 1) (some ⟨g, off, none⟩) l :=
 .inr ⟨g, off, rfl, Nat.lt_succ_self _, fun i hi => h i _ (by simp only [u8s, List.getElem?_map, List.getElem?_eq_getElem hi, Option.map_some]; unfold Crc.at8; rw [Crc.getD_at _ _ hi])⟩
def sealB (l : List UInt8) : List UInt8 := l ++ numB (Crc.sum l).toNat 4 ++ List.replicate (124 - l.length) 0
theorem sealB_length (l : List UInt8) (h : l.length ≤ 124) : (sealB l).length = 128 := by
 simp only [sealB, List.length_append, numB_length, List.length_replicate]
 omega
theorem sealed_at (B : Nat) (v : Value) (l : List UInt8) (w : World) (h : BRow w B v l) (h0 : l ≠ []) (hl : l.length ≤ 124) (hB : B ≤ w.heap.size) :
  Calls Tryz.prog 90 #[v] w fun e w' => ∃ v', e = .returned v' ∧ BRow w' B v' (sealB l) ∧ Below B w w' := by
 obtain ⟨g, cap, rfl, hlc, hcm, hg, hgl, hr⟩ := h.some h0
 have hlo := Crc.u_lo (Crc.sum l)
 have hhi := Crc.u_hi (Crc.sum l)
 have HR := Lib.hid (row8_of hr)
 have HROW := Lib.hid h
 have H0 := Lib.hid h0
 have HB := Lib.hid hB
 have HL := Lib.hid hl
 clear hr h h0 hB hl
 go_enter Tryz.func90, Tryz.ntmps90
 go_wp2_with fail
 refine (Crc.sum_any _ l cap (g + 1) w (by have := HL.out; omega) HR.out).mono ?_
 rintro e w' ⟨rfl, rfl⟩
 go_wp2_with fail
 refine (number_at B _ l (Crc.sum l).toNat 4 (by decide) (by have := (Crc.sum l).isLt; omega) w HROW.out (by have := HL.out; omega) HB.out).mono ?_
 rintro e w1 ⟨v1, rfl, hr1, hb1⟩
 have HB1 := Lib.hid hb1
 obtain ⟨g1, cap1, rfl, hlc1, hcm1, hg1, hgl1, _⟩ := hr1.some (by simp [H0.out])
 have e1 : (l ++ numB (Crc.sum l).toNat 4).length = l.length + 4 := by rw [List.length_append, numB_length]
 have HN : Hid (∀ n : Nat, n = 124 - l.length → (l ++ numB (Crc.sum l).toNat 4).length + n < 100000000000) := fun n hn => by have := HL.out; omega
 rw [e1] at hlc1 hr1 ⊢
 have HR1 := Lib.hid hr1
 have HI : Hid (wrap64 ((128 : Int) - ((l.length : Int) + 4)) = ((124 - l.length : Nat) : Int)) := by show _ = _; have := HL.out; unfold wrap64; omega
 have HNE : Hid (l ++ numB (Crc.sum l).toNat 4 ≠ []) := by show _ ≠ _; simp [H0.out]
 clear hb1 hr1 e1
 go_wp2_with (first
  | (at_builtin; (refine wpList_append_zeros rfl (.tmp 8) (.tmp 11) rfl B _ _ (124 - l.length) rfl HR1.out HNE.out (congrArg (Value.int .i64) HI.out) (HN.out _ rfl) (Nat.le_trans HB.out HB1.out.size) ?_; intro v3 w3 hr3 hb3; go_frame))
  | fail)
 go_ret
 exact ⟨_, rfl, hr3, HB1.out.trans hb3⟩
end Go.Proofs.YtgdedgfohjplmaaGreat.Jnl
namespace Go.Proofs.YtgdedgfohjplmaaGreat.Jnl
open Go.RowKit Go.Maps Sec
def headL (g o f n : Nat) : List UInt8 := [72] ++ numB g 8 ++ numB o 8 ++ numB f 8 ++ numB n 4
def headB (g o f n : Nat) : List UInt8 := sealB (headL g o f n)
theorem headL_length (g o f n : Nat) : (headL g o f n).length = 29 := by simp [headL, numB_length]
theorem headB_length (g o f n : Nat) : (headB g o f n).length = 128 := sealB_length _ (by rw [headL_length]; decide)
def headUp (g o f : Nat) : Nat → List UInt8
 | 0 => [72]
 | 1 => [72] ++ numB g 8
 | 2 => [72] ++ numB g 8 ++ numB o 8
 | _ => [72] ++ numB g 8 ++ numB o 8 ++ numB f 8
theorem headUp_length (g o f k : Nat) : (headUp g o f k).length ≤ 25 := by
 unfold headUp
 split <;> simp [numB_length]
theorem info_i64 : (Tryz.prog.info? 2).map (fun i => (i.zero, i.size, i.bytes)) = some (some (.int .i64 0), 1, 8) := by kernel_rfl
theorem run_idx3 (w : World) (x y z : Int) : (Instr.index 131 (.agg #[.int .i64 x, .int .i64 y, .int .i64 z]) (.int .i64 0)).run Tryz.prog w = .ok (.int .i64 x) w ∧ (Instr.index 131 (.agg #[.int .i64 x, .int .i64 y, .int .i64 z]) (.int .i64 1)).run Tryz.prog w = .ok (.int .i64 y) w ∧ (Instr.index 131 (.agg #[.int .i64 x, .int .i64 y, .int .i64 z]) (.int .i64 2)).run Tryz.prog w = .ok (.int .i64 z) w := by
 obtain ⟨i0, hi0, he⟩ := Option.map_eq_some_iff.1 info_i64
 simp only [Prod.mk.injEq] at he
 refine ⟨?_, ?_, ?_⟩ <;> simp [Instr.index, run_underlying Tryz.underlying131, asIntOf, sizeOf, typeInfo, hi0, he.2.1, part]
theorem head_bytes_at (g o f n : Nat) (hg : g < 9223372036854775808) (ho : o < 9223372036854775808) (hf : f < 9223372036854775808) (hn : n < 9223372036854775808) (w : World) :
  Calls Tryz.prog 63 #[.agg #[.int .i64 (g : Int), .int .i64 (o : Int), .int .i64 (f : Int), .int .i64 (n : Int)]] w fun e w' => ∃ v', e = .returned v' ∧ BRow w' w.heap.size v' (headB g o f n) ∧ Below w.heap.size w w' := by
 have HG := Lib.hid hg
 have HO := Lib.hid ho
 have HF := Lib.hid hf
 have HN := Lib.hid hn
 clear hg ho hf hn
 go_enter Tryz.func63, Tryz.ntmps63
 go_wp2_with fail
 obtain ⟨y, hy⟩ : ∃ y, y = (w.alloc (.cells #[.int .i64 (g : Int), .int .i64 (o : Int), .int .i64 (f : Int), .int .i64 (n : Int)] 47)).alloc (.cells #[.int .u8 72] 5) := ⟨_, rfl⟩
 have hgy : w.grownBy y none := by rw [hy]; exact (World.grownBy_alloc w _ none).andThen (World.grownBy_alloc _ _ none) (by simp)
 have s1 : (w.alloc (.cells #[.int .i64 (g : Int), .int .i64 (o : Int), .int .i64 (f : Int), .int .i64 (n : Int)] 47)).heap.size = w.heap.size + 1 := World.size_alloc ..
 have hc3 : y.cell? ⟨w.heap.size, 3, none⟩ = some (.int .i64 (n : Int)) := by
  have h1 := (MapKept.heap_alloc w (.cells #[.int .i64 (g : Int), .int .i64 (o : Int), .int .i64 (f : Int), .int .i64 (n : Int)] 47)).1
  have h2 := (World.grownBy_alloc (w.alloc (.cells #[.int .i64 (g : Int), .int .i64 (o : Int), .int .i64 (f : Int), .int .i64 (n : Int)] 47)) (.cells #[.int .u8 72] 5) none).block w.heap.size (by omega) (by simp)
  rw [h1, ← hy] at h2
  simp only [World.cell?, h2]
  rfl
 have hr0 : BRow y (w.heap.size + 1) (.slice (some ⟨w.heap.size + 1, 0, none⟩) 1 1) [72] := by
  have := World.ownsRow_lit (base := w.heap.size + 1) (e := 5) (size := 1) (w.alloc (.cells #[.int .i64 (g : Int), .int .i64 (o : Int), .int .i64 (f : Int), .int .i64 (n : Int)] 47)) #[.int .u8 72] 1 (by omega) (by decide) rfl
  rw [s1, ← hy] at this
  exact this
 have hsy : y.heap.size = w.heap.size + 2 := by rw [hy, World.size_alloc, s1]
 rw [← hy]
 have HC3 := Lib.hid hc3
 have HR0 := Lib.hid hr0
 have HGY := Lib.hid hgy
 have HSY := Lib.hid hsy
 clear hc3 hr0 hgy s1 hsy hy
 go_loopw [3, 5, 14] (fun u _ i wr => Below (w.heap.size + 1) y wr ∧ ((i = .int .i64 0 ∧ BRow wr (w.heap.size + 1) u (headUp g o f 0)) ∨ (i = .int .i64 1 ∧ BRow wr (w.heap.size + 1) u (headUp g o f 1)) ∨ (i = .int .i64 2 ∧ BRow wr (w.heap.size + 1) u (headUp g o f 2)) ∨ (i = .int .i64 3 ∧ BRow wr (w.heap.size + 1) u (headUp g o f 3)))) (fun _ _ i _ => 3 - (intOf i).toNat)
 case atStart => exact ⟨Below.refl _ _, .inl ⟨rfl, HR0.out⟩⟩
 case round =>
  obtain ⟨hb, hrel⟩ := hrel
  have HB := Lib.hid hb
  have HBS : Hid (w.heap.size + 1 ≤ wr.heap.size) := by have h1 := hb.size; have h2 := HSY.out; show _ ≤ _; omega
  clear hb
  obtain ⟨rfl, hrow⟩ | ⟨rfl, hrow⟩ | ⟨rfl, hrow⟩ | ⟨rfl, hrow⟩ := hrel
  ·have HROW := Lib.hid hrow
   have hx := fun w : World => (run_idx3 w g o f).1
   clear hrow
   go_wp2_with fail
   refine (number_at (w.heap.size + 1) _ (headUp g o f 0) g 8 (by decide) HG.out wr HROW.out (by have := headUp_length g o f 0; omega) HBS.out).mono ?_
   rintro e w2 ⟨v2, rfl, hr2, hb2⟩
   go_wp2_with fail
   go_roundw
   case rel => exact ⟨HB.out.trans hb2, .inr (.inl ⟨rfl, hr2⟩)⟩
   case measure => decide
  ·have HROW := Lib.hid hrow
   have hx := fun w : World => (run_idx3 w g o f).2.1
   clear hrow
   go_wp2_with fail
   refine (number_at (w.heap.size + 1) _ (headUp g o f 1) o 8 (by decide) HO.out wr HROW.out (by have := headUp_length g o f 1; omega) HBS.out).mono ?_
   rintro e w2 ⟨v2, rfl, hr2, hb2⟩
   go_wp2_with fail
   go_roundw
   case rel => exact ⟨HB.out.trans hb2, .inr (.inr (.inl ⟨rfl, hr2⟩))⟩
   case measure => decide
  ·have HROW := Lib.hid hrow
   have hx := fun w : World => (run_idx3 w g o f).2.2
   clear hrow
   go_wp2_with fail
   refine (number_at (w.heap.size + 1) _ (headUp g o f 2) f 8 (by decide) HF.out wr HROW.out (by have := headUp_length g o f 2; omega) HBS.out).mono ?_
   rintro e w2 ⟨v2, rfl, hr2, hb2⟩
   go_wp2_with fail
   go_roundw
   case rel => exact ⟨HB.out.trans hb2, .inr (.inr (.inr ⟨rfl, hr2⟩))⟩
   case measure => decide
  ·have HROW := Lib.hid hrow
   have hc3 : wr.cell? ⟨w.heap.size, 3, none⟩ = some (.int .i64 (n : Int)) := (HB.out.cell (by show w.heap.size < _; omega)).trans HC3.out
   clear hrow
   go_wp2_with fail
   refine (number_at (w.heap.size + 1) _ (headUp g o f 3) n 4 (by decide) HN.out wr HROW.out (by have := headUp_length g o f 3; omega) HBS.out).mono ?_
   rintro e w2 ⟨v2, rfl, hr2, hb2⟩
   have HB2 := Lib.hid hb2
   have HR2 := Lib.hid hr2
   clear hb2 hr2
   go_wp2_with fail
   refine (sealed_at (w.heap.size + 1) _ (headL g o f n) w2 HR2.out (by simp [headL]) (by rw [headL_length]; decide) (Nat.le_trans HBS.out HB2.out.size)).mono ?_
   rintro e w3 ⟨v3, rfl, hr3, hb3⟩
   go_wp2_with fail
   go_ret
   have hbl : Below (w.heap.size + 1) y w3 := (HB.out.trans HB2.out).trans hb3
   refine ⟨_, rfl, ?_, (grown_below0 HGY.out (Nat.le_refl _)).trans (hbl.mono (by omega))⟩
   have : BRow w3 (w.heap.size + 1) v3 (headB g o f n) := hr3
   obtain ⟨h1, h2 | ⟨gg, cap, cur, e, hB, h3⟩⟩ := this
   ·exact ⟨h1, .inl h2⟩
   ·exact ⟨h1, .inr ⟨gg, cap, cur, e, by omega, h3⟩⟩
theorem numB_get (x : Nat) : ∀ (s k : Nat), k < s → (numB x s)[k]? = some (UInt8.ofNat (x / 256 ^ (s - 1 - k)))
 | 0, k, h => by omega
 | s + 1, 0, _ => by simp [numB]
 | s + 1, k + 1, h => by
  have := numB_get x s k (by omega)
  simp only [numB, List.getElem?_cons_succ, this]
  rw [show s + 1 - 1 - (k + 1) = s - 1 - k by omega]
theorem or_byte (a c : Nat) (hc : c < 256) (ha : a * 256 + c < 9223372036854775808) : bits .or .u64 (IntKind.u64.wrap ((a : Int) * 256)) (c : Int) = ((a * 256 + c : Nat) : Int) := by
 have h : a * 256 + c = a * 256 ||| c := by
  have := Nat.shiftLeft_add_eq_or_of_lt (b := c) (i := 8) hc a
  rw [Nat.shiftLeft_eq] at this
  exact this
 have hw : IntKind.u64.wrap ((a : Int) * 256) = ((a * 256 : Nat) : Int) := by
  rw [IntKind.wrap_u64]
  omega
 rw [hw, h]
 show IntKind.u64.wrap ((BitVec.ofInt 64 ((a * 256 : Nat) : Int) ||| BitVec.ofInt 64 (c : Int)).toNat : Int) = _
 have l1 : a * 256 < 2 ^ 64 := Nat.lt_trans (m := 9223372036854775808) (by omega) (by decide)
 have l2 : c < 2 ^ 64 := Nat.lt_trans (m := 256) hc (by decide)
 rw [IntKind.wrap_u64, BitVec.toNat_or, BitVec.ofInt_natCast, BitVec.ofInt_natCast, BitVec.toNat_ofNat, BitVec.toNat_ofNat, Nat.mod_eq_of_lt l1, Nat.mod_eq_of_lt l2, ← h]
 omega
theorem read_at (g off n cap : Nat) (l : List UInt8) (x s : Nat) (w : World) (hr : w.rangeAt g off (u8s l)) (hn : l.length = n) (hs : s ≤ 8) (hsn : s < n) (hnc : n ≤ cap) (hcm : cap ≤ maxLen) (hx : l.take s = numB x s) (hx63 : x < 256 ^ s) (hx64 : x < 9223372036854775808) :
  Calls Tryz.prog 86 #[.slice (some ⟨g, off, none⟩) n cap, .int .i64 (s : Int)] w fun e w' => e = .returned (.tuple #[.int .i64 (x : Int), .slice (some ⟨g, off + s, none⟩) (n - s) (cap - s)]) ∧ ∃ m, w' = w.drewN m := by
 have HR := Lib.hid hr
 have HX := Lib.hid hx
 have HN := Lib.hid hn
 have H63 := Lib.hid hx63
 have H64 := Lib.hid hx64
 clear hr hx hn hx63 hx64
 unfold maxLen at hcm
 go_enter Tryz.func86, Tryz.ntmps86
 go_wp2_with fail
 go_loop [6, 13] (fun u i => ∃ k : Nat, k ≤ s ∧ i = .int .i64 (k : Int) ∧ u = .int .u64 ((x / 256 ^ (s - k) : Nat) : Int)) (fun _ i => s - (intOf i).toNat)
 case atStart =>
  refine ⟨0, Nat.zero_le _, rfl, ?_⟩
  rw [Nat.sub_zero, Nat.div_eq_of_lt H63.out]
  rfl
 case round =>
  obtain ⟨k, hk, rfl, rfl⟩ := hrel
  by_cases hlt : k < s
  ·have hd : decide ((k : Int) < (s : Int)) = true := by simp; omega
   obtain ⟨c, hc⟩ : ∃ c, c = UInt8.ofNat (x / 256 ^ (s - 1 - k)) := ⟨_, rfl⟩
   have hck : w.cell? ⟨g, off + k, none⟩ = some (.int .u8 (c.toNat : Int)) := by
    have h1 : l[k]? = some c := by
     have h2 := numB_get x s k hlt
     rw [← HX.out, List.getElem?_take] at h2
     rw [if_pos hlt] at h2
     rw [h2, hc]
    have := HR.out k (.int .u8 (c.toNat : Int)) (by simp [u8s, h1])
    exact this
   have HC : Hid (bits BinOp.or IntKind.u64 (IntKind.u64.wrap ((x : Int) / 256 ^ (s - k) * 256)) ((x : Int) / 256 ^ (s - 1 - k) % 256) = ((x / 256 ^ (s - (k + 1)) : Nat) : Int)) := by
    show _ = _
    have h1 : x / 256 ^ (s - (k + 1)) = x / 256 ^ (s - k) * 256 + x / 256 ^ (s - 1 - k) % 256 := by
     rw [show s - (k + 1) = s - 1 - k by omega, show s - k = (s - 1 - k) + 1 by omega, Nat.pow_succ, ← Nat.div_div_eq_div_mul]
     omega
    have h2 : x / 256 ^ (s - (k + 1)) < 9223372036854775808 := Nat.lt_of_le_of_lt (Nat.div_le_self _ _) H64.out
    have h3 := or_byte (x / 256 ^ (s - k)) (x / 256 ^ (s - 1 - k) % 256) (Nat.mod_lt _ (by decide)) (by omega)
    rw [h1, ← h3]
    rfl
   go_wp2_with fail
   go_roundw
   case rel => exact ⟨k + 1, hlt, by rw [Int.natCast_add]; rfl, congrArg (Value.int .u64) HC.out⟩
   case measure => simp only [intOf]; omega
  ·obtain rfl : k = s := by omega
   have hd : decide ((k : Int) < (k : Int)) = false := by simp
   have e0 : x / 256 ^ (k - k) = x := by rw [Nat.sub_self, Nat.pow_zero, Nat.div_one]
   rw [e0]
   have x0 : (0 : Int) ≤ (x : Int) := by omega
   have x1 : (x : Int) ≤ 9223372036854775807 := by have := H64.out; omega
   have k1 : (k : Int) ≤ (n : Int) := by omega
   have k2 : (n : Int) ≤ (cap : Int) := by omega
   go_wp2_with fail
   go_quiet (fail)
   go_wp2_with fail
   go_ret2
   exact ⟨rfl, nq, rfl⟩
def partL (c : UInt8) (s k i n : Nat) (l : List UInt8) : List UInt8 := [c] ++ numB s 8 ++ numB k 8 ++ numB i 2 ++ numB n 2 ++ [UInt8.ofNat l.length] ++ l ++ List.replicate (102 - l.length) 0
def partB (c : UInt8) (s k i n : Nat) (l : List UInt8) : List UInt8 := sealB (partL c s k i n l)
theorem partL_length (c : UInt8) (s k i n : Nat) (l : List UInt8) (h : l.length ≤ 102) : (partL c s k i n l).length = 124 := by
 simp [partL, numB_length]
 omega
theorem partB_length (c : UInt8) (s k i n : Nat) (l : List UInt8) (h : l.length ≤ 102) : (partB c s k i n l).length = 128 := sealB_length _ (by rw [partL_length _ _ _ _ _ _ h]; decide)
theorem below_drew (B : Nat) (w : World) : Below B w w.drew := ⟨rfl, rfl, rfl, Nat.le_refl _, fun _ _ => rfl⟩
theorem BRow.drew {w : World} {B : Nat} {v : Value} {l : List UInt8} (h : BRow w B v l) : BRow w.drew B v l := h
section
variable {ops : Array Oper} {o : Oper} {a : Act} {w : World} {K : Act → World → Prop} {Q : Exit → Act → World → Prop} {E : Prop}
theorem step_append_bytes (hg : o.guard = none) (s x : Operand) (hop : o.op = Op.call { callee := Callee.builtin Builtin.append, args := #[s, x], argTypes := #[28, 28] })
  (B : Nat) (v : Value) (l m : List UInt8) (A : Option Addr) (n cap : Nat) (hn : m.length = n) (hs : a.eval s = v) (hown : BRow w B v l) (hx : a.eval x = .slice A n cap)
  (hc : (m = [] ∧ cap = 0) ∨ ∃ g off, A = some ⟨g, off, none⟩ ∧ w.rangeAt g off (u8s m)) (hb : l.length + n < 100000000000) (hB : B ≤ w.heap.size)
  (hK : ∀ v' w', BRow w' B v' (l ++ m) → Below B w w' → K (a.put o.dst v') w') :
  if Region.wanted o (yielded ops a.tmps) = true then Oper.wp Tryz.prog o a w K Q else E := by
 have hw : Region.wanted o (yielded ops a.tmps) = true := by simp [Region.wanted, hg]
 rw [if_pos hw]
 obtain ⟨i0, hi0, he⟩ := Option.map_eq_some_iff.1 info_byte
 simp only [Prod.mk.injEq] at he
 subst hn
 have hx0 : (A = none ∧ m = [] ∧ cap = 0) ∨ ∃ x, A = some x ∧ ∀ j u, (u8s m)[j]? = some u → w.cell? (x.add j) = some u := by
  rcases hc with ⟨h1, h2⟩ | ⟨g, off, h1, hr⟩
  ·cases A with
   | none => exact .inl ⟨rfl, h1, h2⟩
   | some x => exact .inr ⟨x, rfl, fun j u hj => by rw [h1] at hj; simp [u8s] at hj⟩
  ·exact .inr ⟨_, h1, fun j u hj => by have := hr j u hj; rw [Addr.add_lit]; exact this⟩
 rcases hx0 with ⟨rfl, rfl, rfl⟩ | ⟨x0, rfl, hr⟩
 ·have hrun := run_append_owned_none (P := Tryz.prog) w B 28 o.type 5 i0 1 Tryz.underlying28 hi0 v l.length _ hown
  unfold Oper.wp
  simp [execOp, hop, resolve, invoke, builtin, hs, hx]
  simp only [hrun, Result.andThen]
  exact hK v w (by rw [List.append_nil]; exact hown) (Below.refl _ _)
 ·obtain ⟨v', w', hrun, hown', hgr, _⟩ := run_append_own (P := Tryz.prog) w B 28 o.type 5 i0 _ 1 1 Tryz.underlying28 hi0 he.1 he.2.1 he.2.2 rfl (by decide) v l.length _ hown x0 m.length cap (u8s m) (by rw [u8s_length, Nat.mul_one]) hr (u8s_one m) (by unfold maxLen; omega) (by omega) hB
  unfold Oper.wp
  simp [execOp, hop, resolve, invoke, builtin, hs, hx, hrun, Result.andThen]
  refine hK v' w' ?_ (hown.below hgr hB)
  unfold BRow
  rw [List.length_append, u8s_app]
  exact hown'
end
theorem part_bytes_at (c : UInt8) (s k i n : Nat) (l : List UInt8) (A : Option Addr) (cap : Nat) (hs : s < 9223372036854775808) (hk : k < 9223372036854775808) (hi : i < 9223372036854775808) (hn : n < 9223372036854775808) (hl : l.length ≤ 102) (w : World)
  (hA : (l = [] ∧ cap = 0) ∨ ∃ g off, A = some ⟨g, off, none⟩ ∧ g < w.heap.size ∧ w.rangeAt g off (u8s l)) :
  Calls Tryz.prog 62 #[.agg #[.int .u8 (c.toNat : Int), .int .i64 (s : Int), .int .i64 (k : Int), .int .i64 (i : Int), .int .i64 (n : Int), .slice A l.length cap]] w fun e w' => ∃ v', e = .returned v' ∧ BRow w' w.heap.size v' (partB c s k i n l) ∧ Below w.heap.size w w' := by
 have HS := Lib.hid hs
 have HK := Lib.hid hk
 have HI := Lib.hid hi
 have HN := Lib.hid hn
 have HL := Lib.hid hl
 have HA := Lib.hid hA
 clear hs hk hi hn hl hA
 go_enter Tryz.func62, Tryz.ntmps62
 go_wp2_with fail
 have hc := (MapKept.heap_alloc w (.cells #[.int .u8 (c.toNat : Int), .int .i64 (s : Int), .int .i64 (k : Int), .int .i64 (i : Int), .int .i64 (n : Int), .slice A l.length cap] 93)).1
 have hgy := World.grownBy_alloc w (.cells #[.int .u8 (c.toNat : Int), .int .i64 (s : Int), .int .i64 (k : Int), .int .i64 (i : Int), .int .i64 (n : Int), .slice A l.length cap] 93) none
 have hsy : (w.alloc (.cells #[.int .u8 (c.toNat : Int), .int .i64 (s : Int), .int .i64 (k : Int), .int .i64 (i : Int), .int .i64 (n : Int), .slice A l.length cap] 93)).heap.size = w.heap.size + 1 := World.size_alloc ..
 obtain ⟨y, hy⟩ : ∃ y, y = w.alloc (.cells #[.int .u8 (c.toNat : Int), .int .i64 (s : Int), .int .i64 (k : Int), .int .i64 (i : Int), .int .i64 (n : Int), .slice A l.length cap] 93) := ⟨_, rfl⟩
 rw [← hy] at hc hgy hsy ⊢
 have HC : Hid (∀ v, Below (w.heap.size + 1) y v → v.cell? ⟨w.heap.size, 0, none⟩ = some (.int .u8 (c.toNat : Int)) ∧ v.cell? ⟨w.heap.size, 1, none⟩ = some (.int .i64 (s : Int)) ∧ v.cell? ⟨w.heap.size, 2, none⟩ = some (.int .i64 (k : Int)) ∧ v.cell? ⟨w.heap.size, 3, none⟩ = some (.int .i64 (i : Int)) ∧ v.cell? ⟨w.heap.size, 4, none⟩ = some (.int .i64 (n : Int)) ∧ v.cell? ⟨w.heap.size, 5, none⟩ = some (.slice A l.length cap)) := fun v hv => by
  have hb := (hv.block w.heap.size (by omega)).trans hc
  refine ⟨?_, ?_, ?_, ?_, ?_, ?_⟩ <;> (simp only [World.cell?, hb]; rfl)
 have HGY := Lib.hid hgy
 have HYD : Hid (Below (w.heap.size + 1) y y.drew) := below_drew _ _
 have HYS : Hid (w.heap.size + 1 ≤ (y.drew.alloc (.cells #[.int .u8 (c.toNat : Int)] 5)).heap.size) := by show _ ≤ _; rw [World.size_alloc]; show _ ≤ y.heap.size + 1; omega
 have HYA : Hid (Below (w.heap.size + 1) y (y.drew.alloc (.cells #[.int .u8 (c.toNat : Int)] 5))) := (below_drew _ _).trans (grown_below0 (World.grownBy_alloc y.drew _ none) (by show _ ≤ y.heap.size; omega))
 have HROW : Hid (BRow (y.drew.alloc (.cells #[.int .u8 (c.toNat : Int)] 5)) (w.heap.size + 1) (.slice (some ⟨y.heap.size, 0, none⟩) 1 1) [c]) :=
  World.ownsRow_lit (base := w.heap.size + 1) (e := 5) (size := 1) y.drew #[.int .u8 (c.toNat : Int)] 1 (by show _ ≤ y.heap.size; omega) (by decide) rfl
 clear hc hgy hsy hy
 refine wp_region_noPanic ?_
 refine wp_region_held_drew (S := fun w' => w'.cell? ⟨w.heap.size, 0, none⟩ = some (Value.int .u8 (c.toNat : Int)) ∧ w'.cell? ⟨w.heap.size, 1, none⟩ = some (Value.int .i64 (s : Int)) ∧ w'.cell? ⟨w.heap.size, 2, none⟩ = some (Value.int .i64 (k : Int))) (by kernel_rfl) ?hSa (fun hHeld => ?_)
 case hSa => exact ⟨(HC.out _ (HYD.out)).1, (HC.out _ (HYD.out)).2.1, (HC.out _ (HYD.out)).2.2.1⟩
 refine ztk 0 rfl ?_
 refine ztk 1 rfl ?_
 refine ztk 3 rfl ?_
 refine ztk 4 rfl ?_
 refine ztk 6 rfl ?_
 refine ztk 7 rfl ?_
 refine zrd 2 rfl (fun K hK => ?_)
 go_simp
 refine hK.out _ _ ?q (fun hHeld => ?_)
 case q => (try dsimp only); exact ⟨(HC.out _ (HYA.out)).1, (HC.out _ (HYA.out)).2.1, (HC.out _ (HYA.out)).2.2.1⟩
 clear hK K
 try simp only [zpt]
 refine zrd 5 rfl (fun K hK => ?_)
 go_simp
 refine (number_at (w.heap.size + 1) _ ([c]) s 8 (by decide) HS.out (y.drew.alloc (.cells #[.int .u8 (c.toNat : Int)] 5)) (by exact HROW.out) (by first | decide | simp [numB_length]) (by exact HYS.out)).mono ?_
 rintro e w1 ⟨vw1, rfl, hrw1, hbw1⟩
 have HRw1 := Lib.hid hrw1
 have HBw1 := Lib.hid hbw1
 clear hrw1 hbw1
 go_wp2_with fail
 refine hK.out _ _ ?q (fun hHeld => ?_)
 case q => (try dsimp only); exact ⟨(HC.out _ ((HYA.out).trans HBw1.out)).1, (HC.out _ ((HYA.out).trans HBw1.out)).2.1, (HC.out _ ((HYA.out).trans HBw1.out)).2.2.1⟩
 clear hK K
 try simp only [zpt]
 refine zrd 8 rfl (fun K hK => ?_)
 go_simp
 refine (number_at (w.heap.size + 1) _ ([c] ++ numB s 8) k 8 (by decide) HK.out (w1) (by exact HRw1.out) (by first | decide | simp [numB_length]) (by exact (Nat.le_trans HYS.out HBw1.out.size))).mono ?_
 rintro e w2 ⟨vw2, rfl, hrw2, hbw2⟩
 have HRw2 := Lib.hid hrw2
 have HBw2 := Lib.hid hbw2
 clear hrw2 hbw2
 go_wp2_with fail
 refine hK.out _ _ ?q (fun hHeld => ?_)
 case q => (try dsimp only); exact ⟨(HC.out _ (((HYA.out).trans HBw1.out).trans HBw2.out)).1, (HC.out _ (((HYA.out).trans HBw1.out).trans HBw2.out)).2.1, (HC.out _ (((HYA.out).trans HBw1.out).trans HBw2.out)).2.2.1⟩
 clear hK K
 try simp only [zpt]
 refine ztk 9 rfl ?_
 refine wpAnyH_done (by kernel_rfl) ?_ _
 refine NoPanic.normal ?_
 clear hHeld
 have HB2 : Hid (Below (w.heap.size + 1) y w2) := ((HYA.out).trans HBw1.out).trans HBw2.out
 have HS2 : Hid (w.heap.size + 1 ≤ w2.heap.size) := Nat.le_trans (Nat.le_trans HYS.out HBw1.out.size) HBw2.out.size
 clear HBw1 HBw2 HRw1
 go_wp2_with fail
 refine wp_region_noPanic ?_
 refine wp_region_held_drew (S := fun w' => w'.cell? ⟨w.heap.size, 3, none⟩ = some (Value.int .i64 (i : Int)) ∧ w'.cell? ⟨w.heap.size, 4, none⟩ = some (Value.int .i64 (n : Int))) (by kernel_rfl) ?hSb (fun hHeld => ?_)
 case hSb => exact ⟨(HC.out _ ((HB2.out.trans (below_drew _ _)))).2.2.2.1, (HC.out _ ((HB2.out.trans (below_drew _ _)))).2.2.2.2.1⟩
 refine ztk 0 rfl ?_
 refine ztk 1 rfl ?_
 refine ztk 2 rfl ?_
 refine ztk 4 rfl ?_
 refine ztk 5 rfl ?_
 refine zrd 3 rfl (fun K hK => ?_)
 go_simp
 refine (number_at (w.heap.size + 1) _ ([c] ++ numB s 8 ++ numB k 8) i 2 (by decide) HI.out (w2.drew) (by exact (HRw2.out.drew)) (by first | decide | simp [numB_length]) (by exact HS2.out)).mono ?_
 rintro e w3 ⟨vw3, rfl, hrw3, hbw3⟩
 have HRw3 := Lib.hid hrw3
 have HBw3 := Lib.hid hbw3
 clear hrw3 hbw3
 go_wp2_with fail
 refine hK.out _ _ ?q (fun hHeld => ?_)
 case q => (try dsimp only); exact ⟨(HC.out _ ((HB2.out.trans (below_drew _ _)).trans HBw3.out)).2.2.2.1, (HC.out _ ((HB2.out.trans (below_drew _ _)).trans HBw3.out)).2.2.2.2.1⟩
 clear hK K
 try simp only [zpt]
 refine zrd 6 rfl (fun K hK => ?_)
 go_simp
 refine (number_at (w.heap.size + 1) _ ([c] ++ numB s 8 ++ numB k 8 ++ numB i 2) n 2 (by decide) HN.out (w3) (by exact HRw3.out) (by first | decide | simp [numB_length]) (by exact (Nat.le_trans HS2.out HBw3.out.size))).mono ?_
 rintro e w4 ⟨vw4, rfl, hrw4, hbw4⟩
 have HRw4 := Lib.hid hrw4
 have HBw4 := Lib.hid hbw4
 clear hrw4 hbw4
 go_wp2_with fail
 refine hK.out _ _ ?q (fun hHeld => ?_)
 case q => (try dsimp only); exact ⟨(HC.out _ (((HB2.out.trans (below_drew _ _)).trans HBw3.out).trans HBw4.out)).2.2.2.1, (HC.out _ (((HB2.out.trans (below_drew _ _)).trans HBw3.out).trans HBw4.out)).2.2.2.2.1⟩
 clear hK K
 try simp only [zpt]
 refine ztk 7 rfl ?_
 refine wpAnyH_done (by kernel_rfl) ?_ _
 refine NoPanic.normal ?_
 clear hHeld
 have HB4 : Hid (Below (w.heap.size + 1) y w4) := ((HB2.out.trans (below_drew _ _)).trans HBw3.out).trans HBw4.out
 have HS4 : Hid (w.heap.size + 1 ≤ w4.heap.size) := Nat.le_trans (Nat.le_trans HS2.out HBw3.out.size) HBw4.out.size
 clear HBw3 HBw4 HRw3 HRw2 HB2 HS2
 go_wp2_with fail
 have HW : Hid (IntKind.u8.wrap (l.length : Int) = ((UInt8.ofNat l.length).toNat : Int)) := by show _ = _; have := HL.out; rw [IntKind.wrap_u8, UInt8.toNat_ofNat']; omega
 have HC5 : Hid ((w4.alloc (.cells #[.int .u8 (IntKind.u8.wrap (l.length : Int))] 5)).drew.rangeAt w4.heap.size 0 (u8s [UInt8.ofNat l.length])) := by rw [HW.out]; exact range_blk (w := (w4.alloc (.cells #[.int .u8 ((UInt8.ofNat l.length).toNat : Int)] 5)).drew) (MapKept.heap_alloc w4 _).1 rfl
 have HY5 : Hid (Below (w.heap.size + 1) y (w4.alloc (.cells #[.int .u8 (IntKind.u8.wrap (l.length : Int))] 5)).drew) := (HB4.out.trans (grown_below0 (World.grownBy_alloc w4 _ none) HS4.out)).trans (below_drew _ _)
 have HS5 : Hid (w.heap.size + 1 ≤ (w4.alloc (.cells #[.int .u8 (IntKind.u8.wrap (l.length : Int))] 5)).drew.heap.size) := Nat.le_trans HS4.out (World.grownBy_alloc w4 _ none).size
 have HAV : Hid (∀ v, Below (w.heap.size + 1) y v → (l = [] ∧ cap = 0) ∨ ∃ g off, A = some ⟨g, off, none⟩ ∧ v.rangeAt g off (u8s l)) := fun v hv => by
  rcases HA.out with h | ⟨g, off, e, hg, hr⟩
  ·exact .inl h
  ·refine .inr ⟨g, off, e, fun j x hj => ?_⟩
   have h1 := HGY.out.cell (hr j x hj) (by simp)
   exact (hv.cell (show g < w.heap.size + 1 by omega)).trans h1
 refine wp_region_noPanic ?_
 refine wp_region_held_drew (S := fun w' => w'.cell? ⟨w.heap.size, 5, none⟩ = some (Value.slice A l.length cap)) (by kernel_rfl) ?hSd (fun hHeld => ?_)
 case hSd => exact (HC.out _ ((HB4.out.trans (below_drew _ _)))).2.2.2.2.2
 refine ztk 0 rfl ?_
 refine ztk 1 rfl ?_
 refine ztk 2 rfl ?_
 refine ztk 3 rfl ?_
 refine ztk 7 rfl ?_
 refine ztk 8 rfl ?_
 refine zrd 4 rfl (fun K hK => ?_)
 go_simp
 refine hK.out _ _ ?q (fun hHeld => ?_)
 case q => (try dsimp only); exact hHeld
 clear hK K
 try simp only [zpt]
 refine zrd 5 rfl (fun K hK => ?_)
 go_simp
 refine hK.out _ _ ?q (fun hHeld => ?_)
 case q => (try dsimp only); exact (HC.out _ (HY5.out)).2.2.2.2.2
 clear hK K
 try simp only [zpt]
 refine zrd 6 rfl (fun K hK => ?_)
 refine step_append_bytes rfl (.tmp 20) (.tmp 25) rfl (w.heap.size + 1) _ ([c] ++ numB s 8 ++ numB k 8 ++ numB i 2 ++ numB n 2) [UInt8.ofNat l.length] (some ⟨w4.heap.size, 0, none⟩) 1 1 rfl rfl (by exact (HRw4.out.grown (World.grownBy_alloc w4 _ none)).drew) rfl (.inr ⟨_, 0, rfl, by exact HC5.out⟩) (by simp [numB_length]) (by exact HS5.out) ?_
 intro v5 w5 hr5 hb5
 have HR5 := Lib.hid hr5
 have HB5 := Lib.hid hb5
 clear hr5 hb5
 refine hK.out _ _ ?q (fun hHeld => ?_)
 case q => (try dsimp only); exact (HC.out _ (HY5.out.trans HB5.out)).2.2.2.2.2
 clear hK K
 try simp only [zpt]
 refine zrd 9 rfl (fun K hK => ?_)
 refine step_append_bytes rfl (.tmp 26) (.tmp 28) rfl (w.heap.size + 1) _ ([c] ++ numB s 8 ++ numB k 8 ++ numB i 2 ++ numB n 2 ++ [UInt8.ofNat l.length]) l A l.length cap rfl rfl (by exact HR5.out) rfl (by exact HAV.out _ (HY5.out.trans HB5.out)) (by have := HL.out; simp [numB_length]; omega) (by exact Nat.le_trans HS5.out HB5.out.size) ?_
 intro v6 w6 hr6 hb6
 have HR6 := Lib.hid hr6
 have HB6 := Lib.hid hb6
 clear hr6 hb6
 refine hK.out _ _ ?q (fun hHeld => ?_)
 case q => (try dsimp only); exact (HC.out _ ((HY5.out.trans HB5.out).trans HB6.out)).2.2.2.2.2
 clear hK K
 try simp only [zpt]
 refine ztk 10 rfl ?_
 refine wpAnyH_done (by kernel_rfl) ?_ _
 refine NoPanic.normal ?_
 clear hHeld
 have hr6 := HR6.out
 clear HR6
 obtain ⟨g6, cap6, rfl, hc6, hm6, _, _, _⟩ := hr6.some (by simp)
 have e6 : ([c] ++ numB s 8 ++ numB k 8 ++ numB i 2 ++ numB n 2 ++ [UInt8.ofNat l.length] ++ l).length = 22 + l.length := by simp [numB_length]; omega
 have HFEW : Hid (∀ z : Nat, z = 102 - l.length → (([c] ++ numB s 8 ++ numB k 8 ++ numB i 2 ++ numB n 2 ++ [UInt8.ofNat l.length] ++ l)).length + z < 100000000000) := fun z hz => by have := HL.out; rw [e6]; omega
 have HNE : Hid (([c] ++ numB s 8 ++ numB k 8 ++ numB i 2 ++ numB n 2 ++ [UInt8.ofNat l.length] ++ l) ≠ []) := by show _ ≠ _; simp
 rw [e6] at hc6 hr6 ⊢
 have HR6 := Lib.hid hr6
 clear hr6 e6
 have HI : Hid ((124 : Int) - ((22 : Int) + (l.length : Int)) = ((102 - l.length : Nat) : Int)) := by show _ = _; have := HL.out; omega
 have i6 : (l.length : Int) ≤ 102 := by have := HL.out; omega
 go_wp2_with (first
  | (at_builtin; refine wpList_append_zeros rfl (.tmp 30) (.tmp 33) rfl (w.heap.size + 1) _ _ (102 - l.length) rfl HR6.out HNE.out (congrArg (Value.int .i64) HI.out) (HFEW.out _ rfl) (Nat.le_trans (Nat.le_trans HS5.out HB5.out.size) HB6.out.size) ?_; intro v7 w7 hr7 hb7; go_frame)
  | fail)
 have HR7 := Lib.hid hr7
 have HB7 := Lib.hid hb7
 clear hr7 hb7
 refine (sealed_at (w.heap.size + 1) _ (partL c s k i n l) w7 HR7.out (by simp [partL]) (by rw [partL_length _ _ _ _ _ _ HL.out]; decide) (Nat.le_trans (Nat.le_trans (Nat.le_trans HS5.out HB5.out.size) HB6.out.size) HB7.out.size)).mono ?_
 rintro e w8 ⟨v8, rfl, hr8, hb8⟩
 go_wp2_with fail
 go_ret
 have hbl : Below (w.heap.size + 1) y w8 := (((HY5.out.trans HB5.out).trans HB6.out).trans HB7.out).trans hb8
 refine ⟨_, rfl, ?_, (grown_below0 HGY.out (Nat.le_refl _)).trans (hbl.mono (by omega))⟩
 have : BRow w8 (w.heap.size + 1) v8 (partB c s k i n l) := hr8
 obtain ⟨h1, h2 | ⟨gg, cap, cur, e, hB, h3⟩⟩ := this
 ·exact ⟨h1, .inl h2⟩
 ·exact ⟨h1, .inr ⟨gg, cap, cur, e, by omega, h3⟩⟩
theorem bs_toList (l : List UInt8) : (bs l).toList = l := by
 rw [ByteArray.toList_eq]
 rfl
theorem equal_at (g off g2 off2 : Nat) (l m : List UInt8) (cap cap2 : Nat) (w : World) (hl : w.rangeAt g off (u8s l)) (hm : w.rangeAt g2 off2 (u8s m)) :
  Calls Tryz.prog 82 #[.slice (some ⟨g, off, none⟩) l.length cap, .slice (some ⟨g2, off2, none⟩) m.length cap2] w fun e w' => e = .returned (.bool (decide (l = m))) ∧ w' = w := by
 have h1 := run_string w g off l cap hl
 have h2 := run_string w g2 off2 m cap2 hm
 clear hl hm
 go_enter Tryz.func82, Tryz.ntmps82
 go_wp2_with fail
 go_ret
 refine ⟨?_, rfl⟩
 show Ending.returned (Value.bool ((bs l).toList == (bs m).toList)) = _
 rw [bs_toList, bs_toList]
 congr 2
 rw [Bool.eq_iff_iff, beq_iff_eq, decide_eq_true_iff]
theorem run_idx3p (w : World) (x y z : Value) (hx : ∃ p, x = .pointer p) (hy : ∃ p, y = .pointer p) (hz : ∃ p, z = .pointer p) : (Instr.index 124 (.agg #[x, y, z]) (.int .i64 0)).run Tryz.prog w = .ok x w ∧ (Instr.index 124 (.agg #[x, y, z]) (.int .i64 1)).run Tryz.prog w = .ok y w ∧ (Instr.index 124 (.agg #[x, y, z]) (.int .i64 2)).run Tryz.prog w = .ok z w := by
 obtain ⟨_, rfl⟩ := hx
 obtain ⟨_, rfl⟩ := hy
 obtain ⟨_, rfl⟩ := hz
 have h : (Tryz.prog.info? 123).map (fun i => i.size) = some 1 := by kernel_rfl
 obtain ⟨i0, hi0, he⟩ := Option.map_eq_some_iff.1 h
 refine ⟨?_, ?_, ?_⟩ <;> simp [Instr.index, run_underlying Tryz.underlying124, asIntOf, sizeOf, typeInfo, hi0, he, part]
structure HdSt (w wr : World) (a b c d : Int) : Prop where
 below : Below w.heap.size w wr
 size : w.heap.size + 2 ≤ wr.heap.size
 res : wr.heap[w.heap.size]? = some (.cells #[.int .i64 0, .int .i64 0, .int .i64 0, .int .i64 0] 47)
 hd : wr.heap[w.heap.size + 1]? = some (.cells #[.int .i64 a, .int .i64 b, .int .i64 c, .int .i64 d] 47)
theorem results_row_tmp {P : Program} {fn : Func} {p u : Tmp} {ty : TypeId} (h : fn.results = #[.cell p ty, .tmp u]) (tmps : Array Value) (w : World) (g : Nat) (t : TypeId) (cs : Array Value) (fr : Nat × Nat) (d : TypeDesc)
  (hp : tmps.getD p undef = .pointer (some ⟨g, 0, none⟩)) (hg : w.heap[g]? = some (.cells cs t fr)) (hu : P.underlying ty = some d) (hd : (match d with | .struct _ | .array _ _ => true | _ => false) = true) (hi : (P.info? ty).map (·.size) = some cs.size) :
  (results fn tmps).run P w = .ok (.tuple #[.agg cs, tmps.getD u undef]) w := by
 rw [results_cell_tmp h, hp]
 simp [asAddr, run_loadVar_row w g t ty cs fr d hg hu hd hi, Result.andThen]
section
variable {w wr : World} {a b c d : Int}
theorem HdSt.start (w : World) : HdSt w ((w.alloc (.cells #[.int .i64 0, .int .i64 0, .int .i64 0, .int .i64 0] 47)).alloc (.cells #[.int .i64 0, .int .i64 0, .int .i64 0, .int .i64 0] 47)) 0 0 0 0 := by
 have h1 := MapKept.heap_alloc w (.cells #[.int .i64 0, .int .i64 0, .int .i64 0, .int .i64 0] 47)
 have h2 := MapKept.heap_alloc (w.alloc (.cells #[.int .i64 0, .int .i64 0, .int .i64 0, .int .i64 0] 47)) (.cells #[.int .i64 0, .int .i64 0, .int .i64 0, .int .i64 0] 47)
 have s1 : (w.alloc (.cells #[.int .i64 0, .int .i64 0, .int .i64 0, .int .i64 0] 47)).heap.size = w.heap.size + 1 := World.size_alloc ..
 refine ⟨(grown_below0 (World.grownBy_alloc w _ none) (Nat.le_refl _)).trans (grown_below0 (World.grownBy_alloc _ _ none) (by omega)), by rw [World.size_alloc, s1]; exact Nat.le_refl _, ?_, ?_⟩
 ·rw [(World.grownBy_alloc (w.alloc (.cells #[.int .i64 0, .int .i64 0, .int .i64 0, .int .i64 0] 47)) _ none).block w.heap.size (by omega) (by simp)]
  exact h1.1
 ·have := h2.1
  rw [s1] at this
  exact this
theorem HdSt.drewN (h : HdSt w wr a b c d) (m : Nat) : HdSt w (wr.drewN m) a b c d := ⟨below_drewN h.below m, h.size, h.res, h.hd⟩
theorem HdSt.later {v : World} (h : HdSt w wr a b c d) (hb : Below wr.heap.size wr v) : HdSt w v a b c d :=
 ⟨h.below.trans (hb.mono (by have := h.size; omega)), Nat.le_trans h.size hb.size, (hb.block _ (by have := h.size; omega)).trans h.res, (hb.block _ (by have := h.size; omega)).trans h.hd⟩
theorem HdSt.cells (h : HdSt w wr a b c d) : wr.cell? ⟨w.heap.size + 1, 0, none⟩ = some (.int .i64 a) ∧ wr.cell? ⟨w.heap.size + 1, 1, none⟩ = some (.int .i64 b) ∧ wr.cell? ⟨w.heap.size + 1, 2, none⟩ = some (.int .i64 c) ∧ wr.cell? ⟨w.heap.size + 1, 3, none⟩ = some (.int .i64 d) := by
 refine ⟨?_, ?_, ?_, ?_⟩ <;> (simp only [World.cell?, h.hd]; rfl)
theorem HdSt.rescells (h : HdSt w wr a b c d) : wr.cell? ⟨w.heap.size, 0, none⟩ = some (.int .i64 0) ∧ wr.cell? ⟨w.heap.size, 1, none⟩ = some (.int .i64 0) ∧ wr.cell? ⟨w.heap.size, 2, none⟩ = some (.int .i64 0) ∧ wr.cell? ⟨w.heap.size, 3, none⟩ = some (.int .i64 0) := by
 refine ⟨?_, ?_, ?_, ?_⟩ <;> (simp only [World.cell?, h.res]; rfl)
def putH (z : World) (g : Nat) (x y u v : Int) : World := (((z.setCell ⟨g, 0, none⟩ (.int .i64 x)).setCell ⟨g, 1, none⟩ (.int .i64 y)).setCell ⟨g, 2, none⟩ (.int .i64 u)).setCell ⟨g, 3, none⟩ (.int .i64 v)
theorem HdSt.put (h : HdSt w wr a b c d) (x y u v : Int) : (putH wr w.heap.size x y u v).heap[w.heap.size]? = some (.cells #[.int .i64 x, .int .i64 y, .int .i64 u, .int .i64 v] 47) ∧ Below w.heap.size w (putH wr w.heap.size x y u v) := by
 have f1 := heap_setCell_same _ w.heap.size 0 _ _ (.int .i64 x) h.res
 have f2 := heap_setCell_same _ w.heap.size 1 _ _ (.int .i64 y) f1
 have f3 := heap_setCell_same _ w.heap.size 2 _ _ (.int .i64 u) f2
 have f4 := heap_setCell_same _ w.heap.size 3 _ _ (.int .i64 v) f3
 refine ⟨f4, h.below.trans ?_⟩
 have hs := h.size
 have k : ∀ (z : World) (j : Nat) (q : Value), w.heap.size + 2 ≤ z.heap.size → Below w.heap.size z (z.setCell ⟨w.heap.size, j, none⟩ q) := fun z j q hz => grown_below (grown_set z w.heap.size j q) (by omega) (by omega)
 have e : ∀ (z : World) (j : Nat) (q : Value), (z.setCell ⟨w.heap.size, j, none⟩ q).heap.size = z.heap.size := fun z j q => by simp
 unfold putH
 exact (((k _ _ _ hs).trans (k _ _ _ (by rw [e]; exact hs))).trans (k _ _ _ (by rw [e, e]; exact hs))).trans (k _ _ _ (by rw [e, e, e]; exact hs))
theorem HdSt.putcells (h : HdSt w wr a b c d) (x y u v : Int) : (putH wr w.heap.size x y u v).cell? ⟨w.heap.size + 1, 0, none⟩ = some (.int .i64 a) ∧ (putH wr w.heap.size x y u v).cell? ⟨w.heap.size + 1, 1, none⟩ = some (.int .i64 b) ∧ (putH wr w.heap.size x y u v).cell? ⟨w.heap.size + 1, 2, none⟩ = some (.int .i64 c) ∧ (putH wr w.heap.size x y u v).cell? ⟨w.heap.size + 1, 3, none⟩ = some (.int .i64 d) := by
 have e : (putH wr w.heap.size x y u v).heap[w.heap.size + 1]? = some (.cells #[.int .i64 a, .int .i64 b, .int .i64 c, .int .i64 d] 47) := by
  unfold putH
  rw [heap_setCell_other _ _ _ _ (by simp), heap_setCell_other _ _ _ _ (by simp), heap_setCell_other _ _ _ _ (by simp), heap_setCell_other _ _ _ _ (by simp)]
  exact h.hd
 refine ⟨?_, ?_, ?_, ?_⟩ <;> (simp only [World.cell?, e]; rfl)
theorem HdSt.resfree (h : HdSt w wr a b c d) (j : Nat) : wr.frozen? ⟨w.heap.size, j, none⟩ = false := frozen_blk h.res j
theorem HdSt.free (h : HdSt w wr a b c d) (j : Nat) : wr.frozen? ⟨w.heap.size + 1, j, none⟩ = false := frozen_blk h.hd j
theorem HdSt.set {x : Int} {j : Nat} (h : HdSt w wr a b c d) (hj : j < 4) : HdSt w (wr.setCell ⟨w.heap.size + 1, j, none⟩ (.int .i64 x)) (if j = 0 then x else a) (if j = 1 then x else b) (if j = 2 then x else c) (if j = 3 then x else d) := by
 have hg := grown_set wr (w.heap.size + 1) j (.int .i64 x)
 refine ⟨h.below.trans ⟨hg.os, hg.tape, hg.output, hg.size, fun k hk => hg.block k (by have := h.size; omega) (fun e => by cases e; omega)⟩, by have := h.size; simpa using this, ?_, ?_⟩
 ·rw [hg.block w.heap.size (by have := h.size; omega) (fun e => by simp at e)]
  exact h.res
 ·rw [heap_setCell_same wr (w.heap.size + 1) j _ _ _ h.hd]
  obtain rfl | rfl | rfl | rfl : j = 0 ∨ j = 1 ∨ j = 2 ∨ j = 3 := by omega
  ·rfl
  ·rfl
  ·rfl
  ·rfl
end
theorem headOf_zero (g cap : Nat) (w : World) (hr : w.rangeAt g 0 (u8s noughts)) (hc : 128 ≤ cap) (hcm : cap ≤ maxLen) :
  Calls Tryz.prog 59 #[.slice (some ⟨g, 0, none⟩) 128 cap] w fun e w' => e = .returned (.tuple #[.agg #[.int .i64 0, .int .i64 0, .int .i64 0, .int .i64 0], .bool false]) ∧ Below w.heap.size w w' := by
 unfold maxLen at hcm
 have c1 : (128 : Int) ≤ (cap : Int) := by omega
 have HR := Lib.hid hr
 clear hr
 go_enter Tryz.func59, Tryz.ntmps59
 go_wp2_with fail
 obtain ⟨y, hy⟩ : ∃ y, y = (w.alloc (.cells #[.int .i64 0, .int .i64 0, .int .i64 0, .int .i64 0] 47)).alloc (.cells #[.int .i64 0, .int .i64 0, .int .i64 0, .int .i64 0] 47) := ⟨_, rfl⟩
 have HST : Hid (HdSt w y 0 0 0 0) := by rw [hy]; exact HdSt.start w
 have HRY : Hid (y.rangeAt g 0 (u8s noughts)) := fun j v hv => by
  rw [hy]
  exact (World.grownBy_alloc _ _ none).cell ((World.grownBy_alloc w _ none).cell (HR.out j v hv) (by simp)) (by simp)
 rw [← hy]
 clear hy
 have HR1 : Hid (y.rangeAt g 1 (u8s (noughts.drop 1))) := fun j v hv => by
  have := HRY.out (1 + j) v (by simpa [u8s, List.getElem?_drop, Nat.add_comm] using hv)
  rwa [Nat.zero_add] at this
 go_loopw [5, 7, 16] (fun r u i wr => i = .int .i64 0 ∧ r = .slice (some ⟨g, 1, none⟩) 127 (cap - 1) ∧ wr = y) (fun _ _ i _ => 3 - (intOf i).toNat)
 case atStart => exact ⟨rfl, rfl, rfl⟩
 case round =>
  obtain ⟨rfl, rfl, hw⟩ := hrel
  subst hw
  have hx := fun v : World => (run_idx3p v (.pointer (some ⟨w.heap.size + 1, 0, none⟩)) (.pointer (some ⟨w.heap.size + 1, 1, none⟩)) (.pointer (some ⟨w.heap.size + 1, 2, none⟩)) ⟨_, rfl⟩ ⟨_, rfl⟩ ⟨_, rfl⟩).1
  go_wp2_with fail
  refine (read_at g 1 127 (cap - 1) (noughts.drop 1) 0 8 wr HR1.out rfl (by decide) (by decide) (by omega) (by unfold maxLen; omega) (by decide) (by decide) (by decide)).mono ?_
  rintro e w1 ⟨rfl, m, rfl⟩
  have HS1 := Lib.hid (HST.out.drewN m)
  have h0 := HS1.out.cells.1
  have f0 := HS1.out.free 0
  clear hx
  go_upto_region 7 with fail
  have HZ := Lib.hid (HS1.out.set (x := 0) (j := 0) (by decide))
  obtain ⟨z, hz⟩ : ∃ z, z = (wr.drewN m).setCell ⟨w.heap.size + 1, 0, none⟩ (.int .i64 0) := ⟨_, rfl⟩
  rw [← hz] at HZ ⊢
  clear hz h0 f0 HS1
  obtain ⟨h0, h1, h2, h3⟩ := HZ.out.cells
  obtain ⟨r0, r1, r2, r3⟩ := HZ.out.rescells
  have f0 := HZ.out.resfree
  go_wp2_with fail
  (try simp only [Exit.inBlock, Exit.then])
  refine bodyPost_ret (results_row_tmp rfl _ _ w.heap.size _ _ _ _ rfl (HZ.out.put 0 0 0 0).1 Tryz.underlying47 rfl (by kernel_rfl)) rfl ?_
  exact ⟨rfl, (HZ.out.put 0 0 0 0).2⟩
theorem take_app {α : Type} (a b : List α) {n : Nat} (h : a.length = n) : (a ++ b).take n = a := by rw [← h, List.take_left]
theorem drop_app {α : Type} (a b : List α) {n : Nat} (h : a.length = n) : (a ++ b).drop n = b := by rw [← h, List.drop_left]
theorem headB_form (g o f n : Nat) : headB g o f n = [72] ++ (numB g 8 ++ (numB o 8 ++ (numB f 8 ++ (numB n 4 ++ (numB (Crc.sum (headL g o f n)).toNat 4 ++ List.replicate (124 - (headL g o f n).length) 0))))) := by
 unfold headB sealB
 simp only [headL, List.append_assoc]
theorem head_part0 (g o f n : Nat) : ((headB g o f n).drop 1).take 8 = numB g 8 := by
 rw [headB_form, drop_app (n := 1) [72] _ rfl, take_app _ _ (numB_length g 8)]
theorem head_drop9 (g o f n : Nat) : (headB g o f n).drop 9 = numB o 8 ++ (numB f 8 ++ (numB n 4 ++ (numB (Crc.sum (headL g o f n)).toNat 4 ++ List.replicate (124 - (headL g o f n).length) 0))) := by
 rw [headB_form, show (9 : Nat) = 1 + 8 from rfl, ← List.drop_drop, drop_app (n := 1) [72] _ rfl, drop_app _ _ (numB_length g 8)]
theorem head_part1 (g o f n : Nat) : ((headB g o f n).drop 9).take 8 = numB o 8 := by
 rw [head_drop9, take_app _ _ (numB_length o 8)]
theorem head_drop17 (g o f n : Nat) : (headB g o f n).drop 17 = numB f 8 ++ (numB n 4 ++ (numB (Crc.sum (headL g o f n)).toNat 4 ++ List.replicate (124 - (headL g o f n).length) 0)) := by
 rw [show (17 : Nat) = 9 + 8 from rfl, ← List.drop_drop, head_drop9, drop_app _ _ (numB_length o 8)]
theorem head_part2 (g o f n : Nat) : ((headB g o f n).drop 17).take 8 = numB f 8 := by
 rw [head_drop17, take_app _ _ (numB_length f 8)]
theorem head_part3 (g o f n : Nat) : ((headB g o f n).drop 25).take 4 = numB n 4 := by
 rw [show (25 : Nat) = 17 + 8 from rfl, ← List.drop_drop, head_drop17, drop_app _ _ (numB_length f 8), take_app _ _ (numB_length n 4)]
theorem range_drop {w : World} {g : Nat} {l : List UInt8} (h : w.rangeAt g 0 (u8s l)) (k : Nat) : w.rangeAt g k (u8s (l.drop k)) := fun j v hv => by
 have := h (k + j) v (by simpa [u8s, List.getElem?_drop] using hv)
 rwa [Nat.zero_add] at this
theorem equal_len (g off g2 off2 n1 n2 : Nat) (l m : List UInt8) (h1 : l.length = n1) (h2 : m.length = n2) (cap cap2 : Nat) (w : World) (hl : w.rangeAt g off (u8s l)) (hm : w.rangeAt g2 off2 (u8s m)) :
  Calls Tryz.prog 82 #[.slice (some ⟨g, off, none⟩) n1 cap, .slice (some ⟨g2, off2, none⟩) n2 cap2] w fun e w' => e = .returned (.bool (decide (l = m))) ∧ w' = w := by
 subst h1 h2
 exact equal_at g off g2 off2 l m cap cap2 w hl hm
theorem headOf_head (gb cap g o f n : Nat) (hg : 1 ≤ g ∧ g ≤ 4611686018427387904) (ho : 1 ≤ o ∧ o ≤ 4611686018427387904) (hf : 1 ≤ f ∧ f ≤ 4611686018427387904) (hn : n ≤ 1048576) (w : World) (hr : w.rangeAt gb 0 (u8s (headB g o f n))) (hgl : gb < w.heap.size) (hc : 128 ≤ cap) (hcm : cap ≤ maxLen) :
  Calls Tryz.prog 59 #[.slice (some ⟨gb, 0, none⟩) 128 cap] w fun e w' => e = .returned (.tuple #[.agg #[.int .i64 (g : Int), .int .i64 (o : Int), .int .i64 (f : Int), .int .i64 (n : Int)], .bool true]) ∧ Below w.heap.size w w' := by
 unfold maxLen at hcm
 have c1 : (128 : Int) ≤ (cap : Int) := by omega
 have HG := Lib.hid hg
 have HO := Lib.hid ho
 have HF := Lib.hid hf
 have HN := Lib.hid hn
 have HLW : Hid (∀ v, Below w.heap.size w v → ∀ k, v.rangeAt gb k (u8s ((headB g o f n).drop k))) := fun v hv k => range_drop (fun j x hj => (hv.cell hgl).trans (hr j x hj)) k
 have HX0 : Hid (∀ v : World, _) := fun v : World => (run_idx3p v (.pointer (some ⟨w.heap.size + 1, 0, none⟩)) (.pointer (some ⟨w.heap.size + 1, 1, none⟩)) (.pointer (some ⟨w.heap.size + 1, 2, none⟩)) ⟨_, rfl⟩ ⟨_, rfl⟩ ⟨_, rfl⟩).1
 have HX1 : Hid (∀ v : World, _) := fun v : World => (run_idx3p v (.pointer (some ⟨w.heap.size + 1, 0, none⟩)) (.pointer (some ⟨w.heap.size + 1, 1, none⟩)) (.pointer (some ⟨w.heap.size + 1, 2, none⟩)) ⟨_, rfl⟩ ⟨_, rfl⟩ ⟨_, rfl⟩).2.1
 have HX2 : Hid (∀ v : World, _) := fun v : World => (run_idx3p v (.pointer (some ⟨w.heap.size + 1, 0, none⟩)) (.pointer (some ⟨w.heap.size + 1, 1, none⟩)) (.pointer (some ⟨w.heap.size + 1, 2, none⟩)) ⟨_, rfl⟩ ⟨_, rfl⟩ ⟨_, rfl⟩).2.2
 clear hg ho hf hn hr hgl
 go_enter Tryz.func59, Tryz.ntmps59
 go_wp2_with fail
 obtain ⟨y, hy⟩ : ∃ y, y = (w.alloc (.cells #[.int .i64 0, .int .i64 0, .int .i64 0, .int .i64 0] 47)).alloc (.cells #[.int .i64 0, .int .i64 0, .int .i64 0, .int .i64 0] 47) := ⟨_, rfl⟩
 have HST : Hid (HdSt w y 0 0 0 0) := by rw [hy]; exact HdSt.start w
 rw [← hy]
 clear hy
 go_loopw [5, 7, 16] (fun r u i wr => (i = .int .i64 0 ∧ r = .slice (some ⟨gb, 1, none⟩) 127 (cap - 1) ∧ HdSt w wr 0 0 0 0) ∨ (i = .int .i64 1 ∧ r = .slice (some ⟨gb, 9, none⟩) 119 (cap - 1 - 8) ∧ HdSt w wr g 0 0 0) ∨ (i = .int .i64 2 ∧ r = .slice (some ⟨gb, 17, none⟩) 111 (cap - 1 - 8 - 8) ∧ HdSt w wr g o 0 0) ∨ (i = .int .i64 3 ∧ r = .slice (some ⟨gb, 25, none⟩) 103 (cap - 1 - 8 - 8 - 8) ∧ HdSt w wr g o f 0)) (fun _ _ i _ => 3 - (intOf i).toNat)
 case atStart => exact .inl ⟨rfl, rfl, HST.out⟩
 case round =>
  clear HST
  obtain ⟨rfl, rfl, hst⟩ | ⟨rfl, rfl, hst⟩ | ⟨rfl, rfl, hst⟩ | ⟨rfl, rfl, hst⟩ := hrel
  ·have HS := Lib.hid hst
   have HRW := Lib.hid (HLW.out _ hst.below)
   clear hst
   have hx := fun v : World => (HX0.out v)
   go_wp2_with fail
   refine (read_at gb 1 127 (cap - 1) ((headB g o f n).drop 1) g 8 wr (HRW.out 1) (by rw [List.length_drop, headB_length]) (by decide) (by decide) (by omega) (by unfold maxLen; omega) (head_part0 g o f n) (by have := HG.out.2; show _ < 18446744073709551616; omega) (by have := HG.out.2; omega)).mono ?_
   rintro e w1 ⟨rfl, m, rfl⟩
   have HS1 := Lib.hid (HS.out.drewN m)
   have h0 := HS1.out.cells.1
   have f0 := HS1.out.free 0
   clear hx
   go_upto_region 7 with fail
   have HZ := Lib.hid (HS1.out.set (x := (g : Int)) (j := 0) (by decide))
   obtain ⟨z, hz⟩ : ∃ z, z = (wr.drewN m).setCell ⟨w.heap.size + 1, 0, none⟩ (.int .i64 (g : Int)) := ⟨_, rfl⟩
   rw [← hz] at HZ ⊢
   clear hz h0 f0 HS1 HS HRW
   have h0 := HZ.out.cells.1
   have d1 : decide ((g : Int) < 1) = false := by have := HG.out.1; simp; omega
   have d2 : decide ((4611686018427387904 : Int) < (g : Int)) = false := by have := HG.out.2; simp; omega
   go_wp2_with fail
   go_roundw
   case rel => exact .inr (.inl ⟨rfl, rfl, HZ.out⟩)
   case measure => decide
  ·have HS := Lib.hid hst
   have HRW := Lib.hid (HLW.out _ hst.below)
   clear hst
   have hx := fun v : World => (HX1.out v)
   go_wp2_with fail
   refine (read_at gb 9 119 (cap - 1 - 8) ((headB g o f n).drop 9) o 8 wr (HRW.out 9) (by rw [List.length_drop, headB_length]) (by decide) (by decide) (by omega) (by unfold maxLen; omega) (head_part1 g o f n) (by have := HO.out.2; show _ < 18446744073709551616; omega) (by have := HO.out.2; omega)).mono ?_
   rintro e w1 ⟨rfl, m, rfl⟩
   have HS1 := Lib.hid (HS.out.drewN m)
   have h0 := HS1.out.cells.2.1
   have f0 := HS1.out.free 1
   clear hx
   go_upto_region 7 with fail
   have HZ := Lib.hid (HS1.out.set (x := (o : Int)) (j := 1) (by decide))
   obtain ⟨z, hz⟩ : ∃ z, z = (wr.drewN m).setCell ⟨w.heap.size + 1, 1, none⟩ (.int .i64 (o : Int)) := ⟨_, rfl⟩
   rw [← hz] at HZ ⊢
   clear hz h0 f0 HS1 HS HRW
   have h0 := HZ.out.cells.2.1
   have d1 : decide ((o : Int) < 1) = false := by have := HO.out.1; simp; omega
   have d2 : decide ((4611686018427387904 : Int) < (o : Int)) = false := by have := HO.out.2; simp; omega
   go_wp2_with fail
   go_roundw
   case rel => exact .inr (.inr (.inl ⟨rfl, rfl, HZ.out⟩))
   case measure => decide
  ·have HS := Lib.hid hst
   have HRW := Lib.hid (HLW.out _ hst.below)
   clear hst
   have hx := fun v : World => (HX2.out v)
   go_wp2_with fail
   refine (read_at gb 17 111 (cap - 1 - 8 - 8) ((headB g o f n).drop 17) f 8 wr (HRW.out 17) (by rw [List.length_drop, headB_length]) (by decide) (by decide) (by omega) (by unfold maxLen; omega) (head_part2 g o f n) (by have := HF.out.2; show _ < 18446744073709551616; omega) (by have := HF.out.2; omega)).mono ?_
   rintro e w1 ⟨rfl, m, rfl⟩
   have HS1 := Lib.hid (HS.out.drewN m)
   have h0 := HS1.out.cells.2.2.1
   have f0 := HS1.out.free 2
   clear hx
   go_upto_region 7 with fail
   have HZ := Lib.hid (HS1.out.set (x := (f : Int)) (j := 2) (by decide))
   obtain ⟨z, hz⟩ : ∃ z, z = (wr.drewN m).setCell ⟨w.heap.size + 1, 2, none⟩ (.int .i64 (f : Int)) := ⟨_, rfl⟩
   rw [← hz] at HZ ⊢
   clear hz h0 f0 HS1 HS HRW
   have h0 := HZ.out.cells.2.2.1
   have d1 : decide ((f : Int) < 1) = false := by have := HF.out.1; simp; omega
   have d2 : decide ((4611686018427387904 : Int) < (f : Int)) = false := by have := HF.out.2; simp; omega
   go_wp2_with fail
   go_roundw
   case rel => exact .inr (.inr (.inr ⟨rfl, rfl, HZ.out⟩))
   case measure => decide
  ·have HS := Lib.hid hst
   have HRW := Lib.hid (HLW.out _ hst.below)
   clear hst
   go_wp2_with fail
   refine (read_at gb 25 103 (cap - 1 - 8 - 8 - 8) ((headB g o f n).drop 25) n 4 wr (HRW.out 25) (by rw [List.length_drop, headB_length]) (by decide) (by decide) (by omega) (by unfold maxLen; omega) (head_part3 g o f n) (by have := HN.out; show _ < 4294967296; omega) (by have := HN.out; omega)).mono ?_
   rintro e w1 ⟨rfl, m, rfl⟩
   have HS1 := Lib.hid (HS.out.drewN m)
   have h0 := HS1.out.cells.2.2.2
   have f0 := HS1.out.free 3
   go_upto_region 12 with fail
   have HZ := Lib.hid (HS1.out.set (x := (n : Int)) (j := 3) (by decide))
   obtain ⟨z, hz⟩ : ∃ z, z = (wr.drewN m).setCell ⟨w.heap.size + 1, 3, none⟩ (.int .i64 (n : Int)) := ⟨_, rfl⟩
   rw [← hz] at HZ ⊢
   clear hz h0 f0 HS1 HS HRW
   have HC0 := Lib.hid HZ.out.cells
   have d3 : decide ((n : Int) ≤ 1048576) = true := by have := HN.out; simp; omega
   refine wp_region_noPanic ?_
   refine wp_region_held_drew (S := fun w' => w'.cell? ⟨w.heap.size + 1, 0, none⟩ = some (Value.int .i64 (g : Int)) ∧ w'.cell? ⟨w.heap.size + 1, 1, none⟩ = some (Value.int .i64 (o : Int)) ∧ w'.cell? ⟨w.heap.size + 1, 2, none⟩ = some (Value.int .i64 (f : Int)) ∧ w'.cell? ⟨w.heap.size + 1, 3, none⟩ = some (Value.int .i64 (n : Int))) (by kernel_rfl) ?hSa (fun hHeld => ?_)
   case hSa => exact HC0.out
   refine ztk 0 rfl ?_
   refine ztk 1 rfl ?_
   refine ztk 2 rfl ?_
   refine ztk 3 rfl ?_
   refine ztk 4 rfl ?_
   refine ztk 5 rfl ?_
   refine ztk 7 rfl ?_
   refine zrd 6 rfl (fun K hK => ?_)
   go_simp
   refine (head_bytes_at g o f n (by have := HG.out.2; omega) (by have := HO.out.2; omega) (by have := HF.out.2; omega) (by have := HN.out; omega) z.drew).mono ?_
   rintro e w2 ⟨v2, rfl, hr2, hb2⟩
   obtain ⟨g2, cap2, rfl, _, _, _, _, hrg2⟩ := hr2.some (by have := headB_length g o f n; intro e; rw [e] at this; cases this)
   rw [headB_length]
   have HRG2 := Lib.hid hrg2
   have HZ2 := Lib.hid ((HZ.out.drewN 1).later hb2)
   have HRW := Lib.hid (HLW.out _ HZ2.out.below 0)
   have hc2 := HZ2.out.cells
   have HC2 := Lib.hid hc2
   have HC3 := Lib.hid (HZ2.out.putcells g o f n)
   clear hr2 hb2 hrg2 hc2
   go_wp2_with fail
   refine hK.out _ _ ?q (fun hHeld => ?_)
   case q => (try dsimp only); exact HC2.out
   clear hK K
   try simp only [zpt]
   refine zrd 8 rfl (fun K hK => ?_)
   go_simp
   refine (equal_len g2 0 gb 0 128 128 (headB g o f n) (headB g o f n) (headB_length g o f n) (headB_length g o f n) cap2 cap w2 HRG2.out HRW.out).mono ?_
   rintro e w3 ⟨rfl, hw3⟩
   have hw3 := hw3.symm
   subst hw3
   rw [decide_eq_true rfl]
   go_wp2_with fail
   refine hK.out _ _ ?q (fun hHeld => ?_)
   case q => (try dsimp only); exact HC2.out
   clear hK K
   try simp only [zpt]
   refine ztk 9 rfl ?_
   refine zrd 10 rfl (fun K hK => ?_)
   obtain ⟨r0, r1, r2, r3⟩ := HZ2.out.rescells
   have q0 := HZ2.out.resfree
   go_simp
   clear r0 r1 r2 r3 q0
   refine hK.out _ _ ?q (fun hHeld => ?_)
   case q => (try dsimp only); exact HC3.out
   clear hK K
   try simp only [zpt]
   refine ztk 11 rfl ?_
   refine wpAnyH_done (by kernel_rfl) ?_ _
   refine NoPanic.normal ?_
   clear hHeld
   go_wp2_with fail
   (try simp only [Exit.inBlock, Exit.then])
   refine bodyPost_ret (results_row_tmp rfl _ _ w.heap.size _ _ _ _ rfl (HZ2.out.put g o f n).1 Tryz.underlying47 rfl (by kernel_rfl)) rfl ?_
   exact ⟨rfl, (HZ2.out.put g o f n).2⟩
def part0 : Array Value := #[.int .u8 0, .int .i64 0, .int .i64 0, .int .i64 0, .int .i64 0, .slice none 0 0]
structure PtSt (w wr : World) (cs : Array Value) : Prop where
 below : Below w.heap.size w wr
 size : w.heap.size + 2 ≤ wr.heap.size
 res : wr.heap[w.heap.size]? = some (.cells part0 93)
 pt : wr.heap[w.heap.size + 1]? = some (.cells cs 93)
section
variable {w wr v : World} {cs : Array Value}
theorem PtSt.start (w : World) (cs : Array Value) : PtSt w ((w.alloc (.cells part0 93)).alloc (.cells cs 93)) cs := by
 have h1 := MapKept.heap_alloc w (.cells part0 93)
 have h2 := MapKept.heap_alloc (w.alloc (.cells part0 93)) (.cells cs 93)
 have s1 : (w.alloc (.cells part0 93)).heap.size = w.heap.size + 1 := World.size_alloc ..
 refine ⟨(grown_below0 (World.grownBy_alloc w _ none) (Nat.le_refl _)).trans (grown_below0 (World.grownBy_alloc _ _ none) (by omega)), by rw [World.size_alloc, s1]; exact Nat.le_refl _, ?_, ?_⟩
 ·rw [(World.grownBy_alloc (w.alloc (.cells part0 93)) _ none).block w.heap.size (by omega) (by simp)]
  exact h1.1
 ·have := h2.1
  rw [s1] at this
  exact this
theorem PtSt.later (h : PtSt w wr cs) (hb : Below wr.heap.size wr v) : PtSt w v cs :=
 ⟨h.below.trans (hb.mono (by have := h.size; omega)), Nat.le_trans h.size hb.size, (hb.block _ (by have := h.size; omega)).trans h.res, (hb.block _ (by have := h.size; omega)).trans h.pt⟩
theorem PtSt.drewN (h : PtSt w wr cs) (m : Nat) : PtSt w (wr.drewN m) cs := ⟨below_drewN h.below m, h.size, h.res, h.pt⟩
theorem PtSt.cell (h : PtSt w wr cs) (j : Nat) : wr.cell? ⟨w.heap.size + 1, j, none⟩ = cs[j]? := cell_blk h.pt j
theorem PtSt.rescell (h : PtSt w wr cs) (j : Nat) : wr.cell? ⟨w.heap.size, j, none⟩ = part0[j]? := cell_blk h.res j
theorem six_of {x0 x1 x2 x3 x4 x5 : Value} (h : wr.heap[w.heap.size + 1]? = some (.cells #[x0, x1, x2, x3, x4, x5] 93)) : wr.cell? ⟨w.heap.size + 1, 0, none⟩ = some x0 ∧ wr.cell? ⟨w.heap.size + 1, 1, none⟩ = some x1 ∧ wr.cell? ⟨w.heap.size + 1, 2, none⟩ = some x2 ∧ wr.cell? ⟨w.heap.size + 1, 3, none⟩ = some x3 ∧ wr.cell? ⟨w.heap.size + 1, 4, none⟩ = some x4 ∧ wr.cell? ⟨w.heap.size + 1, 5, none⟩ = some x5 := ⟨cell_blk h 0, cell_blk h 1, cell_blk h 2, cell_blk h 3, cell_blk h 4, cell_blk h 5⟩
theorem PtSt.six {x0 x1 x2 x3 x4 x5 : Value} (h : PtSt w wr #[x0, x1, x2, x3, x4, x5]) : wr.cell? ⟨w.heap.size + 1, 0, none⟩ = some x0 ∧ wr.cell? ⟨w.heap.size + 1, 1, none⟩ = some x1 ∧ wr.cell? ⟨w.heap.size + 1, 2, none⟩ = some x2 ∧ wr.cell? ⟨w.heap.size + 1, 3, none⟩ = some x3 ∧ wr.cell? ⟨w.heap.size + 1, 4, none⟩ = some x4 ∧ wr.cell? ⟨w.heap.size + 1, 5, none⟩ = some x5 := six_of h.pt
theorem PtSt.res6 (h : PtSt w wr cs) : wr.cell? ⟨w.heap.size, 0, none⟩ = some (.int .u8 0) ∧ wr.cell? ⟨w.heap.size, 1, none⟩ = some (.int .i64 0) ∧ wr.cell? ⟨w.heap.size, 2, none⟩ = some (.int .i64 0) ∧ wr.cell? ⟨w.heap.size, 3, none⟩ = some (.int .i64 0) ∧ wr.cell? ⟨w.heap.size, 4, none⟩ = some (.int .i64 0) ∧ wr.cell? ⟨w.heap.size, 5, none⟩ = some (.slice none 0 0) := ⟨cell_blk h.res 0, cell_blk h.res 1, cell_blk h.res 2, cell_blk h.res 3, cell_blk h.res 4, cell_blk h.res 5⟩
theorem PtSt.free (h : PtSt w wr cs) (j : Nat) : wr.frozen? ⟨w.heap.size + 1, j, none⟩ = false := frozen_blk h.pt j
theorem PtSt.resfree (h : PtSt w wr cs) (j : Nat) : wr.frozen? ⟨w.heap.size, j, none⟩ = false := frozen_blk h.res j
theorem PtSt.set (h : PtSt w wr cs) (j : Nat) (x : Value) : PtSt w (wr.setCell ⟨w.heap.size + 1, j, none⟩ x) (cs.setIfInBounds j x) := by
 have hg := grown_set wr (w.heap.size + 1) j x
 refine ⟨h.below.trans ⟨hg.os, hg.tape, hg.output, hg.size, fun k hk => hg.block k (by have := h.size; omega) (fun e => by cases e; omega)⟩, by have := h.size; simpa using this, ?_, ?_⟩
 ·rw [hg.block w.heap.size (by have := h.size; omega) (fun e => by simp at e)]
  exact h.res
 ·exact heap_setCell_same wr (w.heap.size + 1) j _ _ _ h.pt
def putP (z : World) (g : Nat) (x0 x1 x2 x3 x4 x5 : Value) : World := (((((z.setCell ⟨g, 0, none⟩ x0).setCell ⟨g, 1, none⟩ x1).setCell ⟨g, 2, none⟩ x2).setCell ⟨g, 3, none⟩ x3).setCell ⟨g, 4, none⟩ x4).setCell ⟨g, 5, none⟩ x5
theorem PtSt.put (h : PtSt w wr cs) (x0 x1 x2 x3 x4 x5 : Value) : (putP wr w.heap.size x0 x1 x2 x3 x4 x5).heap[w.heap.size]? = some (.cells #[x0, x1, x2, x3, x4, x5] 93) ∧ Below w.heap.size w (putP wr w.heap.size x0 x1 x2 x3 x4 x5) ∧ (putP wr w.heap.size x0 x1 x2 x3 x4 x5).heap[w.heap.size + 1]? = some (.cells cs 93) := by
 have f1 := heap_setCell_same _ w.heap.size 0 _ _ x0 h.res
 have f2 := heap_setCell_same _ w.heap.size 1 _ _ x1 f1
 have f3 := heap_setCell_same _ w.heap.size 2 _ _ x2 f2
 have f4 := heap_setCell_same _ w.heap.size 3 _ _ x3 f3
 have f5 := heap_setCell_same _ w.heap.size 4 _ _ x4 f4
 have f6 := heap_setCell_same _ w.heap.size 5 _ _ x5 f5
 have hs := h.size
 have k : ∀ (z : World) (j : Nat) (q : Value), w.heap.size + 2 ≤ z.heap.size → Below w.heap.size z (z.setCell ⟨w.heap.size, j, none⟩ q) := fun z j q hz => grown_below (grown_set z w.heap.size j q) (by omega) (by omega)
 have e : ∀ (z : World) (j : Nat) (q : Value), (z.setCell ⟨w.heap.size, j, none⟩ q).heap.size = z.heap.size := fun z j q => by simp
 refine ⟨f6, h.below.trans ?_, ?_⟩
 ·unfold putP
  exact (((((k _ _ _ hs).trans (k _ _ _ (by rw [e]; exact hs))).trans (k _ _ _ (by rw [e, e]; exact hs))).trans (k _ _ _ (by rw [e, e, e]; exact hs))).trans (k _ _ _ (by rw [e, e, e, e]; exact hs))).trans (k _ _ _ (by rw [e, e, e, e, e]; exact hs))
 ·unfold putP
  rw [heap_setCell_other _ _ _ _ (by simp), heap_setCell_other _ _ _ _ (by simp), heap_setCell_other _ _ _ _ (by simp), heap_setCell_other _ _ _ _ (by simp), heap_setCell_other _ _ _ _ (by simp), heap_setCell_other _ _ _ _ (by simp)]
  exact h.pt
end
theorem partOf_none (gb cap : Nat) (c : Nat) (w : World) (hr : w.cell? ⟨gb, 0, none⟩ = some (.int .u8 (c : Int))) (h1 : c ≠ 67) (h2 : c ≠ 82) (hc : 128 ≤ cap) (hcm : cap ≤ maxLen) :
  Calls Tryz.prog 87 #[.slice (some ⟨gb, 0, none⟩) 128 cap] w fun e w' => e = .returned (.tuple #[.agg #[.int .u8 (c : Int), .int .i64 0, .int .i64 0, .int .i64 0, .int .i64 0, .slice none 0 0], .bool false]) ∧ Below w.heap.size w w' := by
 unfold maxLen at hcm
 have c1 : (128 : Int) ≤ (cap : Int) := by omega
 have e1 : ((c : Int) == 67) = false := by simp; omega
 have e2 : ((c : Int) == 82) = false := by simp; omega
 have e3 : ((c : Int) != 67) = true := by simp; omega
 have e4 : ((c : Int) != 82) = true := by simp; omega
 have e5 : ¬ (c : Int) = 67 := by omega
 have e6 : ¬ (c : Int) = 82 := by omega
 have HRY : Hid (∀ o : Obj, (w.alloc o).cell? ⟨gb, 0, none⟩ = some (.int .u8 (c : Int))) := fun o => (World.grownBy_alloc w o none).cell hr (by simp)
 go_enter Tryz.func87, Tryz.ntmps87
 go_upto_region 1 with fail
 have hr1 := HRY.out (.cells #[.int .u8 0, .int .i64 0, .int .i64 0, .int .i64 0, .int .i64 0, .slice none 0 0] 93)
 go_upto_region 2 with fail
 have HZ := Lib.hid (PtSt.start w #[.int .u8 (c : Int), .int .i64 0, .int .i64 0, .int .i64 0, .int .i64 0, .slice none 0 0])
 obtain ⟨z, hz⟩ : ∃ z, z = (w.alloc (.cells #[.int .u8 0, .int .i64 0, .int .i64 0, .int .i64 0, .int .i64 0, .slice none 0 0] 93)).alloc (.cells #[.int .u8 (c : Int), .int .i64 0, .int .i64 0, .int .i64 0, .int .i64 0, .slice none 0 0] 93) := ⟨_, rfl⟩
 unfold part0 at HZ
 rw [← hz] at HZ ⊢
 clear hz hr1
 have h0 : z.cell? ⟨w.heap.size + 1, 0, none⟩ = some (.int .u8 (c : Int)) := HZ.out.cell 0
 have h1 : z.cell? ⟨w.heap.size + 1, 1, none⟩ = some (.int .i64 0) := HZ.out.cell 1
 have h2 : z.cell? ⟨w.heap.size + 1, 2, none⟩ = some (.int .i64 0) := HZ.out.cell 2
 have h3 : z.cell? ⟨w.heap.size + 1, 3, none⟩ = some (.int .i64 0) := HZ.out.cell 3
 have h4 : z.cell? ⟨w.heap.size + 1, 4, none⟩ = some (.int .i64 0) := HZ.out.cell 4
 have h5 : z.cell? ⟨w.heap.size + 1, 5, none⟩ = some (.slice none 0 0) := HZ.out.cell 5
 obtain ⟨r0, r1, r2, r3, r4, r5⟩ := z6 HZ.out.res
 have q0 := HZ.out.resfree
 go_wp2_with fail
 (try simp only [Exit.inBlock, Exit.then])
 refine bodyPost_ret (results_row_tmp rfl _ _ w.heap.size _ _ _ _ rfl (HZ.out.put _ _ _ _ _ _).1 Tryz.underlying93 rfl (by kernel_rfl)) rfl ?_
 exact ⟨rfl, (HZ.out.put _ _ _ _ _ _).2.1⟩
end Go.Proofs.YtgdedgfohjplmaaGreat.Jnl
