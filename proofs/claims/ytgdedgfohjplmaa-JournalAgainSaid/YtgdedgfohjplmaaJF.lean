/- Regions that draw their order, within a round of a range over a function. No program in sight. -/
import Derived.OrdersHeld
import Derived.Deep.RegionHeld
import Derived.OrdersIn
import Derived.TacticsIn
import Derived.RangeFuncCalls
import Derived.Test.YtgdedgfohjplmaaProg
import Derived.Shelf.RegionOpen
import Derived.Deep.CutBlock
import Derived.Deep.CutRange
import Derived.Test.YtgdedgfohjplmaaJE
import Derived.RangeFuncNested
import Derived.RangeFuncBound
import Derived.RangeFuncLeaves
import Derived.RangeFuncBox
import Derived.Shelf.Abstract
import Derived.OwnWalkIn
import Derived.TacticsInMore
import Derived.LoopNIn
import Derived.LoopIn
namespace Go.Proofs.Ytgdedgfohjplmaa.Jnl
open Go

section
variable {P : Program} {ops : Array Oper} {Q : Exit → Act → World → Prop} {S : World → Prop} {l n : Nat}
theorem rows_wide {row : String} {args : Array Value} {w : World} {R : Value → World → Prop} (h : Rows P row args w R) : RowsIn (Fence.wide.inRound l) n P row args w R :=
  fun c cs _ => let ⟨v, w', r, s⟩ := h c cs; ⟨v, w', r, stepsIn_wide.2 s⟩
theorem upon_in {o : Oper} {a : Act} {K : Act → World → Prop} {r : Result Next} (h : o.upon P a K Q r) : o.uponIn (Fence.wide.inRound l) n P a K Q r := by
  cases r with
  | ok x w' =>
    cases x <;> simp only [Oper.upon, Oper.uponIn] at h ⊢ <;>
      first
        | exact h
        | exact ⟨fun h => by simp [Fence.wide, Fence.inRound] at h, CallsIn.inRound l (callsIn_wide.2 h)⟩
        | exact ⟨fun h => by simp [Fence.wide, Fence.inRound] at h, rows_wide h⟩
  | halt x w' => cases x <;> simp only [Oper.upon, Oper.uponIn] at h ⊢ <;> exact h
theorem wpOp_in (hno : ¬ LetsOut Q) {i : Nat} {a : Act} {w : World} {K K' : Act → World → Prop} (hd : ∀ o, ops[i]? = some o → ∀ c, o.op ≠ .defer c) (hK : ∀ a w, K a w → K' a w) (h : wpOp P ops Q i K a w) : wpOpIn (Fence.wide.inRound l) n P ops Q i K' a w := by
  have h := wpOp_mono hK h
  unfold wpOp at h
  unfold wpOpIn
  split
  · rename_i ho
    simpa [ho] using h
  · rename_i o ho
    simp only [ho] at h
    split
    · rename_i hw
      rw [if_pos hw] at h
      refine ⟨fun _ _ => trivial, ?_⟩
      have e : o.semAt (Fence.wide.inRound l).round a.eval = execOp a.eval o := Oper.semAt_some l a.eval o (hd o ho)
      rw [e]
      exact upon_in (h.resolve_right fun h => hno h.2)
    · rename_i hw
      rw [if_neg hw] at h
      exact ⟨fun _ _ => trivial, h⟩
theorem wpAny_in (hno : ¬ LetsOut Q) (hd : ∀ (i : Nat) (o : Oper), ops[i]? = some o → ∀ c, o.op ≠ .defer c) {md : Region.Mode} : ∀ (fuel : Nat) (listed : Array Bool) (a : Act) (w : World), wpAny P md ops Q fuel listed a w → wpAnyIn (Fence.wide.inRound l) n P md ops Q fuel listed a w
  | 0, _, _, _, h => h
  | fuel + 1, _, _, _, h => ⟨h.1, fun i hi => wpOp_in hno (hd i) (fun a' w' h' => wpAny_in hno hd fuel _ a' w' h') (h.2 i hi)⟩
def noDefer (ops : Array Oper) : Bool := ops.toList.all fun o => match o.op with | .defer _ => false | _ => true
/-- A DRAWN REGION IN A ROUND, by the same steps as without one. -/
theorem wpIn_region_round {id : Nat} {a : Act} {w : World} (hno : ¬ LetsOut Q) (hd : noDefer ops = true) (hm : P.follows .mixedOrders = true) (hS : S w.drew)
    (h : S w.drew → wpAnyH P .any ops Q S ops.size (Array.replicate ops.size false) a w.drew) : (Code.region id ops true).wpIn (Fence.wide.inRound l) n P Q a w := by
  refine wpIn_region_any hm (wpAny_in hno (fun i o hi c e => ?_) _ _ _ _ (wpAny_of_held _ _ _ _ (h hS)))
  have h1 : o ∈ ops.toList := by
    rw [Array.mem_toList_iff]
    exact Array.mem_of_getElem? hi
  have h2 := List.all_eq_true.1 hd o h1
  rw [e] at h2
  cases h2
end
end Go.Proofs.Ytgdedgfohjplmaa.Jnl

/- The journal in memory; count, half, sector, First, Next, Broken, Free. -/
namespace Go.Proofs.Ytgdedgfohjplmaa.Jnl
open Go.RowKit Go.Maps Sec

/-- A journal, as data (unbroken). -/
structure Jn where
  area : Nat
  gen : Nat
  op : Nat
  first : Nat
  size : Nat
  st : List UInt8
  recs : List (List UInt8)
  used : Nat
def JC (d : Nat) (J : Jn) (sv rv : Value) : Array Value := #[.pointer (some ⟨d, 0, none⟩), .int .i64 (J.area : Int), .int .i64 (J.gen : Int), .int .i64 (J.op : Int), .int .i64 (J.first : Int), .int .i64 (J.size : Int), sv, rv, .int .i64 (J.used : Int), .int .i64 0]
/-- The journal's block. -/
def JBlk (w : World) (jb d : Nat) (J : Jn) (sv rv : Value) : Prop := w.heap[jb]? = some (.cells (JC d J sv rv) 57)
/-- How many parts so many bytes have. -/
def parts (n : Nat) : Nat := max 1 ((n + 101) / 102)
section
variable {w w' : World} {jb d : Nat} {J : Jn} {sv rv : Value}
theorem JBlk.cell (h : JBlk w jb d J sv rv) (j : Nat) : w.cell? ⟨jb, j, none⟩ = (JC d J sv rv)[j]? := cell_blk h j
theorem JBlk.free (h : JBlk w jb d J sv rv) (j : Nat) : w.frozen? ⟨jb, j, none⟩ = false := frozen_blk h j
theorem JBlk.lt (h : JBlk w jb d J sv rv) : jb < w.heap.size := (Array.getElem?_eq_some_iff.1 h).1
theorem JBlk.grown (h : JBlk w jb d J sv rv) (hg : w.grownBy w' none) : JBlk w' jb d J sv rv := (hg.block jb h.lt (by simp)).trans h
theorem JBlk.off {T : Nat → Prop} (h : JBlk w jb d J sv rv) (ho : Off T w w') (hT : ¬ T jb) : JBlk w' jb d J sv rv := (ho.block jb h.lt hT).trans h
theorem drew_then (h : w.drew.grownBy w' none) : w.grownBy w' none := ⟨h.os, h.tape, h.output, h.size, fun k hk hn => h.block k hk hn⟩
end

set_option maxRecDepth 100000 in
theorem count_at (n : Nat) (hn : n < 1000000000000) (w : World) :
    Calls Try.prog 36 #[.int .i64 (n : Int)] w fun e w' => e = .returned (.int .i64 (parts n : Int)) ∧ w' = w := by
  obtain ⟨m, hm⟩ : ∃ m : Int, m = ((parts n : Nat) : Int) := ⟨_, rfl⟩
  have hmx : ∀ (w : World) (ts : Array TypeId) (t : TypeId), (Builtin.max_ ts t #[.int .i64 1, .int .i64 (((n : Int) + 102 - 1) / 102)]).run Try.prog w = .ok (.int .i64 m) w := fun w ts t => by
    rw [run_max_int2]
    congr 2
    rw [hm]
    unfold parts
    split <;> omega
  have hmx2 : ∀ (w : World) (ts : Array TypeId) (t : TypeId), (Builtin.max_ ts t #[.int .i64 1, .int .i64 (((n : Int) + 101) / 102)]).run Try.prog w = .ok (.int .i64 m) w := fun w ts t => by
    have := hmx w ts t
    rwa [show (n : Int) + 102 - 1 = (n : Int) + 101 by omega] at this
  rw [← hm]
  clear hm
  go_enter Try.func36, Try.ntmps36
  go_wp2
  go_ret
  exact ⟨rfl, rfl⟩

set_option maxRecDepth 100000 in
theorem half_at (Sd : Nat → Prop) (d : Nat) (D : Dsk) (jb : Nat) (J : Jn) (sv rv : Value) (w : World) (h : DiskAt w Sd d D) (hj : JBlk w jb d J sv rv) :
    Calls Try.prog 33 #[.pointer (some ⟨jb, 0, none⟩)] w fun e w' => e = .returned (.int .i64 ((D.n / 2 : Nat) : Int)) ∧ w' = w := by
  have c0 : w.cell? ⟨jb, 0, none⟩ = some (.pointer (some ⟨d, 0, none⟩)) := hj.cell 0
  have HD := Lib.hid h
  have hn := h.1
  clear h hj
  go_enter Try.func33, Try.ntmps33
  go_wp2_with fail
  refine (sectors_at Sd d D w HD.out).mono ?_
  rintro e w2 ⟨rfl, hw2⟩
  subst hw2
  go_wp2_with fail
  go_ret
  exact ⟨rfl, rfl⟩

set_option maxRecDepth 100000 in
set_option maxHeartbeats 4000000 in
theorem sector_at (Sd : Nat → Prop) (d : Nat) (D : Dsk) (jb : Nat) (J : Jn) (sv rv : Value) (i : Nat) (w : World) (h : DiskAt w Sd d D) (hj : JBlk w jb d J sv rv) (hi : J.area * (D.n / 2) + i < D.n) (ho : D.off = false) :
    Calls Try.prog 27 #[.pointer (some ⟨jb, 0, none⟩), .int .i64 (i : Int)] w fun e w' => ∃ g, e = .returned (.slice (some ⟨g, 0, none⟩) 128 128) ∧ w.heap.size ≤ g ∧ g < w'.heap.size ∧ w'.rangeAt g 0 (u8s (D.now (J.area * (D.n / 2) + i))) ∧ w.grownBy w' none := by
  have HC0 : Hid (w.drew.cell? ⟨jb, 0, none⟩ = some (Value.pointer (some ⟨d, 0, none⟩)) ∧ w.drew.cell? ⟨jb, 1, none⟩ = some (Value.int .i64 (J.area : Int))) := ⟨hj.cell 0, hj.cell 1⟩
  have HD1 : Hid (DiskAt w.drew Sd d D) := h.grown ⟨rfl, rfl, rfl, Nat.le_refl _, fun _ _ _ => rfl⟩
  have HB1 : Hid (JBlk w.drew jb d J sv rv) := hj
  have HLT := Lib.hid hi
  have HOFF := Lib.hid ho
  have HN := Lib.hid h.1
  have HM3 : Hid ((J.area : Int) * ((D.n : Int) / 2) + (i : Int) = ((J.area * (D.n / 2) + i : Nat) : Int)) := by
    show _ = _
    rw [Int.natCast_add, Int.natCast_mul, Int.natCast_ediv]
    rfl
  have HM1 : Hid (IntKind.i64.wrap ((J.area : Int) * ((D.n : Int) / 2)) = (J.area : Int) * ((D.n : Int) / 2)) := by
    show _ = _
    have h1 := HM3.out
    have h2 := HLT.out
    have h3 := HN.out
    generalize hx : (J.area : Int) * ((D.n : Int) / 2) = x at h1 ⊢
    have h4 : (0 : Int) ≤ x := by rw [← hx]; exact Int.mul_nonneg (by omega) (by omega)
    rw [IntKind.wrap_i64]
    omega
  have HM2 : Hid (IntKind.i64.wrap ((J.area : Int) * ((D.n : Int) / 2) + (i : Int)) = (J.area : Int) * ((D.n : Int) / 2) + (i : Int)) := by
    show _ = _
    rw [HM3.out, IntKind.wrap_i64]
    have h2 := HLT.out
    have h3 := HN.out
    omega
  clear h hj hi ho
  go_enter Try.func27, Try.ntmps27
  go_wp2_with fail
  refine wp_region_noPanic ?_
  refine wp_region_held_drew (S := fun w' => w'.cell? ⟨jb, 0, none⟩ = some (Value.pointer (some ⟨d, 0, none⟩)) ∧ w'.cell? ⟨jb, 1, none⟩ = some (Value.int .i64 (J.area : Int))) (by kernel_rfl) ?hSa (fun hHeld => ?_)
  case hSa => exact HC0.out
  refine wpAnyH_take (i := 0) (oi := ⟨_, _, _, _, _, _⟩) (v := ?va0) rfl (by kernel_rfl) (by kernel_rfl) (by kernel_rfl) (fun _ _ _ h => h) (Or.inl ⟨by rfl, ?hya0⟩) hHeld ?_
  case hya0 => (intro wS hSw; (try dsimp only at hSw); go_simp; (first | done | with_reducible rfl))
  try simp only [Act.put, List.setIfInBounds_toArray, List.set_cons_zero, List.set_cons_succ]
  refine wpAnyH_take (i := 1) (oi := ⟨_, _, _, _, _, _⟩) (v := ?va1) rfl (by kernel_rfl) (by kernel_rfl) (by kernel_rfl) (fun _ _ _ h => h) (Or.inl ⟨by rfl, ?hya1⟩) hHeld ?_
  case hya1 => (intro wS hSw; (try dsimp only at hSw); go_simp; (first | done | with_reducible rfl))
  try simp only [Act.put, List.setIfInBounds_toArray, List.set_cons_zero, List.set_cons_succ]
  refine wpAnyH_take (i := 2) (oi := ⟨_, _, _, _, _, _⟩) (v := ?va2) rfl (by kernel_rfl) (by kernel_rfl) (by kernel_rfl) (fun _ _ _ h => h) (Or.inl ⟨by rfl, ?hya2⟩) hHeld ?_
  case hya2 => (intro wS hSw; (try dsimp only at hSw); go_simp; (first | done | with_reducible rfl))
  try simp only [Act.put, List.setIfInBounds_toArray, List.set_cons_zero, List.set_cons_succ]
  refine wpAnyH_take (i := 3) (oi := ⟨_, _, _, _, _, _⟩) (v := ?va3) rfl (by kernel_rfl) (by kernel_rfl) (by kernel_rfl) (fun _ _ _ h => h) (Or.inl ⟨by rfl, ?hya3⟩) hHeld ?_
  case hya3 => (intro wS hSw; (try dsimp only at hSw); go_simp; (first | done | with_reducible rfl))
  try simp only [Act.put, List.setIfInBounds_toArray, List.set_cons_zero, List.set_cons_succ]
  refine wpAnyH_take (i := 4) (oi := ⟨_, _, _, _, _, _⟩) (v := ?va4) rfl (by kernel_rfl) (by kernel_rfl) (by kernel_rfl) (fun _ _ _ h => h) (Or.inl ⟨by rfl, ?hya4⟩) hHeld ?_
  case hya4 => (intro wS hSw; (try dsimp only at hSw); go_simp; (first | done | with_reducible rfl))
  try simp only [Act.put, List.setIfInBounds_toArray, List.set_cons_zero, List.set_cons_succ]
  refine wpAnyH_take (i := 5) (oi := ⟨_, _, _, _, _, _⟩) (v := ?va5) rfl (by kernel_rfl) (by kernel_rfl) (by kernel_rfl) (fun _ _ _ h => h) (Or.inl ⟨by rfl, ?hya5⟩) hHeld ?_
  case hya5 => (intro wS hSw; (try dsimp only at hSw); go_simp; (first | done | with_reducible rfl))
  try simp only [Act.put, List.setIfInBounds_toArray, List.set_cons_zero, List.set_cons_succ]
  refine wpAnyH_take (i := 6) (oi := ⟨_, _, _, _, _, _⟩) (v := ?va6) rfl (by kernel_rfl) (by kernel_rfl) (by kernel_rfl) (fun _ _ _ h => h) (Or.inl ⟨by rfl, ?hya6⟩) hHeld ?_
  case hya6 => (intro wS hSw; (try dsimp only at hSw); go_simp; (first | done | with_reducible rfl))
  try simp only [Act.put, List.setIfInBounds_toArray, List.set_cons_zero, List.set_cons_succ]
  refine wpAnyH_take (i := 7) (oi := ⟨_, _, _, _, _, _⟩) (v := ?va7) rfl (by kernel_rfl) (by kernel_rfl) (by kernel_rfl) (fun _ _ _ h => h) (Or.inl ⟨by rfl, ?hya7⟩) hHeld ?_
  case hya7 => (intro wS hSw; (try dsimp only at hSw); go_simp; (first | done | with_reducible rfl))
  try simp only [Act.put, List.setIfInBounds_toArray, List.set_cons_zero, List.set_cons_succ]
  refine wpAnyH_take (i := 8) (oi := ⟨_, _, _, _, _, _⟩) (v := ?va8) rfl (by kernel_rfl) (by kernel_rfl) (by kernel_rfl) (fun _ _ _ h => h) (Or.inl ⟨by rfl, ?hya8⟩) hHeld ?_
  case hya8 => (intro wS hSw; (try dsimp only at hSw); go_simp; (first | done | with_reducible rfl))
  try simp only [Act.put, List.setIfInBounds_toArray, List.set_cons_zero, List.set_cons_succ]
  refine wpAnyH_take (i := 11) (oi := ⟨_, _, _, _, _, _⟩) (v := ?va11) rfl (by kernel_rfl) (by kernel_rfl) (by kernel_rfl) (fun _ _ _ h => h) (Or.inl ⟨by rfl, ?hya11⟩) hHeld ?_
  case hya11 => (intro wS hSw; (try dsimp only at hSw); go_simp; (first | done | with_reducible rfl))
  try simp only [Act.put, List.setIfInBounds_toArray, List.set_cons_zero, List.set_cons_succ]
  refine wpAnyH_ready (rs := [9]) (by kernel_rfl) (by simp) ?_
  refine AllReadyH.cons (o := ⟨_, _, _, _, _, _⟩) rfl (fun K hK => ?_) AllReadyH.nil
  go_simp
  refine (half_at Sd d D jb J sv rv w.drew HD1.out HB1.out).mono ?_
  rintro e w2 ⟨rfl, hw2⟩
  have hw2 := hw2.symm
  subst hw2
  go_wp2_with fail
  refine hK.out _ _ ?ka9 (fun hNew => ?_)
  case ka9 => (try dsimp only); exact HC0.out
  clear hK K hHeld
  have hHeld := hNew
  clear hNew
  try simp only [Act.put, List.setIfInBounds_toArray, List.set_cons_zero, List.set_cons_succ]
  refine wpAnyH_take (i := 10) (oi := ⟨_, _, _, _, _, _⟩) (v := Value.int .i64 ((J.area : Int) * ((D.n : Int) / 2))) rfl (by kernel_rfl) (by kernel_rfl) (by kernel_rfl) (fun _ _ _ h => h) (Or.inl ⟨by rfl, ?hya10⟩) hHeld ?_
  case hya10 => (intro wS hSw; (try dsimp only at hSw); go_simp; rw [HM1.out])
  try simp only [Act.put, List.setIfInBounds_toArray, List.set_cons_zero, List.set_cons_succ]
  refine wpAnyH_take (i := 12) (oi := ⟨_, _, _, _, _, _⟩) (v := Value.int .i64 ((J.area : Int) * ((D.n : Int) / 2) + (i : Int))) rfl (by kernel_rfl) (by kernel_rfl) (by kernel_rfl) (fun _ _ _ h => h) (Or.inl ⟨by rfl, ?hya12⟩) hHeld ?_
  case hya12 => (intro wS hSw; (try dsimp only at hSw); go_simp; rw [HM2.out])
  try simp only [Act.put, List.setIfInBounds_toArray, List.set_cons_zero, List.set_cons_succ]
  refine wpAnyH_ready (rs := [13]) (by kernel_rfl) (by simp) ?_
  refine AllReadyH.cons (o := ⟨_, _, _, _, _, _⟩) rfl (fun K hK => ?_) AllReadyH.nil
  go_simp
  rw [HM3.out]
  refine (read_told Sd d (J.area * (D.n / 2) + i) D w.drew HD1.out HLT.out HOFF.out).mono ?_
  rintro e w2 ⟨rfl, hl2, hr2, hs2, hg2, hd2⟩
  have HR2 := Lib.hid hr2
  have HS2 := Lib.hid hs2
  have HG2 := Lib.hid hg2
  clear hl2 hr2 hs2 hg2 hd2
  go_wp2_with fail
  refine hK.out _ _ ?ka13 (fun hNew => ?_)
  case ka13 => (try dsimp only); exact ⟨HG2.out.cell HC0.out.1 (by simp), HG2.out.cell HC0.out.2 (by simp)⟩
  clear hK K hHeld
  have hHeld := hNew
  clear hNew
  try simp only [Act.put, List.setIfInBounds_toArray, List.set_cons_zero, List.set_cons_succ]
  refine wpAnyH_take (i := 14) (oi := ⟨_, _, _, _, _, _⟩) (v := ?va14) rfl (by kernel_rfl) (by kernel_rfl) (by kernel_rfl) (fun _ _ _ h => h) (Or.inl ⟨by rfl, ?hya14⟩) hHeld ?_
  case hya14 => (intro wS hSw; (try dsimp only at hSw); go_simp; (first | done | with_reducible rfl))
  try simp only [Act.put, List.setIfInBounds_toArray, List.set_cons_zero, List.set_cons_succ]
  refine wpAnyH_take (i := 15) (oi := ⟨_, _, _, _, _, _⟩) (v := ?va15) rfl (by kernel_rfl) (by kernel_rfl) (by kernel_rfl) (fun _ _ _ h => h) (Or.inl ⟨by rfl, ?hya15⟩) hHeld ?_
  case hya15 => (intro wS hSw; (try dsimp only at hSw); go_simp; (first | done | with_reducible rfl))
  try simp only [Act.put, List.setIfInBounds_toArray, List.set_cons_zero, List.set_cons_succ]
  refine wpAnyH_take (i := 16) (oi := ⟨_, _, _, _, _, _⟩) (v := ?va16) rfl (by kernel_rfl) (by kernel_rfl) (by kernel_rfl) (fun _ _ _ h => h) (Or.inl ⟨by rfl, ?hya16⟩) hHeld ?_
  case hya16 => (intro wS hSw; (try dsimp only at hSw); go_simp; (first | done | with_reducible rfl))
  try simp only [Act.put, List.setIfInBounds_toArray, List.set_cons_zero, List.set_cons_succ]
  refine wpAnyH_take (i := 17) (oi := ⟨_, _, _, _, _, _⟩) (v := ?va17) rfl (by kernel_rfl) (by kernel_rfl) (by kernel_rfl) (fun _ _ _ h => h) (Or.inl ⟨by rfl, ?hya17⟩) hHeld ?_
  case hya17 => (intro wS hSw; (try dsimp only at hSw); go_simp; (first | done | with_reducible rfl))
  try simp only [Act.put, List.setIfInBounds_toArray, List.set_cons_zero, List.set_cons_succ]
  refine wpAnyH_take (i := 18) (oi := ⟨_, _, _, _, _, _⟩) (v := ?va18) rfl (by kernel_rfl) (by kernel_rfl) (by kernel_rfl) (fun _ _ _ h => h) (Or.inl ⟨by rfl, ?hya18⟩) hHeld ?_
  case hya18 => (intro wS hSw; (try dsimp only at hSw); go_simp; (first | done | with_reducible rfl))
  try simp only [Act.put, List.setIfInBounds_toArray, List.set_cons_zero, List.set_cons_succ]
  refine wpAnyH_done (by kernel_rfl) ?_ _
  refine NoPanic.normal ?_
  clear hHeld
  go_wp2_with fail
  go_ret
  exact ⟨_, rfl, Nat.le_refl _, by have := HS2.out; show w.heap.size < _; rw [this]; exact Nat.lt_succ_self _, HR2.out, drew_then HG2.out⟩
end Go.Proofs.Ytgdedgfohjplmaa.Jnl

/- The journal: a head is sealed. -/
namespace Go.Proofs.Ytgdedgfohjplmaa.Jnl
open Go.RowKit Go.Maps Sec

theorem pad_full {l : List UInt8} (h : l.length = 128) : pad l = l := by simp [pad, h]
theorem wrote_live (D : Dsk) {i : Nat} {l : List UInt8} (ho : D.off = false) (ha : D.armed = none) (hi : i < D.n) (hl : l.length = 128) : wrote D (i : Int) l = (0, D.push i l) := by
  unfold Sec.wrote
  have hask : askedN D (i : Int) = 0 := by
    unfold askedN
    rw [if_neg (by rw [ho]; decide), if_neg (by omega)]
  rw [if_neg (by simpa using hask), if_neg (by omega), ha, pad_full hl]
  simp
section
variable {w w' y w2 w3 : World} {jb d : Nat} {J : Jn} {sv rv : Value} {Sd : Nat → Prop} {D : Dsk}
/-- 'broken' stored anew: the world is as it was. -/
theorem same_set (h : JBlk w jb d J sv rv) : (w.setCell ⟨jb, 9, none⟩ (.int .i64 0)).grownBy w none ∧ w.grownBy (w.setCell ⟨jb, 9, none⟩ (.int .i64 0)) none := by
  have hg := grown_set w jb 9 (.int .i64 0)
  have e : ∀ k, (w.setCell ⟨jb, 9, none⟩ (.int .i64 0)).heap[k]? = w.heap[k]? := fun k => by
    by_cases hk : k = jb
    · rw [hk, heap_setCell_same w jb 9 _ _ _ h, h]
      rfl
    · exact heap_setCell_other w ⟨jb, 9, none⟩ k _ hk
  have s : (w.setCell ⟨jb, 9, none⟩ (.int .i64 0)).heap.size = w.heap.size := by simp
  exact ⟨⟨hg.os.symm, hg.tape.symm, hg.output.symm, Nat.le_of_eq s, fun k _ _ => (e k).symm⟩, ⟨hg.os, hg.tape, hg.output, Nat.le_of_eq s.symm, fun k _ _ => e k⟩⟩
theorem same_off (h : JBlk w3 jb d J sv rv) (ho : Off Sd y w3) : Off Sd y (w3.setCell ⟨jb, 9, none⟩ (.int .i64 0)) := ho.trans (Off.of_grown (same_set h).2 (by simp))
theorem _root_.Go.Proofs.Ytgdedgfohjplmaa.Sec.DiskAt.grown0 {S : Nat → Prop} (h : DiskAt w S d D) (hg : w'.grownBy w none ∧ w.grownBy w' none) : DiskAt w' S d D := h.grown hg.2
/-- Bytes made, then written. -/
theorem seal_off (hb : Below y.drew.heap.size y.drew w2) (ho : Off (Beside Sd y.drew.heap.size w2.heap.size) w2 w3) : Off Sd y w3 := by
  have h1 : Off Sd y w2 := ⟨hb.os, hb.tape, hb.output, hb.size, fun k hk _ => hb.block k hk⟩
  refine ⟨ho.os.trans h1.os, ho.tape.trans h1.tape, ho.output.trans h1.output, Nat.le_trans h1.size ho.size, fun k hk hs => ?_⟩
  refine (ho.block k (Nat.lt_of_lt_of_le hk h1.size) ?_).trans (h1.block k hk hs)
  rintro (⟨h, _⟩ | h)
  · exact hs h
  · have := hb.size
    have h2 : y.heap.size ≤ w2.heap.size := this
    omega
end
theorem mul_wrap {a N : Nat} (h : a * (N / 2) < N) (hN : N ≤ 16384) : IntKind.i64.wrap ((a : Int) * ((N : Int) / 2)) = (a : Int) * ((N : Int) / 2) := by
  have h1 : (a : Int) * ((N : Int) / 2) = ((a * (N / 2) : Nat) : Int) := by
    rw [Int.natCast_mul, Int.natCast_ediv]
    rfl
  rw [h1, IntKind.wrap_i64]
  omega

set_option maxRecDepth 100000 in
set_option maxHeartbeats 4000000 in
theorem seal_at (Sd : Nat → Prop) (d : Nat) (D : Dsk) (jb : Nat) (J : Jn) (sv rv : Value) (a g o f n : Nat) (hg : g < 9223372036854775808) (ho : o < 9223372036854775808) (hf : f < 9223372036854775808) (hn : n < 9223372036854775808) (w : World) (h : DiskAt w Sd d D) (hlt : ∀ b, Sd b → b < w.heap.size) (hj : JBlk w jb d J sv rv) (hjs : ¬ Sd jb) (ha : a * (D.n / 2) < D.n) (hoff : D.off = false) (harm : D.armed = none) (hwr : D.wr.length < 1000000) :
    Calls Try.prog 30 #[.pointer (some ⟨jb, 0, none⟩), .int .i64 (a : Int), .agg #[.int .i64 (g : Int), .int .i64 (o : Int), .int .i64 (f : Int), .int .i64 (n : Int)]] w fun e w' => e = .returned (.tuple #[]) ∧ ∃ Sd', DiskAt w' Sd' d (D.push (a * (D.n / 2)) (headB g o f n)) ∧ (∀ b, Sd' b → (Sd b ∨ w.heap.size ≤ b) ∧ b < w'.heap.size) ∧ Off Sd w w' := by
  have HG := Lib.hid (And.intro hg (And.intro ho (And.intro hf hn)))
  have HL := Lib.hid (And.intro hoff harm)
  have HLT := Lib.hid ha
  have HW := Lib.hid hwr
  have HM1 := Lib.hid (mul_wrap ha h.1)
  have HM3 : Hid ((a : Int) * ((D.n : Int) / 2) = ((a * (D.n / 2) : Nat) : Int)) := by
    show _ = _
    rw [Int.natCast_mul, Int.natCast_ediv]
    rfl
  have hc := (MapKept.heap_alloc w (.cells #[.int .i64 (g : Int), .int .i64 (o : Int), .int .i64 (f : Int), .int .i64 (n : Int)] 54)).1
  have hgy := World.grownBy_alloc w (.cells #[.int .i64 (g : Int), .int .i64 (o : Int), .int .i64 (f : Int), .int .i64 (n : Int)] 54) none
  obtain ⟨y, hy⟩ : ∃ y, y = w.alloc (.cells #[.int .i64 (g : Int), .int .i64 (o : Int), .int .i64 (f : Int), .int .i64 (n : Int)] 54) := ⟨_, rfl⟩
  have hsy : y.heap.size = w.heap.size + 1 := by rw [hy]; exact World.size_alloc ..
  rw [← hy] at hc hgy
  have HY := Lib.hid hy.symm
  have HGY := Lib.hid hgy
  have HDY : Hid (DiskAt y.drew Sd d D) := (h.grown hgy).grown ⟨rfl, rfl, rfl, Nat.le_refl _, fun _ _ _ => rfl⟩
  have hjy := hj.grown hgy
  have HBY : Hid (JBlk y.drew jb d J sv rv) := hjy
  have c9 : y.cell? ⟨jb, 9, none⟩ = some (.int .i64 0) := hjy.cell 9
  have hcs : ∀ v : World, v.heap[w.heap.size]? = some (.cells #[.int .i64 (g : Int), .int .i64 (o : Int), .int .i64 (f : Int), .int .i64 (n : Int)] 54) → JBlk v jb d J sv rv → v.cell? ⟨jb, 0, none⟩ = some (Value.pointer (some ⟨d, 0, none⟩)) ∧ v.cell? ⟨w.heap.size, 0, none⟩ = some (Value.int .i64 (g : Int)) ∧ v.cell? ⟨w.heap.size, 1, none⟩ = some (Value.int .i64 (o : Int)) ∧ v.cell? ⟨w.heap.size, 2, none⟩ = some (Value.int .i64 (f : Int)) ∧ v.cell? ⟨w.heap.size, 3, none⟩ = some (Value.int .i64 (n : Int)) := fun v h1 h2 => ⟨h2.cell 0, cell_blk h1 0, cell_blk h1 1, cell_blk h1 2, cell_blk h1 3⟩
  have HC : Hid (∀ v, Below y.heap.size y v → _) := fun v hv => hcs v ((hv.block w.heap.size (by omega)).trans hc) ((hv.block jb hjy.lt).trans hjy)
  have HJO : Hid (∀ v, Off Sd y v → JBlk v jb d J sv rv) := fun v hv => hjy.off hv hjs
  have HCO : Hid (∀ v, Off Sd y v → _) := fun v hv => hcs v ((hv.block w.heap.size (by omega) (fun x => by have := hlt _ x; omega)).trans hc) (hjy.off hv hjs)
  have HYD : Hid (Below y.heap.size y y.drew) := below_drew _ _
  clear hc hgy hsy hy hjy hcs h hj hjs hlt
  go_enter Try.func30, Try.ntmps30
  go_upto_region 1 with fail
  rw [HY.out]
  go_wp2_with fail
  refine wp_region_noPanic ?_
  refine wp_region_held_drew (S := fun w' => w'.cell? ⟨jb, 0, none⟩ = some (Value.pointer (some ⟨d, 0, none⟩)) ∧ w'.cell? ⟨w.heap.size, 0, none⟩ = some (Value.int .i64 (g : Int)) ∧ w'.cell? ⟨w.heap.size, 1, none⟩ = some (Value.int .i64 (o : Int)) ∧ w'.cell? ⟨w.heap.size, 2, none⟩ = some (Value.int .i64 (f : Int)) ∧ w'.cell? ⟨w.heap.size, 3, none⟩ = some (Value.int .i64 (n : Int))) (by kernel_rfl) ?hSa (fun hHeld => ?_)
  case hSa => exact HC.out _ HYD.out
  refine wpAnyH_take (i := 0) (oi := ⟨_, _, _, _, _, _⟩) (v := ?va0) rfl (by kernel_rfl) (by kernel_rfl) (by kernel_rfl) (fun _ _ _ h => h) (Or.inl ⟨by rfl, ?hya0⟩) hHeld ?_
  case hya0 => (intro wS hSw; (try dsimp only at hSw); go_simp; (first | done | with_reducible rfl))
  try simp only [Act.put, List.setIfInBounds_toArray, List.set_cons_zero, List.set_cons_succ]
  refine wpAnyH_take (i := 1) (oi := ⟨_, _, _, _, _, _⟩) (v := ?va1) rfl (by kernel_rfl) (by kernel_rfl) (by kernel_rfl) (fun _ _ _ h => h) (Or.inl ⟨by rfl, ?hya1⟩) hHeld ?_
  case hya1 => (intro wS hSw; (try dsimp only at hSw); go_simp; (first | done | with_reducible rfl))
  try simp only [Act.put, List.setIfInBounds_toArray, List.set_cons_zero, List.set_cons_succ]
  refine wpAnyH_take (i := 2) (oi := ⟨_, _, _, _, _, _⟩) (v := ?va2) rfl (by kernel_rfl) (by kernel_rfl) (by kernel_rfl) (fun _ _ _ h => h) (Or.inl ⟨by rfl, ?hya2⟩) hHeld ?_
  case hya2 => (intro wS hSw; (try dsimp only at hSw); go_simp; (first | done | with_reducible rfl))
  try simp only [Act.put, List.setIfInBounds_toArray, List.set_cons_zero, List.set_cons_succ]
  refine wpAnyH_take (i := 3) (oi := ⟨_, _, _, _, _, _⟩) (v := ?va3) rfl (by kernel_rfl) (by kernel_rfl) (by kernel_rfl) (fun _ _ _ h => h) (Or.inl ⟨by rfl, ?hya3⟩) hHeld ?_
  case hya3 => (intro wS hSw; (try dsimp only at hSw); go_simp; (first | done | with_reducible rfl))
  try simp only [Act.put, List.setIfInBounds_toArray, List.set_cons_zero, List.set_cons_succ]
  refine wpAnyH_take (i := 4) (oi := ⟨_, _, _, _, _, _⟩) (v := ?va4) rfl (by kernel_rfl) (by kernel_rfl) (by kernel_rfl) (fun _ _ _ h => h) (Or.inl ⟨by rfl, ?hya4⟩) hHeld ?_
  case hya4 => (intro wS hSw; (try dsimp only at hSw); go_simp; (first | done | with_reducible rfl))
  try simp only [Act.put, List.setIfInBounds_toArray, List.set_cons_zero, List.set_cons_succ]
  refine wpAnyH_take (i := 5) (oi := ⟨_, _, _, _, _, _⟩) (v := ?va5) rfl (by kernel_rfl) (by kernel_rfl) (by kernel_rfl) (fun _ _ _ h => h) (Or.inl ⟨by rfl, ?hya5⟩) hHeld ?_
  case hya5 => (intro wS hSw; (try dsimp only at hSw); go_simp; (first | done | with_reducible rfl))
  try simp only [Act.put, List.setIfInBounds_toArray, List.set_cons_zero, List.set_cons_succ]
  refine wpAnyH_take (i := 6) (oi := ⟨_, _, _, _, _, _⟩) (v := ?va6) rfl (by kernel_rfl) (by kernel_rfl) (by kernel_rfl) (fun _ _ _ h => h) (Or.inl ⟨by rfl, ?hya6⟩) hHeld ?_
  case hya6 => (intro wS hSw; (try dsimp only at hSw); go_simp; (first | done | with_reducible rfl))
  try simp only [Act.put, List.setIfInBounds_toArray, List.set_cons_zero, List.set_cons_succ]
  refine wpAnyH_take (i := 9) (oi := ⟨_, _, _, _, _, _⟩) (v := ?va9) rfl (by kernel_rfl) (by kernel_rfl) (by kernel_rfl) (fun _ _ _ h => h) (Or.inl ⟨by rfl, ?hya9⟩) hHeld ?_
  case hya9 => (intro wS hSw; (try dsimp only at hSw); go_simp; (first | done | with_reducible rfl))
  try simp only [Act.put, List.setIfInBounds_toArray, List.set_cons_zero, List.set_cons_succ]
  refine wpAnyH_ready (rs := [7]) (by kernel_rfl) (by simp) ?_
  refine AllReadyH.cons (o := ⟨_, _, _, _, _, _⟩) rfl (fun K hK => ?_) AllReadyH.nil
  go_simp
  refine (half_at Sd d D jb J sv rv y.drew HDY.out HBY.out).mono ?_
  rintro e wq ⟨rfl, hwq⟩
  have hwq := hwq.symm
  subst hwq
  go_wp2_with fail
  refine hK.out _ _ ?ka7 (fun hNew => ?_)
  case ka7 => (try dsimp only); exact HC.out _ HYD.out
  clear hK K hHeld
  have hHeld := hNew
  clear hNew
  try simp only [Act.put, List.setIfInBounds_toArray, List.set_cons_zero, List.set_cons_succ]
  refine wpAnyH_take (i := 8) (oi := ⟨_, _, _, _, _, _⟩) (v := Value.int .i64 ((a : Int) * ((D.n : Int) / 2))) rfl (by kernel_rfl) (by kernel_rfl) (by kernel_rfl) (fun _ _ _ h => h) (Or.inl ⟨by rfl, ?hya8⟩) hHeld ?_
  case hya8 => (intro wS hSw; (try dsimp only at hSw); go_simp; rw [HM1.out])
  try simp only [Act.put, List.setIfInBounds_toArray, List.set_cons_zero, List.set_cons_succ]
  refine wpAnyH_ready (rs := [10]) (by kernel_rfl) (by simp) ?_
  refine AllReadyH.cons (o := ⟨_, _, _, _, _, _⟩) rfl (fun K hK => ?_) AllReadyH.nil
  go_simp
  refine (head_bytes_at g o f n HG.out.1 HG.out.2.1 HG.out.2.2.1 HG.out.2.2.2 y.drew).mono ?_
  rintro e w2 ⟨v2, rfl, hr2, hb2⟩
  obtain ⟨g2, cap2, rfl, hc2, hm2, hlo2, hhi2, hrg2⟩ := hr2.some (by have := headB_length g o f n; intro e; rw [e] at this; cases this)
  have HB2 := Lib.hid hb2
  have HD2 := Lib.hid (HDY.out.beside (Below.to_grown hb2))
  have HR2 : Hid (RowB w2 (Beside Sd y.drew.heap.size w2.heap.size) (some ⟨g2, 0, none⟩) (headB g o f n)) := .inr ⟨g2, 0, rfl, beside_not hlo2 hhi2, hrg2⟩
  clear hr2 hb2 hc2 hm2 hlo2 hhi2 hrg2
  go_wp2_with fail
  refine hK.out _ _ ?ka10 (fun hNew => ?_)
  case ka10 => (try dsimp only); exact HC.out _ (HYD.out.trans HB2.out)
  clear hK K hHeld
  have hHeld := hNew
  clear hNew
  try simp only [Act.put, List.setIfInBounds_toArray, List.set_cons_zero, List.set_cons_succ]
  refine wpAnyH_ready (rs := [11]) (by kernel_rfl) (by simp) ?_
  refine AllReadyH.cons (o := ⟨_, _, _, _, _, _⟩) rfl (fun K hK => ?_) AllReadyH.nil
  go_simp
  rw [HM3.out]
  refine (write_at _ d ((a * (D.n / 2) : Nat) : Int) D (headB g o f n) (some ⟨g2, 0, none⟩) cap2 w2 HD2.out HR2.out beside_new HW.out).mono ?_
  rw [wrote_live D HL.out.1 HL.out.2 HLT.out (headB_length g o f n)]
  rintro e w3 ⟨rfl, hd3, ho3⟩
  have HD3 := Lib.hid hd3
  have HO3 : Hid (Off Sd y w3) := seal_off HB2.out ho3
  clear hd3 ho3
  go_wp2_with fail
  refine hK.out _ _ ?ka11 (fun hNew => ?_)
  case ka11 => (try dsimp only); exact HCO.out _ HO3.out
  clear hK K hHeld
  have hHeld := hNew
  clear hNew
  try simp only [Act.put, List.setIfInBounds_toArray, List.set_cons_zero, List.set_cons_succ]
  refine wpAnyH_take (i := 12) (oi := ⟨_, _, _, _, _, _⟩) (v := ?va12) rfl (by kernel_rfl) (by kernel_rfl) (by kernel_rfl) (fun _ _ _ h => h) (Or.inl ⟨by rfl, ?hya12⟩) hHeld ?_
  case hya12 => (intro wS hSw; (try dsimp only at hSw); go_simp; (first | done | with_reducible rfl))
  try simp only [Act.put, List.setIfInBounds_toArray, List.set_cons_zero, List.set_cons_succ]
  refine wpAnyH_take (i := 13) (oi := ⟨_, _, _, _, _, _⟩) (v := ?va13) rfl (by kernel_rfl) (by kernel_rfl) (by kernel_rfl) (fun _ _ _ h => h) (Or.inl ⟨by rfl, ?hya13⟩) hHeld ?_
  case hya13 => (intro wS hSw; (try dsimp only at hSw); go_simp; (first | done | with_reducible rfl))
  try simp only [Act.put, List.setIfInBounds_toArray, List.set_cons_zero, List.set_cons_succ]
  refine wpAnyH_ready (rs := [14]) (by kernel_rfl) (by simp) ?_
  refine AllReadyH.cons (o := ⟨_, _, _, _, _, _⟩) rfl (fun K hK => ?_) AllReadyH.nil
  have c9 : w3.cell? ⟨jb, 9, none⟩ = some (.int .i64 0) := (HJO.out _ HO3.out).cell 9
  have f9 : w3.frozen? ⟨jb, 9, none⟩ = false := (HJO.out _ HO3.out).free 9
  go_simp
  clear c9 f9
  refine hK.out _ _ ?ka14 (fun hNew => ?_)
  case ka14 => (try dsimp only); exact HCO.out _ (same_off (HJO.out _ HO3.out) HO3.out)
  clear hK K hHeld
  have hHeld := hNew
  clear hNew
  try simp only [Act.put, List.setIfInBounds_toArray, List.set_cons_zero, List.set_cons_succ]
  refine wpAnyH_done (by kernel_rfl) ?_ _
  refine NoPanic.normal ?_
  clear hHeld
  go_wp2_with fail
  go_end0
  have hw3 := same_set (HJO.out _ HO3.out)
  refine ⟨rfl, _, (HD3.out.grown0 hw3).mono (T := fun b => Beside Sd y.drew.heap.size w2.heap.size b ∧ b < (w3.setCell ⟨jb, 9, none⟩ (.int .i64 0)).heap.size) (fun _ hk hs => ⟨hs, hk⟩), fun b hb => ⟨?_, hb.2⟩, ?_⟩
  · rcases hb.1 with hb | hb
    · exact .inl hb.1
    · exact .inr (Nat.le_trans (Nat.le_trans HGY.out.size (Nat.le_refl _)) (Nat.le_trans HB2.out.size hb))
  · exact (Off.of_grown HGY.out (by simp)).trans (same_off (HJO.out _ HO3.out) HO3.out)
end Go.Proofs.Ytgdedgfohjplmaa.Jnl

/- Regions that draw their order and hold a call of a range's body, in an iterator: loads may be taken first. No program in sight. -/
namespace Go.Proofs.Ytgdedgfohjplmaa.Jnl
open Go

section
variable {P : Program} {ops : Array Oper} {Q : Exit → Act → World → Prop} {S : World → Prop} {n : Nat} {md : Region.Mode}
/-- An operation in the widest fence. -/
abbrev opW (n : Nat) (P : Program) (ops : Array Oper) (Q : Exit → Act → World → Prop) := wpOpIn Fence.wide n P ops Q
theorem yields_opW {i : Nat} {o : Oper} {v : Value} {a : Act} (hi : ops[i]? = some o) (hy : YieldsIf P ops S o v a) {K : Act → World → Prop} {w : World} (hS : S w) (h : K (a.put o.dst v) w) : opW n P ops Q i K a w := by
  unfold opW wpOpIn
  rw [hi]
  rcases hy with ⟨hw, hv⟩ | ⟨hw, rfl⟩
  · dsimp only
    rw [if_pos hw]
    refine ⟨fun _ _ => trivial, ?_⟩
    rw [show Fence.wide.round = none from rfl, Oper.semAt_none, hv w hS]
    exact h
  · dsimp only
    rw [if_neg (by rw [hw]; decide)]
    exact ⟨fun _ _ => trivial, h⟩
/-- What another operation does is the same whether the first one's value lies there or not. -/
theorem opW_put {Y : Act → Prop} {j : Nat} {oi oj : Oper} {v : Value} {K : Act → World → Prop} {a : Act} {w : World} (hj : ops[j]? = some oj) (hap : oi.apart ops oj = true) (hsj : ∀ cs b, oj.op ≠ .select cs b)
    (hQ : ∀ c a w, Q (.panic c) (a.put oi.dst v) w → Q (.panic c) a w) (hk : ∀ u, Y (a.put oj.dst u)) (hkd : ∀ d u, Y (({ a with defers := d :: a.defers } : Act).put oj.dst u))
    (h : opW n P ops Q j K (a.put oi.dst v) w) : opW n P ops Q j (fun a' w' => Y a' ∧ K (a'.put oi.dst v) w') a w := by
  obtain ⟨h1, h2, _⟩ := Oper.apart_spec hap
  unfold opW wpOpIn at h ⊢
  rw [hj] at h ⊢
  dsimp only at h ⊢
  rw [wanted_put oj a oi.dst v h1] at h
  by_cases hw : Region.wanted oj (yielded ops a.tmps) = true
  · rw [if_pos hw] at h ⊢
    refine ⟨fun _ _ => trivial, ?_⟩
    have h := h.2
    rw [show Fence.wide.round = none from rfl, Oper.semAt_none] at h ⊢
    rw [execOp_put oj hsj a oi.dst v h1] at h
    generalize (execOp a.eval oj).run P w = r at h ⊢
    cases r with
    | halt x w' =>
      cases x <;> simp only [Oper.uponIn] at h ⊢
      exact hQ _ _ _ h
    | ok x w' =>
      cases x with
      | value u => exact ⟨hk u, (Act.put_comm a v u h2) ▸ h⟩
      | skip => exact ⟨hk _, (Act.put_comm a v undef h2) ▸ h⟩
      | defer d =>
        refine ⟨hkd d _, ?_⟩
        show K _ _
        rw [← Act.put_comm _ v undef h2, ← Act.put_defers]
        exact h
      | enter f args =>
        refine ⟨h.1, CallsIn.mono h.2 fun e w'' he => ?_⟩
        cases e with
        | returned u => exact ⟨hk u, (Act.put_comm a v u h2) ▸ he⟩
        | panicked c => exact hQ _ _ _ he
        | outgrown => exact he
      | row row args => exact ⟨h.1, RowsIn.mono h.2 fun u w'' he => ⟨hk u, (Act.put_comm a v u h2) ▸ he⟩⟩
      | round l f tmps assign body =>
        refine ⟨h.1, RoundIn.mono h.2 fun e w'' he => ?_⟩
        cases e with
        | returned u => exact ⟨hk u, (Act.put_comm a v u h2) ▸ he⟩
        | panicked c => exact hQ _ _ _ he
        | outgrown => exact he
      | _ => exact h.elim
  · rw [if_neg hw] at h ⊢
    exact ⟨fun _ _ => trivial, hk _, (Act.put_comm a v undef h2) ▸ h.2⟩
/-- What is listed has what it waits for listed, too. -/
def Closed (md : Region.Mode) (ops : Array Oper) (listed : Array Bool) : Prop := listed.size = ops.size ∧ ∀ j oj, ops[j]? = some oj → listed.getD j false = true → ∀ e ∈ oj.after, Region.binds md e = true → listed.getD e.on false = true
theorem closed_start (md : Region.Mode) (ops : Array Oper) : Closed md ops (Array.replicate ops.size false) := ⟨by simp, fun j oj _ h => by
  simp [Array.getD_eq_getD_getElem?, Array.getElem?_replicate] at h
  split at h <;> cases h⟩
theorem closed_set {listed : Array Bool} {i : Nat} (h : Closed md ops listed) (hi : i ∈ Region.ready md ops listed) : Closed md ops (listed.setIfInBounds i true) := ⟨by simpa using h.1, fun j oj hj hl e he hb => by
  by_cases hji : i = j
  · obtain ⟨_, o, ho, hall⟩ := mem_ready.1 hi
    rw [hji, hj] at ho
    cases ho
    exact getD_set_true (hall e he hb)
  · rw [getD_set_ne false hji] at hl
    exact getD_set_true (h.2 j oj hj hl e he hb)⟩
/-- z comes up behind i alone. -/
def Waits (md : Region.Mode) (ops : Array Oper) (z i : Nat) : Prop := ∀ listed, Closed md ops listed → listed.getD i true = false → z ∉ Region.ready md ops listed
def depB (md : Region.Mode) (ops : Array Oper) (j i : Nat) : Bool := match ops[j]? with | some o => o.after.toList.any fun e => Region.binds md e && e.on == i | none => false
theorem depB_spec {j i : Nat} (h : depB md ops j i = true) : ∃ o, ops[j]? = some o ∧ ∃ e ∈ o.after, Region.binds md e = true ∧ e.on = i := by
  unfold depB at h
  split at h
  · rename_i o ho
    obtain ⟨e, he, h⟩ := List.any_eq_true.1 h
    rw [Bool.and_eq_true, beq_iff_eq] at h
    exact ⟨o, ho, e, Array.mem_toList_iff.1 he, h⟩
  · cases h
theorem unlisted {listed : Array Bool} {i : Nat} (h : listed.getD i true = false) : listed.getD i false = false := by
  rcases Nat.lt_or_ge i listed.size with h' | h'
  · simpa [h'] using h
  · simp [Array.getElem?_eq_none h'] at h
theorem waits_direct {z i : Nat} (h : depB md ops z i = true) : Waits md ops z i := fun listed _ hi hz => by
  obtain ⟨o, ho, e, he, hb, heq⟩ := depB_spec h
  obtain ⟨_, o', ho', hall⟩ := mem_ready.1 hz
  rw [ho] at ho'
  cases ho'
  have := hall e he hb
  rw [heq, unlisted hi] at this
  cases this
theorem waits_step {z i : Nat} (j : Nat) (hj : Waits md ops z j) (h : depB md ops j i = true) : Waits md ops z i := fun listed hc hi hz => by
  obtain ⟨o, ho, e, he, hb, heq⟩ := depB_spec h
  by_cases hlj : listed.getD j true = false
  · exact hj listed hc hlj hz
  · have hi' := unlisted hi
    have h' : j < listed.size := by rw [hc.1]; exact (Array.getElem?_eq_some_iff.1 ho).1
    have h1 : listed.getD j false = true := by
      simp [h'] at hlj ⊢
      exact hlj
    have := hc.2 j o ho h1 e he hb
    rw [heq, hi'] at this
    cases this
/-- Whatever order is drawn: S holds behind each operation till z alone may come up; from there on nothing is asked of worlds. -/
def anyU (z n : Nat) (P : Program) (md : Region.Mode) (ops : Array Oper) (Q : Exit → Act → World → Prop) (S : World → Prop) : Nat → Array Bool → Act → World → Prop
  | 0, _, _, _ => False
  | fuel + 1, listed, a, w => (Region.ready md ops listed = [z] ∧ wpAnyIn Fence.wide n P md ops Q (fuel + 1) listed a w) ∨
      ((Region.ready md ops listed = [] → Q .normal a w) ∧ z ∉ Region.ready md ops listed ∧ ∀ i ∈ Region.ready md ops listed, opW n P ops Q i (fun a' w' => S w' ∧ anyU z n P md ops Q S fuel (listed.setIfInBounds i true) a' w') a w)
theorem anyU_in {z : Nat} : ∀ (fuel : Nat) (listed : Array Bool) (a : Act) (w : World), anyU z n P md ops Q S fuel listed a w → wpAnyIn Fence.wide n P md ops Q fuel listed a w
  | 0, _, _, _, h => h.elim
  | _ + 1, _, _, _, .inl h => h.2
  | fuel + 1, _, _, _, .inr h => ⟨h.1, fun i hi => wpOpIn_mono (fun a' w' h' => anyU_in fuel _ a' w' h'.2) (h.2.2 i hi)⟩
theorem anyU_first {z i : Nat} {oi : Oper} {v : Value} (hwz : Waits md ops z i) (hi : ops[i]? = some oi) (hsel : ∀ (j : Nat) (o : Oper) cs b, ops[j]? = some o → o.op ≠ .select cs b) (hQ : ∀ c a w, Q (.panic c) (a.put oi.dst v) w → Q (.panic c) a w) :
    ∀ (fuel : Nat) (listed : Array Bool) (a : Act) (w : World), Closed md ops listed → (∀ j oj, ops[j]? = some oj → j ≠ i → listed.getD j true = false → (∀ e ∈ oj.after, Region.binds md e = true → e.on ≠ i) → oi.apart ops oj = true) →
      i ∈ Region.ready md ops listed → YieldsIf P ops S oi v a → S w → anyU z n P md ops Q S fuel (listed.setIfInBounds i true) (a.put oi.dst v) w → anyU z n P md ops Q S (fuel + 1) listed a w := by
  intro fuel
  induction fuel with
  | zero => exact fun _ _ _ _ _ _ _ _ H => H.elim
  | succ fuel ih =>
    intro listed a w hcl hfree hr hy hS H
    have hz := hwz listed hcl (mem_ready.1 hr).1
    refine .inr ⟨fun h => absurd hr (by rw [h]; simp), hz, fun j hj => ?_⟩
    by_cases hji : j = i
    · rw [hji]
      exact yields_opW hi hy hS ⟨hS, H⟩
    · rcases id H with ⟨hrz, _⟩ | ⟨_, _, H2⟩
      · have := ready_mono hj hji
        rw [hrz, List.mem_singleton] at this
        exact absurd (this ▸ hj) hz
      · obtain ⟨hjun, oj, hoj, hall⟩ := mem_ready.1 hj
        have hnot : ∀ e ∈ oj.after, Region.binds md e = true → e.on ≠ i := fun e he hb heq => by
          have g1 := hall e he hb
          rw [heq, unlisted (mem_ready.1 hr).1] at g1
          cases g1
        have hap := hfree j oj hoj hji hjun hnot
        obtain ⟨_, _, h3⟩ := Oper.apart_spec hap
        have hk : ∀ b : Act, YieldsIf P ops S oi v b → ∀ u, YieldsIf P ops S oi v (b.put oj.dst u) := fun b hb u => hb.of_same (execOp_put oi (fun cs b => hsel i oi cs b hi) b oj.dst u h3) (wanted_put oi b oj.dst u h3)
        have h2 := opW_put (Y := fun a' => YieldsIf P ops S oi v a') hoj hap (fun cs b => hsel j oj cs b hoj) hQ (hk a hy) (fun d u => hk { a with defers := d :: a.defers } (hy.of_same rfl rfl) u) (H2 j (ready_mono hj hji))
        refine wpOpIn_mono (fun a' w' h3 => ⟨h3.2.1, ih (listed.setIfInBounds j true) a' w' (closed_set hcl hj) (fun k ok hkk hki hun hno => ?_) (ready_mono hr (Ne.symm hji)) h3.1 h3.2.1 ?_⟩) h2
        · refine hfree k ok hkk hki ?_ hno
          by_cases hjk : j = k
          · rw [← hjk]
            exact hjun
          · rw [getD_set_ne true hjk] at hun
            exact hun
        · rw [Array.setIfInBounds_comm _ _ hji]
          exact h3.2.2
theorem anyU_take {z i : Nat} {oi : Oper} {v : Value} {fuel : Nat} {listed : Array Bool} {a : Act} {w : World} (hcl : Closed md ops listed) (hwz : Waits md ops z i) (hi : ops[i]? = some oi) (hs : Region.noSelect ops = true) (hf : Region.free md ops listed i = true) (hr : (Region.ready md ops listed).contains i = true)
    (hQ : ∀ c a w, Q (.panic c) (a.put oi.dst v) w → Q (.panic c) a w) (hy : YieldsIf P ops S oi v a) (hS : S w) (h : Closed md ops (listed.setIfInBounds i true) → anyU z n P md ops Q S fuel (listed.setIfInBounds i true) (a.put oi.dst v) w) : anyU z n P md ops Q S (fuel + 1) listed a w :=
  have hr' : i ∈ Region.ready md ops listed := by simpa using hr
  anyU_first hwz hi (Region.noSelect_spec hs) hQ fuel listed a w hcl (Region.free_spec hi hf) hr' hy hS (h (closed_set hcl hr'))
theorem anyU_stop {z : Nat} {fuel : Nat} {listed : Array Bool} {a : Act} {w : World} (hr : Region.ready md ops listed = [z]) (h : wpAnyIn Fence.wide n P md ops Q (fuel + 1) listed a w) : anyU z n P md ops Q S (fuel + 1) listed a w := .inl ⟨hr, h⟩
theorem wpIn_region_until {z : Nat} {id : Nat} {a : Act} {w : World} (hm : P.follows .mixedOrders = true) (hS : S w.drew) (h : S w.drew → Closed .any ops (Array.replicate ops.size false) → anyU z n P .any ops Q S ops.size (Array.replicate ops.size false) a w.drew) : (Code.region id ops true).wpIn Fence.wide n P Q a w :=
  wpIn_region_any hm (anyU_in _ _ _ _ (h hS (closed_start _ _)))
end
end Go.Proofs.Ytgdedgfohjplmaa.Jnl

/- The journal: the iterator over the parts of bytes. -/
namespace Go.Proofs.Ytgdedgfohjplmaa.Jnl
open Go.RowKit Go.Maps Go.Shelf Sec
attribute [local go_sem] Oper.semAt_some

/-- Part i of bytes. -/
def chunk (l : List UInt8) (i : Nat) : List UInt8 := (l.drop (i * 102)).take 102
def pslice (A : Option Addr) (cap : Nat) (l : List UInt8) (i : Nat) : Value := match A with
  | none => .slice none 0 0
  | some p => if cap = 0 then .slice (some p) 0 0 else .slice (some ⟨p.block, p.off + i * 102, none⟩) (chunk l i).length (cap - i * 102)
abbrev pencs (c : UInt8) (s k n : Nat) (A : Option Addr) (cap : Nat) (l : List UInt8) (i : Nat) : Array Value := #[.agg #[.int .u8 (c.toNat : Int), .int .i64 (s : Int), .int .i64 (k : Int), .int .i64 (i : Int), .int .i64 (n : Int), pslice A cap l i]]
def upto (k : Nat) : List Nat := List.range k
theorem upto_succ (k : Nat) : upto (k + 1) = upto k ++ [k] := by simp [upto, List.range_succ]
theorem upto_length (k : Nat) : (upto k).length = k := by simp [upto]
theorem parts_one (n : Nat) : 1 ≤ parts n := by unfold parts; omega
theorem parts_in {n i : Nat} (h : i < parts n) : i * 102 ≤ n := by unfold parts at h; omega
theorem parts_le (n : Nat) : parts n ≤ n + 1 := by unfold parts; omega
theorem chunk_length (l : List UInt8) (i : Nat) : (chunk l i).length = min l.length ((i + 1) * 102) - i * 102 := by
  simp [chunk]
  omega

/-- The four boxes stay. -/
def Keep4 (Bb Bt Bs Bk : Nat) (W W' : World) : Prop := W'.heap[Bb]? = W.heap[Bb]? ∧ W'.heap[Bt]? = W.heap[Bt]? ∧ W'.heap[Bs]? = W.heap[Bs]? ∧ W'.heap[Bk]? = W.heap[Bk]?
section
variable {Bb Bt Bs Bk : Nat}
theorem keep4_refl (W : World) : Keep4 Bb Bt Bs Bk W W := ⟨rfl, rfl, rfl, rfl⟩
theorem keep4_t {A B C : World} (h : Keep4 Bb Bt Bs Bk A B) (k : Keep4 Bb Bt Bs Bk B C) : Keep4 Bb Bt Bs Bk A C := ⟨k.1.trans h.1, k.2.1.trans h.2.1, k.2.2.1.trans h.2.2.1, k.2.2.2.trans h.2.2.2⟩
theorem keep4_b {w : World} (h : Bb < w.heap.size ∧ Bt < w.heap.size ∧ Bs < w.heap.size ∧ Bk < w.heap.size) (W : World) (l : Nat) (o o' : Obj) (hl : w.heap.size ≤ l) (hw : W.heap[l]? = some o) (_ : o.isCells = false) (_ : o.isWalk = false) : Keep4 Bb Bt Bs Bk W (W.putObj l o') := by
  have hlt := (Array.getElem?_eq_some_iff.1 hw).1
  have k : ∀ x, x < w.heap.size → (W.putObj l o').heap[x]? = W.heap[x]? := fun x hx => (grownBy_putObj' W l o').block x (by omega) (fun e => by injection e with e; omega)
  exact ⟨k _ h.1, k _ h.2.1, k _ h.2.2.1, k _ h.2.2.2⟩
/-- The four boxes hold. -/
def Box4 (W : World) (Bb Bt Bs Bk : Nat) (A : Option Addr) (n cap : Nat) (c : UInt8) (s k : Nat) : Prop :=
  W.cell? ⟨Bb, 0, none⟩ = some (.slice A n cap) ∧ W.cell? ⟨Bt, 0, none⟩ = some (Value.int .u8 (c.toNat : Int)) ∧ W.cell? ⟨Bs, 0, none⟩ = some (Value.int .i64 (s : Int)) ∧ W.cell? ⟨Bk, 0, none⟩ = some (Value.int .i64 (k : Int))
theorem Box4.keep {W W' : World} {A : Option Addr} {n cap : Nat} {c : UInt8} {s k : Nat} (h : Box4 W Bb Bt Bs Bk A n cap c s k) (hk : Keep4 Bb Bt Bs Bk W W') : Box4 W' Bb Bt Bs Bk A n cap c s k :=
  ⟨(World.cell?_of_block (w := W) (a := ⟨Bb, 0, none⟩) hk.1).trans h.1, (World.cell?_of_block (w := W) (a := ⟨Bt, 0, none⟩) hk.2.1).trans h.2.1, (World.cell?_of_block (w := W) (a := ⟨Bs, 0, none⟩) hk.2.2.1).trans h.2.2.1, (World.cell?_of_block (w := W) (a := ⟨Bk, 0, none⟩) hk.2.2.2).trans h.2.2.2⟩
end

set_option maxRecDepth 100000 in
set_option maxHeartbeats 4000000 in
theorem parts1_in (n : Nat) (hn : 1 ≤ n) (lp Bb Bt Bs Bk : Nat) (A : Option Addr) (l : List UInt8) (cap : Nat) (c : UInt8) (s k : Nat) (hl : l.length < 100000000) (hcap : l.length ≤ cap) (hcm : cap ≤ maxLen) (hA : (l = [] ∧ cap = 0) ∨ ∃ g off, A = some ⟨g, off, none⟩) (J Jx : List Nat → World → Prop)
    (hY : ∀ pre x W, J pre W → pre.length < parts l.length → x < parts l.length → YieldAt Fence.wide (n - 1) Try.prog lp (pencs c s k (parts l.length) A cap l x) W fun e W' =>
      (e = .returned (.bool true) ∧ J (pre ++ [x]) W' ∧ Keep4 Bb Bt Bs Bk W W') ∨ (e = .returned (.bool false) ∧ Jx (pre ++ [x]) W'))
    (hJd : ∀ pre W, J pre W → J pre W.drew)
    (W : World) (hB : Box4 W Bb Bt Bs Bk A l.length cap c s k) (h0 : J [] W) :
    CallsIn Fence.wide n Try.prog 59 #[.func (.yield lp) #[] #[], .pointer (some ⟨Bb, 0, none⟩), .pointer (some ⟨Bt, 0, none⟩), .pointer (some ⟨Bs, 0, none⟩), .pointer (some ⟨Bk, 0, none⟩)] W fun e W' => (∃ v, e = .returned v) ∧
      ((∃ ys, ys = upto (parts l.length) ∧ J ys W') ∨ (∃ pre, (∃ q, q ≤ parts l.length ∧ pre = upto q) ∧ Jx pre W')) := by
  have HBX := Lib.hid hB
  have HL := Lib.hid hl
  have HCAP := Lib.hid (And.intro hcap hcm)
  obtain ⟨c1, c2, c3, c4⟩ := hB
  clear hl hcap hcm
  refine callsIn_of_wp Try.func59 rfl trivial ?_ rfl
  simp only [Try.ntmps59, List.size_toArray, List.length_cons, List.length_nil, Nat.reduceAdd, Nat.reduceSub, Array.replicate_succ, Array.replicate_zero, List.push_toArray, List.append_toArray, List.nil_append, List.cons_append]
  gi_wp2_with (refine ⟨trivial, ?_⟩; gi_at_call 36; refine (callsIn_wide.2 (count_at l.length (by have := HL.out; omega) _)).mono ?_; rintro e w' ⟨rfl, rfl⟩)
  obtain ⟨M, hM⟩ : ∃ M, M = parts l.length := ⟨_, rfl⟩
  have HM := Lib.hid hM
  rw [← hM]
  clear hM c1 c2 c3 c4
  gi_loopw [12] (fun i wr => ∃ q : Nat, q ≤ M ∧ i = .int .i64 (q : Int) ∧ J (upto q) wr ∧ Keep4 Bb Bt Bs Bk w' wr) (fun i _ => M - (intOf i).toNat)
  case atStart => exact ⟨0, Nat.zero_le _, rfl, h0, keep4_refl _⟩
  case round =>
    obtain ⟨i, hi, rfl, hJs, hnx⟩ := hrel
    by_cases hlt : i < M
    · have hd : decide ((i : Int) < (M : Int)) = true := by simp; omega
      have hd2 : decide (i < M) = true := by simpa using hlt
      obtain ⟨E, hE⟩ : ∃ E, E = min l.length ((i + 1) * 102) := ⟨_, rfl⟩
      have HMM : Hid (i < parts l.length) := by rw [← HM.out]; exact hlt
      have hmn : ∀ (w : World) (ts : Array TypeId) (t : TypeId), (Builtin.min_ ts t #[.int .i64 (l.length : Int), .int .i64 (((i : Int) + 1) * 102)]).run Try.prog w = .ok (.int .i64 (E : Int)) w := fun w ts t => by
        rw [run_min_int2]
        congr 2
        split <;> omega
      have HW1 : Hid (IntKind.i64.wrap ((i : Int) * 102) = (i : Int) * 102) := by show _ = _; have := HL.out; have := parts_in HMM.out; rw [IntKind.wrap_i64]; omega
      have HW2 : Hid (IntKind.i64.wrap ((i : Int) + 1) = (i : Int) + 1) := by show _ = _; have := HL.out; have := parts_in HMM.out; rw [IntKind.wrap_i64]; omega
      have HW3 : Hid (IntKind.i64.wrap (((i : Int) + 1) * 102) = ((i : Int) + 1) * 102) := by show _ = _; have := HL.out; have := parts_in HMM.out; rw [IntKind.wrap_i64]; omega
      have HWZ : Hid (wrap64 ((i : Int) + 1) = ((i + 1 : Nat) : Int)) := by show _ = _; have := HL.out; have := parts_le l.length; have := HMM.out; unfold wrap64; omega
      have HC : Hid (Box4 wr.drew Bb Bt Bs Bk A l.length cap c s k) := HBX.out.keep hnx
      have HJD := Lib.hid (hJd _ _ hJs)
      have HNX := Lib.hid hnx
      have HJS := Lib.hid hJs
      have HY := Lib.hid (hY (upto i) i wr.drew HJD.out (by rw [upto_length]; exact HMM.out) HMM.out)
      have i1 : (i : Int) * 102 ≤ (E : Int) := by have := parts_in HMM.out; omega
      have i2 : (E : Int) ≤ (cap : Int) := by have := HCAP.out.1; omega
      have i3 : (0 : Int) ≤ (i : Int) * 102 := by omega
      have HE := Lib.hid hE
      clear hnx hJs hE hY hJd
      gi_wp2
      have hA3 : (A = none ∧ l = [] ∧ cap = 0) ∨ (∃ x, A = some x ∧ l = [] ∧ cap = 0) ∨ ∃ g off, A = some ⟨g, off, none⟩ ∧ cap ≠ 0 := by
        by_cases h0 : cap = 0
        · have hn0 : l = [] := by
            rcases hA with h | _
            · exact h.1
            · have h1 := HCAP.out.1
              have h2 := HE.out
              exact List.eq_nil_of_length_eq_zero (by omega)
          cases A with
          | none => exact .inl ⟨rfl, hn0, h0⟩
          | some x => exact .inr (.inl ⟨x, rfl, hn0, h0⟩)
        · rcases hA with h | ⟨g, off, h⟩
          · exact absurd h.2 h0
          · exact .inr (.inr ⟨g, off, h, h0⟩)
      rcases hA3 with ⟨rfl, hnil, hcap0⟩ | ⟨x0, rfl, hnil, hcap0⟩ | ⟨g, off, rfl, hcapn⟩
      · have HNIL := Lib.hid hnil
        have HC0 := Lib.hid hcap0
        clear hnil hcap0
        have HSL : Hid (E - ((i : Int) * 102).toNat = 0 ∧ cap - ((i : Int) * 102).toNat = 0) := by have h1 := HE.out; have h0 : l.length = 0 := (by rw [HNIL.out]; rfl); have h2 := HC0.out; exact ⟨by omega, by omega⟩
        refine wpIn_region_until (z := 17) (S := fun w' => w'.cell? ⟨Bb, 0, none⟩ = some (Value.slice none l.length cap) ∧ w'.cell? ⟨Bt, 0, none⟩ = some (Value.int .u8 (c.toNat : Int)) ∧ w'.cell? ⟨Bs, 0, none⟩ = some (Value.int .i64 (s : Int)) ∧ w'.cell? ⟨Bk, 0, none⟩ = some (Value.int .i64 (k : Int))) (by kernel_rfl) ?hSn (fun hHeld hCl => ?_)
        case hSn => exact HC.out
        refine anyU_take (i := 0) (oi := ⟨_, _, _, _, _, _⟩) (v := ?vn0) hCl (waits_direct (by kernel_rfl)) rfl (by kernel_rfl) (by kernel_rfl) (by kernel_rfl) (fun _ _ _ h => h) (Or.inl ⟨by rfl, ?hyn0⟩) hHeld ?_
        case hyn0 => (intro wS hSw; (try dsimp only at hSw); go_simp; (first | done | with_reducible rfl))
        intro hCl2
        clear hCl
        have hCl := hCl2
        clear hCl2
        try simp only [Act.put, List.setIfInBounds_toArray, List.set_cons_zero, List.set_cons_succ]
        refine anyU_take (i := 1) (oi := ⟨_, _, _, _, _, _⟩) (v := ?vn1) hCl (waits_step 16 (waits_direct (by kernel_rfl)) (by kernel_rfl)) rfl (by kernel_rfl) (by kernel_rfl) (by kernel_rfl) (fun _ _ _ h => h) (Or.inl ⟨by rfl, ?hyn1⟩) hHeld ?_
        case hyn1 => (intro wS hSw; (try dsimp only at hSw); go_simp; (first | done | with_reducible rfl))
        intro hCl2
        clear hCl
        have hCl := hCl2
        clear hCl2
        try simp only [Act.put, List.setIfInBounds_toArray, List.set_cons_zero, List.set_cons_succ]
        refine anyU_take (i := 2) (oi := ⟨_, _, _, _, _, _⟩) (v := ?vn2) hCl (waits_step 16 (waits_direct (by kernel_rfl)) (by kernel_rfl)) rfl (by kernel_rfl) (by kernel_rfl) (by kernel_rfl) (fun _ _ _ h => h) (Or.inl ⟨by rfl, ?hyn2⟩) hHeld ?_
        case hyn2 => (intro wS hSw; (try dsimp only at hSw); go_simp; (first | done | with_reducible rfl))
        intro hCl2
        clear hCl
        have hCl := hCl2
        clear hCl2
        try simp only [Act.put, List.setIfInBounds_toArray, List.set_cons_zero, List.set_cons_succ]
        refine anyU_take (i := 3) (oi := ⟨_, _, _, _, _, _⟩) (v := ?vn3) hCl (waits_step 16 (waits_direct (by kernel_rfl)) (by kernel_rfl)) rfl (by kernel_rfl) (by kernel_rfl) (by kernel_rfl) (fun _ _ _ h => h) (Or.inl ⟨by rfl, ?hyn3⟩) hHeld ?_
        case hyn3 => (intro wS hSw; (try dsimp only at hSw); go_simp; (first | done | with_reducible rfl))
        intro hCl2
        clear hCl
        have hCl := hCl2
        clear hCl2
        try simp only [Act.put, List.setIfInBounds_toArray, List.set_cons_zero, List.set_cons_succ]
        refine anyU_take (i := 4) (oi := ⟨_, _, _, _, _, _⟩) (v := ?vn4) hCl (waits_step 16 (waits_direct (by kernel_rfl)) (by kernel_rfl)) rfl (by kernel_rfl) (by kernel_rfl) (by kernel_rfl) (fun _ _ _ h => h) (Or.inl ⟨by rfl, ?hyn4⟩) hHeld ?_
        case hyn4 => (intro wS hSw; (try dsimp only at hSw); go_simp; (first | done | with_reducible rfl))
        intro hCl2
        clear hCl
        have hCl := hCl2
        clear hCl2
        try simp only [Act.put, List.setIfInBounds_toArray, List.set_cons_zero, List.set_cons_succ]
        refine anyU_take (i := 5) (oi := ⟨_, _, _, _, _, _⟩) (v := ?vn5) hCl (waits_step 16 (waits_direct (by kernel_rfl)) (by kernel_rfl)) rfl (by kernel_rfl) (by kernel_rfl) (by kernel_rfl) (fun _ _ _ h => h) (Or.inl ⟨by rfl, ?hyn5⟩) hHeld ?_
        case hyn5 => (intro wS hSw; (try dsimp only at hSw); go_simp; (first | done | with_reducible rfl))
        intro hCl2
        clear hCl
        have hCl := hCl2
        clear hCl2
        try simp only [Act.put, List.setIfInBounds_toArray, List.set_cons_zero, List.set_cons_succ]
        refine anyU_take (i := 6) (oi := ⟨_, _, _, _, _, _⟩) (v := ?vn6) hCl (waits_step 15 (waits_step 16 (waits_direct (by kernel_rfl)) (by kernel_rfl)) (by kernel_rfl)) rfl (by kernel_rfl) (by kernel_rfl) (by kernel_rfl) (fun _ _ _ h => h) (Or.inl ⟨by rfl, ?hyn6⟩) hHeld ?_
        case hyn6 => (intro wS hSw; (try dsimp only at hSw); go_simp; (first | done | with_reducible rfl))
        intro hCl2
        clear hCl
        have hCl := hCl2
        clear hCl2
        try simp only [Act.put, List.setIfInBounds_toArray, List.set_cons_zero, List.set_cons_succ]
        refine anyU_take (i := 7) (oi := ⟨_, _, _, _, _, _⟩) (v := ?vn7) hCl (waits_step 8 (waits_step 15 (waits_step 16 (waits_direct (by kernel_rfl)) (by kernel_rfl)) (by kernel_rfl)) (by kernel_rfl)) rfl (by kernel_rfl) (by kernel_rfl) (by kernel_rfl) (fun _ _ _ h => h) (Or.inl ⟨by rfl, ?hyn7⟩) hHeld ?_
        case hyn7 => (intro wS hSw; (try dsimp only at hSw); go_simp; (first | done | with_reducible rfl))
        intro hCl2
        clear hCl
        have hCl := hCl2
        clear hCl2
        try simp only [Act.put, List.setIfInBounds_toArray, List.set_cons_zero, List.set_cons_succ]
        refine anyU_take (i := 8) (oi := ⟨_, _, _, _, _, _⟩) (v := Value.int .i64 ((i : Int) * 102)) hCl (waits_step 15 (waits_step 16 (waits_direct (by kernel_rfl)) (by kernel_rfl)) (by kernel_rfl)) rfl (by kernel_rfl) (by kernel_rfl) (by kernel_rfl) (fun _ _ _ h => h) (Or.inl ⟨by rfl, ?hyn8⟩) hHeld ?_
        case hyn8 => (intro wS hSw; (try dsimp only at hSw); go_simp; rw [HW1.out])
        intro hCl2
        clear hCl
        have hCl := hCl2
        clear hCl2
        try simp only [Act.put, List.setIfInBounds_toArray, List.set_cons_zero, List.set_cons_succ]
        refine anyU_take (i := 9) (oi := ⟨_, _, _, _, _, _⟩) (v := ?vn9) hCl (waits_step 10 (waits_step 14 (waits_step 15 (waits_step 16 (waits_direct (by kernel_rfl)) (by kernel_rfl)) (by kernel_rfl)) (by kernel_rfl)) (by kernel_rfl)) rfl (by kernel_rfl) (by kernel_rfl) (by kernel_rfl) (fun _ _ _ h => h) (Or.inl ⟨by rfl, ?hyn9⟩) hHeld ?_
        case hyn9 => (intro wS hSw; (try dsimp only at hSw); go_simp; (first | done | with_reducible rfl))
        intro hCl2
        clear hCl
        have hCl := hCl2
        clear hCl2
        try simp only [Act.put, List.setIfInBounds_toArray, List.set_cons_zero, List.set_cons_succ]
        refine anyU_take (i := 10) (oi := ⟨_, _, _, _, _, _⟩) (v := ?vn10) hCl (waits_step 14 (waits_step 15 (waits_step 16 (waits_direct (by kernel_rfl)) (by kernel_rfl)) (by kernel_rfl)) (by kernel_rfl)) rfl (by kernel_rfl) (by kernel_rfl) (by kernel_rfl) (fun _ _ _ h => h) (Or.inl ⟨by rfl, ?hyn10⟩) hHeld ?_
        case hyn10 => (intro wS hSw; (try dsimp only at hSw); go_simp; (first | done | with_reducible rfl))
        intro hCl2
        clear hCl
        have hCl := hCl2
        clear hCl2
        try simp only [Act.put, List.setIfInBounds_toArray, List.set_cons_zero, List.set_cons_succ]
        refine anyU_take (i := 11) (oi := ⟨_, _, _, _, _, _⟩) (v := ?vn11) hCl (waits_step 12 (waits_step 13 (waits_step 14 (waits_step 15 (waits_step 16 (waits_direct (by kernel_rfl)) (by kernel_rfl)) (by kernel_rfl)) (by kernel_rfl)) (by kernel_rfl)) (by kernel_rfl)) rfl (by kernel_rfl) (by kernel_rfl) (by kernel_rfl) (fun _ _ _ h => h) (Or.inl ⟨by rfl, ?hyn11⟩) hHeld ?_
        case hyn11 => (intro wS hSw; (try dsimp only at hSw); go_simp; (first | done | with_reducible rfl))
        intro hCl2
        clear hCl
        have hCl := hCl2
        clear hCl2
        try simp only [Act.put, List.setIfInBounds_toArray, List.set_cons_zero, List.set_cons_succ]
        refine anyU_take (i := 12) (oi := ⟨_, _, _, _, _, _⟩) (v := Value.int .i64 ((i : Int) + 1)) hCl (waits_step 13 (waits_step 14 (waits_step 15 (waits_step 16 (waits_direct (by kernel_rfl)) (by kernel_rfl)) (by kernel_rfl)) (by kernel_rfl)) (by kernel_rfl)) rfl (by kernel_rfl) (by kernel_rfl) (by kernel_rfl) (fun _ _ _ h => h) (Or.inl ⟨by rfl, ?hyn12⟩) hHeld ?_
        case hyn12 => (intro wS hSw; (try dsimp only at hSw); go_simp; rw [HW2.out])
        intro hCl2
        clear hCl
        have hCl := hCl2
        clear hCl2
        try simp only [Act.put, List.setIfInBounds_toArray, List.set_cons_zero, List.set_cons_succ]
        refine anyU_take (i := 13) (oi := ⟨_, _, _, _, _, _⟩) (v := Value.int .i64 (((i : Int) + 1) * 102)) hCl (waits_step 14 (waits_step 15 (waits_step 16 (waits_direct (by kernel_rfl)) (by kernel_rfl)) (by kernel_rfl)) (by kernel_rfl)) rfl (by kernel_rfl) (by kernel_rfl) (by kernel_rfl) (fun _ _ _ h => h) (Or.inl ⟨by rfl, ?hyn13⟩) hHeld ?_
        case hyn13 => (intro wS hSw; (try dsimp only at hSw); go_simp; rw [HW3.out])
        intro hCl2
        clear hCl
        have hCl := hCl2
        clear hCl2
        try simp only [Act.put, List.setIfInBounds_toArray, List.set_cons_zero, List.set_cons_succ]
        refine anyU_take (i := 14) (oi := ⟨_, _, _, _, _, _⟩) (v := ?vn14) hCl (waits_step 15 (waits_step 16 (waits_direct (by kernel_rfl)) (by kernel_rfl)) (by kernel_rfl)) rfl (by kernel_rfl) (by kernel_rfl) (by kernel_rfl) (fun _ _ _ h => h) (Or.inl ⟨by rfl, ?hyn14⟩) hHeld ?_
        case hyn14 => (intro wS hSw; (try dsimp only at hSw); go_simp; (first | done | with_reducible rfl))
        intro hCl2
        clear hCl
        have hCl := hCl2
        clear hCl2
        try simp only [Act.put, List.setIfInBounds_toArray, List.set_cons_zero, List.set_cons_succ]
        refine anyU_take (i := 15) (oi := ⟨_, _, _, _, _, _⟩) (v := Value.slice none 0 0) hCl (waits_step 16 (waits_direct (by kernel_rfl)) (by kernel_rfl)) rfl (by kernel_rfl) (by kernel_rfl) (by kernel_rfl) (fun _ _ _ h => h) (Or.inl ⟨by rfl, ?hyn15⟩) hHeld ?_
        case hyn15 => (intro wS hSw; (try dsimp only at hSw); go_simp; exact HSL.out)
        intro hCl2
        clear hCl
        have hCl := hCl2
        clear hCl2
        try simp only [Act.put, List.setIfInBounds_toArray, List.set_cons_zero, List.set_cons_succ]
        refine anyU_take (i := 16) (oi := ⟨_, _, _, _, _, _⟩) (v := ?vn16) hCl (waits_direct (by kernel_rfl)) rfl (by kernel_rfl) (by kernel_rfl) (by kernel_rfl) (fun _ _ _ h => h) (Or.inl ⟨by rfl, ?hyn16⟩) hHeld ?_
        case hyn16 => (intro wS hSw; (try dsimp only at hSw); go_simp; (first | done | with_reducible rfl))
        intro hCl2
        clear hCl
        have hCl := hCl2
        clear hCl2
        try simp only [Act.put, List.setIfInBounds_toArray, List.set_cons_zero, List.set_cons_succ]
        refine anyU_stop (by kernel_rfl) ?_
        refine wpAnyIn_ready (rs := [17]) (by kernel_rfl) (by simp) ?_
        refine AllReadyIn.cons (o := ⟨_, _, _, _, _, _⟩) rfl (fun K hK => ?_) AllReadyIn.nil
        have hy' := HY.out
        simp only [pencs, pslice] at hy'
        rw [← HM.out] at hy'
        obtain ⟨fn, tmps, assign, body, hy, hR⟩ := hy'
        have HR := Lib.hid hR
        clear hR
        have HK := Lib.hid hK
        clear hK hHeld hCl
        go_simp
        clear hy
        refine HR.out.mono ?_
        rintro e W3 (⟨rfl, hJ3, hk3⟩ | ⟨rfl, hJx3⟩)
        · refine HK.out _ _ ?_
          clear HK
          try simp only [Act.put, List.setIfInBounds_toArray, List.set_cons_zero, List.set_cons_succ]
          refine wpAnyIn_ready (rs := [18]) (by kernel_rfl) (by simp) ?_
          refine AllReadyIn.cons (o := ⟨_, _, _, _, _, _⟩) rfl (fun K hK => ?_) AllReadyIn.nil
          go_simp
          refine hK _ _ ?_
          clear hK K
          try simp only [Act.put, List.setIfInBounds_toArray, List.set_cons_zero, List.set_cons_succ]
          refine wpAnyIn_done (by kernel_rfl) ?_ _
          gi_wp2
          go_roundw
          case rel => exact ⟨i + 1, hlt, congrArg (Value.int .i64) HWZ.out, by rw [upto_succ]; exact hJ3, keep4_t HNX.out hk3⟩
          case measure => rw [HWZ.out]; show M - ((i + 1 : Nat) : Int).toNat < M - (i : Int).toNat; omega
        · refine HK.out _ _ ?_
          clear HK
          try simp only [Act.put, List.setIfInBounds_toArray, List.set_cons_zero, List.set_cons_succ]
          refine wpAnyIn_ready (rs := [18]) (by kernel_rfl) (by simp) ?_
          refine AllReadyIn.cons (o := ⟨_, _, _, _, _, _⟩) rfl (fun K hK => ?_) AllReadyIn.nil
          go_simp
          refine hK _ _ ?_
          clear hK K
          try simp only [Act.put, List.setIfInBounds_toArray, List.set_cons_zero, List.set_cons_succ]
          refine wpAnyIn_done (by kernel_rfl) ?_ _
          gi_wp2
          refine bodyPost_ret (results_none rfl _ _ _) rfl ?_
          exact ⟨⟨_, rfl⟩, .inr ⟨_, ⟨i + 1, HMM.out, by rw [upto_succ]⟩, hJx3⟩⟩
      · have HNIL := Lib.hid hnil
        have HC0 := Lib.hid hcap0
        clear hnil hcap0
        have HSL : Hid ((¬ cap = ((i : Int) * 102).toNat → x0.add ((i : Int) * 102).toNat = x0) ∧ E - ((i : Int) * 102).toNat = 0 ∧ cap - ((i : Int) * 102).toNat = 0) := by
          have h1 := HE.out
          have h0 : l.length = 0 := (by rw [HNIL.out]; rfl)
          have h2 := HC0.out
          have h4 : parts 0 = 1 := (by decide)
          have h5 := HMM.out
          rw [h0, h4] at h5
          have h3 : i = 0 := (by omega)
          refine ⟨fun h => absurd (by omega) h, by omega, by omega⟩
        refine wpIn_region_until (z := 17) (S := fun w' => w'.cell? ⟨Bb, 0, none⟩ = some (Value.slice (some x0) l.length cap) ∧ w'.cell? ⟨Bt, 0, none⟩ = some (Value.int .u8 (c.toNat : Int)) ∧ w'.cell? ⟨Bs, 0, none⟩ = some (Value.int .i64 (s : Int)) ∧ w'.cell? ⟨Bk, 0, none⟩ = some (Value.int .i64 (k : Int))) (by kernel_rfl) ?hSx (fun hHeld hCl => ?_)
        case hSx => exact HC.out
        refine anyU_take (i := 0) (oi := ⟨_, _, _, _, _, _⟩) (v := ?vx0) hCl (waits_direct (by kernel_rfl)) rfl (by kernel_rfl) (by kernel_rfl) (by kernel_rfl) (fun _ _ _ h => h) (Or.inl ⟨by rfl, ?hyx0⟩) hHeld ?_
        case hyx0 => (intro wS hSw; (try dsimp only at hSw); go_simp; (first | done | with_reducible rfl))
        intro hCl2
        clear hCl
        have hCl := hCl2
        clear hCl2
        try simp only [Act.put, List.setIfInBounds_toArray, List.set_cons_zero, List.set_cons_succ]
        refine anyU_take (i := 1) (oi := ⟨_, _, _, _, _, _⟩) (v := ?vx1) hCl (waits_step 16 (waits_direct (by kernel_rfl)) (by kernel_rfl)) rfl (by kernel_rfl) (by kernel_rfl) (by kernel_rfl) (fun _ _ _ h => h) (Or.inl ⟨by rfl, ?hyx1⟩) hHeld ?_
        case hyx1 => (intro wS hSw; (try dsimp only at hSw); go_simp; (first | done | with_reducible rfl))
        intro hCl2
        clear hCl
        have hCl := hCl2
        clear hCl2
        try simp only [Act.put, List.setIfInBounds_toArray, List.set_cons_zero, List.set_cons_succ]
        refine anyU_take (i := 2) (oi := ⟨_, _, _, _, _, _⟩) (v := ?vx2) hCl (waits_step 16 (waits_direct (by kernel_rfl)) (by kernel_rfl)) rfl (by kernel_rfl) (by kernel_rfl) (by kernel_rfl) (fun _ _ _ h => h) (Or.inl ⟨by rfl, ?hyx2⟩) hHeld ?_
        case hyx2 => (intro wS hSw; (try dsimp only at hSw); go_simp; (first | done | with_reducible rfl))
        intro hCl2
        clear hCl
        have hCl := hCl2
        clear hCl2
        try simp only [Act.put, List.setIfInBounds_toArray, List.set_cons_zero, List.set_cons_succ]
        refine anyU_take (i := 3) (oi := ⟨_, _, _, _, _, _⟩) (v := ?vx3) hCl (waits_step 16 (waits_direct (by kernel_rfl)) (by kernel_rfl)) rfl (by kernel_rfl) (by kernel_rfl) (by kernel_rfl) (fun _ _ _ h => h) (Or.inl ⟨by rfl, ?hyx3⟩) hHeld ?_
        case hyx3 => (intro wS hSw; (try dsimp only at hSw); go_simp; (first | done | with_reducible rfl))
        intro hCl2
        clear hCl
        have hCl := hCl2
        clear hCl2
        try simp only [Act.put, List.setIfInBounds_toArray, List.set_cons_zero, List.set_cons_succ]
        refine anyU_take (i := 4) (oi := ⟨_, _, _, _, _, _⟩) (v := ?vx4) hCl (waits_step 16 (waits_direct (by kernel_rfl)) (by kernel_rfl)) rfl (by kernel_rfl) (by kernel_rfl) (by kernel_rfl) (fun _ _ _ h => h) (Or.inl ⟨by rfl, ?hyx4⟩) hHeld ?_
        case hyx4 => (intro wS hSw; (try dsimp only at hSw); go_simp; (first | done | with_reducible rfl))
        intro hCl2
        clear hCl
        have hCl := hCl2
        clear hCl2
        try simp only [Act.put, List.setIfInBounds_toArray, List.set_cons_zero, List.set_cons_succ]
        refine anyU_take (i := 5) (oi := ⟨_, _, _, _, _, _⟩) (v := ?vx5) hCl (waits_step 16 (waits_direct (by kernel_rfl)) (by kernel_rfl)) rfl (by kernel_rfl) (by kernel_rfl) (by kernel_rfl) (fun _ _ _ h => h) (Or.inl ⟨by rfl, ?hyx5⟩) hHeld ?_
        case hyx5 => (intro wS hSw; (try dsimp only at hSw); go_simp; (first | done | with_reducible rfl))
        intro hCl2
        clear hCl
        have hCl := hCl2
        clear hCl2
        try simp only [Act.put, List.setIfInBounds_toArray, List.set_cons_zero, List.set_cons_succ]
        refine anyU_take (i := 6) (oi := ⟨_, _, _, _, _, _⟩) (v := ?vx6) hCl (waits_step 15 (waits_step 16 (waits_direct (by kernel_rfl)) (by kernel_rfl)) (by kernel_rfl)) rfl (by kernel_rfl) (by kernel_rfl) (by kernel_rfl) (fun _ _ _ h => h) (Or.inl ⟨by rfl, ?hyx6⟩) hHeld ?_
        case hyx6 => (intro wS hSw; (try dsimp only at hSw); go_simp; (first | done | with_reducible rfl))
        intro hCl2
        clear hCl
        have hCl := hCl2
        clear hCl2
        try simp only [Act.put, List.setIfInBounds_toArray, List.set_cons_zero, List.set_cons_succ]
        refine anyU_take (i := 7) (oi := ⟨_, _, _, _, _, _⟩) (v := ?vx7) hCl (waits_step 8 (waits_step 15 (waits_step 16 (waits_direct (by kernel_rfl)) (by kernel_rfl)) (by kernel_rfl)) (by kernel_rfl)) rfl (by kernel_rfl) (by kernel_rfl) (by kernel_rfl) (fun _ _ _ h => h) (Or.inl ⟨by rfl, ?hyx7⟩) hHeld ?_
        case hyx7 => (intro wS hSw; (try dsimp only at hSw); go_simp; (first | done | with_reducible rfl))
        intro hCl2
        clear hCl
        have hCl := hCl2
        clear hCl2
        try simp only [Act.put, List.setIfInBounds_toArray, List.set_cons_zero, List.set_cons_succ]
        refine anyU_take (i := 8) (oi := ⟨_, _, _, _, _, _⟩) (v := Value.int .i64 ((i : Int) * 102)) hCl (waits_step 15 (waits_step 16 (waits_direct (by kernel_rfl)) (by kernel_rfl)) (by kernel_rfl)) rfl (by kernel_rfl) (by kernel_rfl) (by kernel_rfl) (fun _ _ _ h => h) (Or.inl ⟨by rfl, ?hyx8⟩) hHeld ?_
        case hyx8 => (intro wS hSw; (try dsimp only at hSw); go_simp; rw [HW1.out])
        intro hCl2
        clear hCl
        have hCl := hCl2
        clear hCl2
        try simp only [Act.put, List.setIfInBounds_toArray, List.set_cons_zero, List.set_cons_succ]
        refine anyU_take (i := 9) (oi := ⟨_, _, _, _, _, _⟩) (v := ?vx9) hCl (waits_step 10 (waits_step 14 (waits_step 15 (waits_step 16 (waits_direct (by kernel_rfl)) (by kernel_rfl)) (by kernel_rfl)) (by kernel_rfl)) (by kernel_rfl)) rfl (by kernel_rfl) (by kernel_rfl) (by kernel_rfl) (fun _ _ _ h => h) (Or.inl ⟨by rfl, ?hyx9⟩) hHeld ?_
        case hyx9 => (intro wS hSw; (try dsimp only at hSw); go_simp; (first | done | with_reducible rfl))
        intro hCl2
        clear hCl
        have hCl := hCl2
        clear hCl2
        try simp only [Act.put, List.setIfInBounds_toArray, List.set_cons_zero, List.set_cons_succ]
        refine anyU_take (i := 10) (oi := ⟨_, _, _, _, _, _⟩) (v := ?vx10) hCl (waits_step 14 (waits_step 15 (waits_step 16 (waits_direct (by kernel_rfl)) (by kernel_rfl)) (by kernel_rfl)) (by kernel_rfl)) rfl (by kernel_rfl) (by kernel_rfl) (by kernel_rfl) (fun _ _ _ h => h) (Or.inl ⟨by rfl, ?hyx10⟩) hHeld ?_
        case hyx10 => (intro wS hSw; (try dsimp only at hSw); go_simp; (first | done | with_reducible rfl))
        intro hCl2
        clear hCl
        have hCl := hCl2
        clear hCl2
        try simp only [Act.put, List.setIfInBounds_toArray, List.set_cons_zero, List.set_cons_succ]
        refine anyU_take (i := 11) (oi := ⟨_, _, _, _, _, _⟩) (v := ?vx11) hCl (waits_step 12 (waits_step 13 (waits_step 14 (waits_step 15 (waits_step 16 (waits_direct (by kernel_rfl)) (by kernel_rfl)) (by kernel_rfl)) (by kernel_rfl)) (by kernel_rfl)) (by kernel_rfl)) rfl (by kernel_rfl) (by kernel_rfl) (by kernel_rfl) (fun _ _ _ h => h) (Or.inl ⟨by rfl, ?hyx11⟩) hHeld ?_
        case hyx11 => (intro wS hSw; (try dsimp only at hSw); go_simp; (first | done | with_reducible rfl))
        intro hCl2
        clear hCl
        have hCl := hCl2
        clear hCl2
        try simp only [Act.put, List.setIfInBounds_toArray, List.set_cons_zero, List.set_cons_succ]
        refine anyU_take (i := 12) (oi := ⟨_, _, _, _, _, _⟩) (v := Value.int .i64 ((i : Int) + 1)) hCl (waits_step 13 (waits_step 14 (waits_step 15 (waits_step 16 (waits_direct (by kernel_rfl)) (by kernel_rfl)) (by kernel_rfl)) (by kernel_rfl)) (by kernel_rfl)) rfl (by kernel_rfl) (by kernel_rfl) (by kernel_rfl) (fun _ _ _ h => h) (Or.inl ⟨by rfl, ?hyx12⟩) hHeld ?_
        case hyx12 => (intro wS hSw; (try dsimp only at hSw); go_simp; rw [HW2.out])
        intro hCl2
        clear hCl
        have hCl := hCl2
        clear hCl2
        try simp only [Act.put, List.setIfInBounds_toArray, List.set_cons_zero, List.set_cons_succ]
        refine anyU_take (i := 13) (oi := ⟨_, _, _, _, _, _⟩) (v := Value.int .i64 (((i : Int) + 1) * 102)) hCl (waits_step 14 (waits_step 15 (waits_step 16 (waits_direct (by kernel_rfl)) (by kernel_rfl)) (by kernel_rfl)) (by kernel_rfl)) rfl (by kernel_rfl) (by kernel_rfl) (by kernel_rfl) (fun _ _ _ h => h) (Or.inl ⟨by rfl, ?hyx13⟩) hHeld ?_
        case hyx13 => (intro wS hSw; (try dsimp only at hSw); go_simp; rw [HW3.out])
        intro hCl2
        clear hCl
        have hCl := hCl2
        clear hCl2
        try simp only [Act.put, List.setIfInBounds_toArray, List.set_cons_zero, List.set_cons_succ]
        refine anyU_take (i := 14) (oi := ⟨_, _, _, _, _, _⟩) (v := ?vx14) hCl (waits_step 15 (waits_step 16 (waits_direct (by kernel_rfl)) (by kernel_rfl)) (by kernel_rfl)) rfl (by kernel_rfl) (by kernel_rfl) (by kernel_rfl) (fun _ _ _ h => h) (Or.inl ⟨by rfl, ?hyx14⟩) hHeld ?_
        case hyx14 => (intro wS hSw; (try dsimp only at hSw); go_simp; (first | done | with_reducible rfl))
        intro hCl2
        clear hCl
        have hCl := hCl2
        clear hCl2
        try simp only [Act.put, List.setIfInBounds_toArray, List.set_cons_zero, List.set_cons_succ]
        refine anyU_take (i := 15) (oi := ⟨_, _, _, _, _, _⟩) (v := Value.slice (some x0) 0 0) hCl (waits_step 16 (waits_direct (by kernel_rfl)) (by kernel_rfl)) rfl (by kernel_rfl) (by kernel_rfl) (by kernel_rfl) (fun _ _ _ h => h) (Or.inl ⟨by rfl, ?hyx15⟩) hHeld ?_
        case hyx15 => (intro wS hSw; (try dsimp only at hSw); go_simp; exact HSL.out)
        intro hCl2
        clear hCl
        have hCl := hCl2
        clear hCl2
        try simp only [Act.put, List.setIfInBounds_toArray, List.set_cons_zero, List.set_cons_succ]
        refine anyU_take (i := 16) (oi := ⟨_, _, _, _, _, _⟩) (v := ?vx16) hCl (waits_direct (by kernel_rfl)) rfl (by kernel_rfl) (by kernel_rfl) (by kernel_rfl) (fun _ _ _ h => h) (Or.inl ⟨by rfl, ?hyx16⟩) hHeld ?_
        case hyx16 => (intro wS hSw; (try dsimp only at hSw); go_simp; (first | done | with_reducible rfl))
        intro hCl2
        clear hCl
        have hCl := hCl2
        clear hCl2
        try simp only [Act.put, List.setIfInBounds_toArray, List.set_cons_zero, List.set_cons_succ]
        refine anyU_stop (by kernel_rfl) ?_
        refine wpAnyIn_ready (rs := [17]) (by kernel_rfl) (by simp) ?_
        refine AllReadyIn.cons (o := ⟨_, _, _, _, _, _⟩) rfl (fun K hK => ?_) AllReadyIn.nil
        have hy' := HY.out
        simp only [pencs, pslice] at hy'
        rw [if_pos HC0.out] at hy'
        rw [← HM.out] at hy'
        obtain ⟨fn, tmps, assign, body, hy, hR⟩ := hy'
        have HR := Lib.hid hR
        clear hR
        have HK := Lib.hid hK
        clear hK hHeld hCl
        go_simp
        clear hy
        refine HR.out.mono ?_
        rintro e W3 (⟨rfl, hJ3, hk3⟩ | ⟨rfl, hJx3⟩)
        · refine HK.out _ _ ?_
          clear HK
          try simp only [Act.put, List.setIfInBounds_toArray, List.set_cons_zero, List.set_cons_succ]
          refine wpAnyIn_ready (rs := [18]) (by kernel_rfl) (by simp) ?_
          refine AllReadyIn.cons (o := ⟨_, _, _, _, _, _⟩) rfl (fun K hK => ?_) AllReadyIn.nil
          go_simp
          refine hK _ _ ?_
          clear hK K
          try simp only [Act.put, List.setIfInBounds_toArray, List.set_cons_zero, List.set_cons_succ]
          refine wpAnyIn_done (by kernel_rfl) ?_ _
          gi_wp2
          go_roundw
          case rel => exact ⟨i + 1, hlt, congrArg (Value.int .i64) HWZ.out, by rw [upto_succ]; exact hJ3, keep4_t HNX.out hk3⟩
          case measure => rw [HWZ.out]; show M - ((i + 1 : Nat) : Int).toNat < M - (i : Int).toNat; omega
        · refine HK.out _ _ ?_
          clear HK
          try simp only [Act.put, List.setIfInBounds_toArray, List.set_cons_zero, List.set_cons_succ]
          refine wpAnyIn_ready (rs := [18]) (by kernel_rfl) (by simp) ?_
          refine AllReadyIn.cons (o := ⟨_, _, _, _, _, _⟩) rfl (fun K hK => ?_) AllReadyIn.nil
          go_simp
          refine hK _ _ ?_
          clear hK K
          try simp only [Act.put, List.setIfInBounds_toArray, List.set_cons_zero, List.set_cons_succ]
          refine wpAnyIn_done (by kernel_rfl) ?_ _
          gi_wp2
          refine bodyPost_ret (results_none rfl _ _ _) rfl ?_
          exact ⟨⟨_, rfl⟩, .inr ⟨_, ⟨i + 1, HMM.out, by rw [upto_succ]⟩, hJx3⟩⟩
      · have HCN := Lib.hid hcapn
        clear hcapn
        have HSL : Hid ((if cap = ((i : Int) * 102).toNat then some (⟨g, off, none⟩ : Addr) else some ⟨g, off + ((i : Int) * 102).toNat, none⟩) = some ⟨g, off + i * 102, none⟩ ∧ E - ((i : Int) * 102).toNat = (chunk l i).length ∧ cap - ((i : Int) * 102).toNat = cap - i * 102) := by
          show _ ∧ _
          have e1 : ((i : Int) * 102).toNat = i * 102 := by omega
          rw [e1, chunk_length, ← HE.out]
          refine ⟨?_, rfl, rfl⟩
          by_cases hc : cap = i * 102
          · have h1 := HMM.out
            have h2 := HCAP.out.1
            have h3 : i = 0 := by unfold parts at h1; omega
            rw [if_pos hc, h3]
            rfl
          · rw [if_neg hc]
        refine wpIn_region_until (z := 17) (S := fun w' => w'.cell? ⟨Bb, 0, none⟩ = some (Value.slice (some ⟨g, off, none⟩) l.length cap) ∧ w'.cell? ⟨Bt, 0, none⟩ = some (Value.int .u8 (c.toNat : Int)) ∧ w'.cell? ⟨Bs, 0, none⟩ = some (Value.int .i64 (s : Int)) ∧ w'.cell? ⟨Bk, 0, none⟩ = some (Value.int .i64 (k : Int))) (by kernel_rfl) ?hSs (fun hHeld hCl => ?_)
        case hSs => exact HC.out
        refine anyU_take (i := 0) (oi := ⟨_, _, _, _, _, _⟩) (v := ?vs0) hCl (waits_direct (by kernel_rfl)) rfl (by kernel_rfl) (by kernel_rfl) (by kernel_rfl) (fun _ _ _ h => h) (Or.inl ⟨by rfl, ?hys0⟩) hHeld ?_
        case hys0 => (intro wS hSw; (try dsimp only at hSw); go_simp; (first | done | with_reducible rfl))
        intro hCl2
        clear hCl
        have hCl := hCl2
        clear hCl2
        try simp only [Act.put, List.setIfInBounds_toArray, List.set_cons_zero, List.set_cons_succ]
        refine anyU_take (i := 1) (oi := ⟨_, _, _, _, _, _⟩) (v := ?vs1) hCl (waits_step 16 (waits_direct (by kernel_rfl)) (by kernel_rfl)) rfl (by kernel_rfl) (by kernel_rfl) (by kernel_rfl) (fun _ _ _ h => h) (Or.inl ⟨by rfl, ?hys1⟩) hHeld ?_
        case hys1 => (intro wS hSw; (try dsimp only at hSw); go_simp; (first | done | with_reducible rfl))
        intro hCl2
        clear hCl
        have hCl := hCl2
        clear hCl2
        try simp only [Act.put, List.setIfInBounds_toArray, List.set_cons_zero, List.set_cons_succ]
        refine anyU_take (i := 2) (oi := ⟨_, _, _, _, _, _⟩) (v := ?vs2) hCl (waits_step 16 (waits_direct (by kernel_rfl)) (by kernel_rfl)) rfl (by kernel_rfl) (by kernel_rfl) (by kernel_rfl) (fun _ _ _ h => h) (Or.inl ⟨by rfl, ?hys2⟩) hHeld ?_
        case hys2 => (intro wS hSw; (try dsimp only at hSw); go_simp; (first | done | with_reducible rfl))
        intro hCl2
        clear hCl
        have hCl := hCl2
        clear hCl2
        try simp only [Act.put, List.setIfInBounds_toArray, List.set_cons_zero, List.set_cons_succ]
        refine anyU_take (i := 3) (oi := ⟨_, _, _, _, _, _⟩) (v := ?vs3) hCl (waits_step 16 (waits_direct (by kernel_rfl)) (by kernel_rfl)) rfl (by kernel_rfl) (by kernel_rfl) (by kernel_rfl) (fun _ _ _ h => h) (Or.inl ⟨by rfl, ?hys3⟩) hHeld ?_
        case hys3 => (intro wS hSw; (try dsimp only at hSw); go_simp; (first | done | with_reducible rfl))
        intro hCl2
        clear hCl
        have hCl := hCl2
        clear hCl2
        try simp only [Act.put, List.setIfInBounds_toArray, List.set_cons_zero, List.set_cons_succ]
        refine anyU_take (i := 4) (oi := ⟨_, _, _, _, _, _⟩) (v := ?vs4) hCl (waits_step 16 (waits_direct (by kernel_rfl)) (by kernel_rfl)) rfl (by kernel_rfl) (by kernel_rfl) (by kernel_rfl) (fun _ _ _ h => h) (Or.inl ⟨by rfl, ?hys4⟩) hHeld ?_
        case hys4 => (intro wS hSw; (try dsimp only at hSw); go_simp; (first | done | with_reducible rfl))
        intro hCl2
        clear hCl
        have hCl := hCl2
        clear hCl2
        try simp only [Act.put, List.setIfInBounds_toArray, List.set_cons_zero, List.set_cons_succ]
        refine anyU_take (i := 5) (oi := ⟨_, _, _, _, _, _⟩) (v := ?vs5) hCl (waits_step 16 (waits_direct (by kernel_rfl)) (by kernel_rfl)) rfl (by kernel_rfl) (by kernel_rfl) (by kernel_rfl) (fun _ _ _ h => h) (Or.inl ⟨by rfl, ?hys5⟩) hHeld ?_
        case hys5 => (intro wS hSw; (try dsimp only at hSw); go_simp; (first | done | with_reducible rfl))
        intro hCl2
        clear hCl
        have hCl := hCl2
        clear hCl2
        try simp only [Act.put, List.setIfInBounds_toArray, List.set_cons_zero, List.set_cons_succ]
        refine anyU_take (i := 6) (oi := ⟨_, _, _, _, _, _⟩) (v := ?vs6) hCl (waits_step 15 (waits_step 16 (waits_direct (by kernel_rfl)) (by kernel_rfl)) (by kernel_rfl)) rfl (by kernel_rfl) (by kernel_rfl) (by kernel_rfl) (fun _ _ _ h => h) (Or.inl ⟨by rfl, ?hys6⟩) hHeld ?_
        case hys6 => (intro wS hSw; (try dsimp only at hSw); go_simp; (first | done | with_reducible rfl))
        intro hCl2
        clear hCl
        have hCl := hCl2
        clear hCl2
        try simp only [Act.put, List.setIfInBounds_toArray, List.set_cons_zero, List.set_cons_succ]
        refine anyU_take (i := 7) (oi := ⟨_, _, _, _, _, _⟩) (v := ?vs7) hCl (waits_step 8 (waits_step 15 (waits_step 16 (waits_direct (by kernel_rfl)) (by kernel_rfl)) (by kernel_rfl)) (by kernel_rfl)) rfl (by kernel_rfl) (by kernel_rfl) (by kernel_rfl) (fun _ _ _ h => h) (Or.inl ⟨by rfl, ?hys7⟩) hHeld ?_
        case hys7 => (intro wS hSw; (try dsimp only at hSw); go_simp; (first | done | with_reducible rfl))
        intro hCl2
        clear hCl
        have hCl := hCl2
        clear hCl2
        try simp only [Act.put, List.setIfInBounds_toArray, List.set_cons_zero, List.set_cons_succ]
        refine anyU_take (i := 8) (oi := ⟨_, _, _, _, _, _⟩) (v := Value.int .i64 ((i : Int) * 102)) hCl (waits_step 15 (waits_step 16 (waits_direct (by kernel_rfl)) (by kernel_rfl)) (by kernel_rfl)) rfl (by kernel_rfl) (by kernel_rfl) (by kernel_rfl) (fun _ _ _ h => h) (Or.inl ⟨by rfl, ?hys8⟩) hHeld ?_
        case hys8 => (intro wS hSw; (try dsimp only at hSw); go_simp; rw [HW1.out])
        intro hCl2
        clear hCl
        have hCl := hCl2
        clear hCl2
        try simp only [Act.put, List.setIfInBounds_toArray, List.set_cons_zero, List.set_cons_succ]
        refine anyU_take (i := 9) (oi := ⟨_, _, _, _, _, _⟩) (v := ?vs9) hCl (waits_step 10 (waits_step 14 (waits_step 15 (waits_step 16 (waits_direct (by kernel_rfl)) (by kernel_rfl)) (by kernel_rfl)) (by kernel_rfl)) (by kernel_rfl)) rfl (by kernel_rfl) (by kernel_rfl) (by kernel_rfl) (fun _ _ _ h => h) (Or.inl ⟨by rfl, ?hys9⟩) hHeld ?_
        case hys9 => (intro wS hSw; (try dsimp only at hSw); go_simp; (first | done | with_reducible rfl))
        intro hCl2
        clear hCl
        have hCl := hCl2
        clear hCl2
        try simp only [Act.put, List.setIfInBounds_toArray, List.set_cons_zero, List.set_cons_succ]
        refine anyU_take (i := 10) (oi := ⟨_, _, _, _, _, _⟩) (v := ?vs10) hCl (waits_step 14 (waits_step 15 (waits_step 16 (waits_direct (by kernel_rfl)) (by kernel_rfl)) (by kernel_rfl)) (by kernel_rfl)) rfl (by kernel_rfl) (by kernel_rfl) (by kernel_rfl) (fun _ _ _ h => h) (Or.inl ⟨by rfl, ?hys10⟩) hHeld ?_
        case hys10 => (intro wS hSw; (try dsimp only at hSw); go_simp; (first | done | with_reducible rfl))
        intro hCl2
        clear hCl
        have hCl := hCl2
        clear hCl2
        try simp only [Act.put, List.setIfInBounds_toArray, List.set_cons_zero, List.set_cons_succ]
        refine anyU_take (i := 11) (oi := ⟨_, _, _, _, _, _⟩) (v := ?vs11) hCl (waits_step 12 (waits_step 13 (waits_step 14 (waits_step 15 (waits_step 16 (waits_direct (by kernel_rfl)) (by kernel_rfl)) (by kernel_rfl)) (by kernel_rfl)) (by kernel_rfl)) (by kernel_rfl)) rfl (by kernel_rfl) (by kernel_rfl) (by kernel_rfl) (fun _ _ _ h => h) (Or.inl ⟨by rfl, ?hys11⟩) hHeld ?_
        case hys11 => (intro wS hSw; (try dsimp only at hSw); go_simp; (first | done | with_reducible rfl))
        intro hCl2
        clear hCl
        have hCl := hCl2
        clear hCl2
        try simp only [Act.put, List.setIfInBounds_toArray, List.set_cons_zero, List.set_cons_succ]
        refine anyU_take (i := 12) (oi := ⟨_, _, _, _, _, _⟩) (v := Value.int .i64 ((i : Int) + 1)) hCl (waits_step 13 (waits_step 14 (waits_step 15 (waits_step 16 (waits_direct (by kernel_rfl)) (by kernel_rfl)) (by kernel_rfl)) (by kernel_rfl)) (by kernel_rfl)) rfl (by kernel_rfl) (by kernel_rfl) (by kernel_rfl) (fun _ _ _ h => h) (Or.inl ⟨by rfl, ?hys12⟩) hHeld ?_
        case hys12 => (intro wS hSw; (try dsimp only at hSw); go_simp; rw [HW2.out])
        intro hCl2
        clear hCl
        have hCl := hCl2
        clear hCl2
        try simp only [Act.put, List.setIfInBounds_toArray, List.set_cons_zero, List.set_cons_succ]
        refine anyU_take (i := 13) (oi := ⟨_, _, _, _, _, _⟩) (v := Value.int .i64 (((i : Int) + 1) * 102)) hCl (waits_step 14 (waits_step 15 (waits_step 16 (waits_direct (by kernel_rfl)) (by kernel_rfl)) (by kernel_rfl)) (by kernel_rfl)) rfl (by kernel_rfl) (by kernel_rfl) (by kernel_rfl) (fun _ _ _ h => h) (Or.inl ⟨by rfl, ?hys13⟩) hHeld ?_
        case hys13 => (intro wS hSw; (try dsimp only at hSw); go_simp; rw [HW3.out])
        intro hCl2
        clear hCl
        have hCl := hCl2
        clear hCl2
        try simp only [Act.put, List.setIfInBounds_toArray, List.set_cons_zero, List.set_cons_succ]
        refine anyU_take (i := 14) (oi := ⟨_, _, _, _, _, _⟩) (v := ?vs14) hCl (waits_step 15 (waits_step 16 (waits_direct (by kernel_rfl)) (by kernel_rfl)) (by kernel_rfl)) rfl (by kernel_rfl) (by kernel_rfl) (by kernel_rfl) (fun _ _ _ h => h) (Or.inl ⟨by rfl, ?hys14⟩) hHeld ?_
        case hys14 => (intro wS hSw; (try dsimp only at hSw); go_simp; (first | done | with_reducible rfl))
        intro hCl2
        clear hCl
        have hCl := hCl2
        clear hCl2
        try simp only [Act.put, List.setIfInBounds_toArray, List.set_cons_zero, List.set_cons_succ]
        refine anyU_take (i := 15) (oi := ⟨_, _, _, _, _, _⟩) (v := Value.slice (some ⟨g, off + i * 102, none⟩) (chunk l i).length (cap - i * 102)) hCl (waits_step 16 (waits_direct (by kernel_rfl)) (by kernel_rfl)) rfl (by kernel_rfl) (by kernel_rfl) (by kernel_rfl) (fun _ _ _ h => h) (Or.inl ⟨by rfl, ?hys15⟩) hHeld ?_
        case hys15 => (intro wS hSw; (try dsimp only at hSw); go_simp; exact HSL.out)
        intro hCl2
        clear hCl
        have hCl := hCl2
        clear hCl2
        try simp only [Act.put, List.setIfInBounds_toArray, List.set_cons_zero, List.set_cons_succ]
        refine anyU_take (i := 16) (oi := ⟨_, _, _, _, _, _⟩) (v := ?vs16) hCl (waits_direct (by kernel_rfl)) rfl (by kernel_rfl) (by kernel_rfl) (by kernel_rfl) (fun _ _ _ h => h) (Or.inl ⟨by rfl, ?hys16⟩) hHeld ?_
        case hys16 => (intro wS hSw; (try dsimp only at hSw); go_simp; (first | done | with_reducible rfl))
        intro hCl2
        clear hCl
        have hCl := hCl2
        clear hCl2
        try simp only [Act.put, List.setIfInBounds_toArray, List.set_cons_zero, List.set_cons_succ]
        refine anyU_stop (by kernel_rfl) ?_
        refine wpAnyIn_ready (rs := [17]) (by kernel_rfl) (by simp) ?_
        refine AllReadyIn.cons (o := ⟨_, _, _, _, _, _⟩) rfl (fun K hK => ?_) AllReadyIn.nil
        have hy' := HY.out
        simp only [pencs, pslice] at hy'
        rw [if_neg HCN.out] at hy'
        rw [← HM.out] at hy'
        obtain ⟨fn, tmps, assign, body, hy, hR⟩ := hy'
        have HR := Lib.hid hR
        clear hR
        have HK := Lib.hid hK
        clear hK hHeld hCl
        go_simp
        clear hy
        refine HR.out.mono ?_
        rintro e W3 (⟨rfl, hJ3, hk3⟩ | ⟨rfl, hJx3⟩)
        · refine HK.out _ _ ?_
          clear HK
          try simp only [Act.put, List.setIfInBounds_toArray, List.set_cons_zero, List.set_cons_succ]
          refine wpAnyIn_ready (rs := [18]) (by kernel_rfl) (by simp) ?_
          refine AllReadyIn.cons (o := ⟨_, _, _, _, _, _⟩) rfl (fun K hK => ?_) AllReadyIn.nil
          go_simp
          refine hK _ _ ?_
          clear hK K
          try simp only [Act.put, List.setIfInBounds_toArray, List.set_cons_zero, List.set_cons_succ]
          refine wpAnyIn_done (by kernel_rfl) ?_ _
          gi_wp2
          go_roundw
          case rel => exact ⟨i + 1, hlt, congrArg (Value.int .i64) HWZ.out, by rw [upto_succ]; exact hJ3, keep4_t HNX.out hk3⟩
          case measure => rw [HWZ.out]; show M - ((i + 1 : Nat) : Int).toNat < M - (i : Int).toNat; omega
        · refine HK.out _ _ ?_
          clear HK
          try simp only [Act.put, List.setIfInBounds_toArray, List.set_cons_zero, List.set_cons_succ]
          refine wpAnyIn_ready (rs := [18]) (by kernel_rfl) (by simp) ?_
          refine AllReadyIn.cons (o := ⟨_, _, _, _, _, _⟩) rfl (fun K hK => ?_) AllReadyIn.nil
          go_simp
          refine hK _ _ ?_
          clear hK K
          try simp only [Act.put, List.setIfInBounds_toArray, List.set_cons_zero, List.set_cons_succ]
          refine wpAnyIn_done (by kernel_rfl) ?_ _
          gi_wp2
          refine bodyPost_ret (results_none rfl _ _ _) rfl ?_
          exact ⟨⟨_, rfl⟩, .inr ⟨_, ⟨i + 1, HMM.out, by rw [upto_succ]⟩, hJx3⟩⟩
    · have hd : decide ((i : Int) < (M : Int)) = false := by simp; omega
      have hd2 : decide (i < M) = false := by simpa using hlt
      obtain rfl : i = M := by omega
      gi_wp2
      go_end0
      exact ⟨⟨_, rfl⟩, .inl ⟨_, rfl, HM.out ▸ hJs⟩⟩

set_option maxHeartbeats 1000000 in
theorem parts_call (n : Nat) (c : UInt8) (s k : Nat) (A : Option Addr) (len cap : Nat) (w : World) :
    CallsIn Fence.wide n Try.prog 45 #[.int .u8 (c.toNat : Int), .int .i64 (s : Int), .int .i64 (k : Int), .slice A len cap] w fun e w' => e = .returned (.func (.func 59) #[] #[.pointer (some ⟨w.heap.size + 3, 0, none⟩), .pointer (some ⟨w.heap.size, 0, none⟩), .pointer (some ⟨w.heap.size + 1, 0, none⟩), .pointer (some ⟨w.heap.size + 2, 0, none⟩)]) ∧ w' = (((w.alloc (.cells #[.int .u8 (c.toNat : Int)] 5)).alloc (.cells #[.int .i64 (s : Int)] 2)).alloc (.cells #[.int .i64 (k : Int)] 2)).alloc (.cells #[.slice A len cap] 23) := by
  refine callsIn_of_wp Try.func45 rfl trivial ?_ rfl
  simp only [Try.ntmps45, List.size_toArray, List.length_cons, List.length_nil, Nat.reduceAdd, Nat.reduceSub, Array.replicate_succ, Array.replicate_zero, List.push_toArray, List.append_toArray, List.nil_append, List.cons_append]
  gi_wp2
  go_ret
  exact ⟨rfl, rfl⟩

/-- An index of a part. -/
abbrev Ix (n : Nat) := { i : Nat // i < parts n }
theorem parts_stops (n : Nat) (hn : 1 ≤ n) (Bb Bt Bs Bk : Nat) (A : Option Addr) (l : List UInt8) (cap : Nat) (c : UInt8) (s k : Nat) (hl : l.length < 100000000) (hcap : l.length ≤ cap) (hcm : cap ≤ maxLen) (hA : (l = [] ∧ cap = 0) ∨ ∃ g off, A = some ⟨g, off, none⟩) (w : World)
    (hlt : Bb < w.heap.size ∧ Bt < w.heap.size ∧ Bs < w.heap.size ∧ Bk < w.heap.size) (hB : Box4 w Bb Bt Bs Bk A l.length cap c s k) :
    SeqStopsK (α := Ix l.length) Fence.wide n Try.prog 59 #[.pointer (some ⟨Bb, 0, none⟩), .pointer (some ⟨Bt, 0, none⟩), .pointer (some ⟨Bs, 0, none⟩), .pointer (some ⟨Bk, 0, none⟩)] (fun x => pencs c s k (parts l.length) A cap l x.1) (Keep4 Bb Bt Bs Bk) (fun ys => ys.map (·.1) = upto (parts l.length)) (fun _ => True) (parts l.length) w := fun lp J Jx W hW hJ hJx hY h0 => by
  have hB' : Box4 W Bb Bt Bs Bk A l.length cap c s k := hB.keep ⟨hW.block _ hlt.1, hW.block _ hlt.2.1, hW.block _ hlt.2.2.1, hW.block _ hlt.2.2.2⟩
  refine CallsIn.mono (parts1_in n hn lp Bb Bt Bs Bk A l cap c s k hl hcap hcm hA (fun pre W => ∃ ps : List (Ix l.length), ps.map (·.1) = pre ∧ J ps W) (fun pre W => ∃ ps : List (Ix l.length), ps.map (·.1) = pre ∧ Jx ps W) ?_ ?_ W hB' ⟨[], rfl, h0⟩) ?_
  · rintro pre x W1 ⟨ps, e, hj⟩ hlen hx
    obtain ⟨fn, tmps, assign, body, hy, hR⟩ := hY ps ⟨x, hx⟩ W1 hj (by rw [← e, List.length_map] at hlen; exact hlen)
    refine ⟨fn, tmps, assign, body, hy, RoundIn.mono hR fun e2 W' h => ?_⟩
    rcases h with ⟨h1, h2, h3⟩ | ⟨h1, h2⟩
    · exact .inl ⟨h1, ⟨ps ++ [⟨x, hx⟩], by rw [List.map_append, e]; rfl, h2⟩, h3⟩
    · exact .inr ⟨h1, ps ++ [⟨x, hx⟩], by rw [List.map_append, e]; rfl, h2⟩
  · rintro pre W1 ⟨ps, e, hj⟩
    exact ⟨ps, e, hJ ps W1 W1.drew none hj ⟨rfl, rfl, rfl, Nat.le_refl _, fun _ _ _ => rfl⟩ (by simp)⟩
  · rintro e W' ⟨hv, ⟨ys, rfl, ps, e1, hj⟩ | ⟨pre, _, ps, e1, hj⟩⟩
    · exact ⟨hv, .inl ⟨ps, e1, hj⟩⟩
    · exact ⟨hv, .inr ⟨ps, trivial, hj⟩⟩
end Go.Proofs.Ytgdedgfohjplmaa.Jnl
