/- A part of the proof of JournalKnown: JnlWhole JnlTell JnlClone JnlLoad JnlCount JnlExist JnlLoadNo. -/
import Derived.Test.YtgdedgfohjplmaaGreatK00
import Derived.Test.YtgdedgfohjplmaaGreatK04
import Derived.OwnWalk
import Derived.Maps.AppendAt
import Derived.Lib.SliceRun
import Derived.Shelf.Bytes.SlCountOne
set_option maxRecDepth 100000
set_option maxHeartbeats 40000000
namespace Go.Proofs.YtgdedgfohjplmaaGreat.Jnl
open Go.RowKit Go.Maps Sec
structure IsPart (b : List UInt8) (c : UInt8) (s k i n : Nat) (l : List UInt8) : Prop where
 eq : b = partB c s k i n l
 tag : c = 67 ∨ c = 82
 s63 : s < 9223372036854775808
 k63 : k < 9223372036854775808
 lt : i < n
 n16 : n < 65536
 len : l.length ≤ 102
 full : l.length = 102 ∨ i + 1 = n
def NoPart (b : List UInt8) : Prop := ∃ c : UInt8, b[0]? = some c ∧ c.toNat ≠ 67 ∧ c.toNat ≠ 82
theorem partOf_part {gb : Nat} {c : UInt8} {s k i n : Nat} {l b : List UInt8} (hp : IsPart b c s k i n l) (w : World) (hr : w.rangeAt gb 0 (u8s b)) (hgl : gb < w.heap.size) :
  Calls Tryz.prog 87 #[.slice (some ⟨gb, 0, none⟩) 128 128] w fun e w' => e = .returned (.tuple #[.agg #[.int .u8 (c.toNat : Int), .int .i64 (s : Int), .int .i64 (k : Int), .int .i64 (i : Int), .int .i64 (n : Int), .slice (some ⟨gb, 22, none⟩) l.length 106], .bool true]) ∧ Below w.heap.size w w' := by
 obtain ⟨rfl, tag, h1, h2, h3, h4, h5, h6⟩ := hp
 rcases tag with rfl | rfl
 ·exact partOf_C gb 128 s k i n l h1 h2 h3 h4 h5 h6 w hr hgl (by decide) (by decide)
 ·exact partOf_R gb 128 s k i n l h1 h2 h3 h4 h5 h6 w hr hgl (by decide) (by decide)
def Run (now : Nat → List UInt8) (at0 : Nat) (c : UInt8) (s k M : Nat) (f : Nat → List UInt8) (q : Nat) : Prop := ∀ i, i < q → IsPart (now (at0 + i)) c s k i M (f i)
def Ends (b : List UInt8) (c : UInt8) (s k M q : Nat) : Prop := NoPart b ∨ ∃ c' s' k' i' n' l', IsPart b c' s' k' i' n' l' ∧ (c' ≠ c ∨ k' ≠ k ∨ i' ≠ q ∨ (0 < q ∧ (s' ≠ s ∨ n' ≠ M)))
def joined (f : Nat → List UInt8) (t : Nat) : List UInt8 := (List.range t).flatMap f
theorem joined_succ (f : Nat → List UInt8) (t : Nat) : joined f (t + 1) = joined f t ++ f t := by simp [joined, List.range_succ]
section
variable {ops : Array Oper} {o : Oper} {a : Act} {w : World} {K : Act → World → Prop} {Q : Exit → Act → World → Prop} {E : Prop}
theorem step_append_row (hg : o.guard = none) (s x : Operand) (hop : o.op = Op.call { callee := Callee.builtin Builtin.append, args := #[s, x], argTypes := #[28, 28] })
  (B : Nat) (v : Value) (l m : List UInt8) (A : Option Addr) (n cap : Nat) (hn : m.length = n) (hs : a.eval s = v) (hown : BRow w B v l) (hx : a.eval x = .slice A n cap)
  (hc : (m = [] ∧ cap = 0) ∨ ∃ g off, A = some ⟨g, off, none⟩ ∧ w.rangeAt g off (u8s m)) (hb : l.length + n < 100000000000) (hB : B ≤ w.heap.size)
  (hK : ∀ v' w', BRow w' B v' (l ++ m) → w.grownBy w' v.ownBlock → K (a.put o.dst v') w') :
  if Region.wanted o (yielded ops a.tmps) = true then Oper.wp Tryz.prog o a w K Q else E := by
 have hw : Region.wanted o (yielded ops a.tmps) = true := by simp [Region.wanted, hg]
 rw [if_pos hw]
 obtain ⟨i0, hi0, he⟩ := Option.map_eq_some_iff.1 info_byte
 simp only [Prod.mk.injEq] at he
 subst hn
 have hx0 : (A = none ∧ m = [] ∧ cap = 0) ∨ ∃ x, A = some x ∧ ∀ j u, (u8s m)[j]? = some u → w.cell? (x.add j) = some u := by
  rcases hc with ⟨h1, h2⟩ | ⟨g, off, h1, hr⟩
  ·cases A with
   | none => exact .inl ⟨rfl, h1, h2⟩
   | some x => exact .inr ⟨x, rfl, fun j u hj => by rw [h1] at hj; simp [u8s] at hj⟩
  ·exact .inr ⟨_, h1, fun j u hj => by have := hr j u hj; rw [Addr.add_lit]; exact this⟩
 rcases hx0 with ⟨rfl, rfl, rfl⟩ | ⟨x0, rfl, hr⟩
 ·have hrun := run_append_owned_none (P := Tryz.prog) w B 28 o.type 5 i0 1 Tryz.underlying28 hi0 v l.length _ hown
  unfold Oper.wp
  simp [execOp, hop, resolve, invoke, builtin, hs, hx]
  simp only [hrun, Result.andThen]
  exact hK v w (by rw [List.append_nil]; exact hown) ⟨rfl, rfl, rfl, Nat.le_refl _, fun _ _ _ => rfl⟩
 ·obtain ⟨v', w', hrun, hown', hgr, _⟩ := run_append_own (P := Tryz.prog) w B 28 o.type 5 i0 _ 1 1 Tryz.underlying28 hi0 he.1 he.2.1 he.2.2 rfl (by decide) v l.length _ hown x0 m.length cap (u8s m) (by rw [u8s_length, Nat.mul_one]) hr (u8s_one m) (by unfold maxLen; omega) (by omega) hB
  unfold Oper.wp
  simp [execOp, hop, resolve, invoke, builtin, hs, hx, hrun, Result.andThen]
  refine hK v' w' ?_ hgr
  unfold BRow
  rw [List.length_append, u8s_app]
  exact hown'
end
theorem ne_part {w : World} {B pb : Nat} {v : Value} {l : List UInt8} {C : Array Value} (h : BRow w B v l) (hp : w.heap[pb]? = some (.cells C 93)) : some pb ≠ v.ownBlock := by
 intro e
 obtain ⟨_, ⟨rfl, _⟩ | ⟨g, cap, cur, rfl, hB, hb, _⟩⟩ := h
 ·simp [Value.ownBlock] at e
 ·simp [Value.ownBlock] at e
  rw [e, hb] at hp
  injection hp with hp
  injection hp with _ hp
  exact absurd hp (by decide)
theorem joined_le (f : Nat → List UInt8) (t : Nat) (h : ∀ i, i < t → (f i).length ≤ 102) : (joined f t).length ≤ 102 * t := by
 induction t with
 | zero => simp [joined]
 | succ t ih =>
  rw [joined_succ, List.length_append]
  have h1 := ih (fun i hi => h i (by omega))
  have h2 := h t (by omega)
  omega
theorem BRow.later {w w' : World} {B : Nat} {v : Value} {l : List UInt8} (h : BRow w B v l) (hg : w.grownBy w' none) : BRow w' B v l := h.grown hg
theorem list_fn (l : List Value) (n : Nat) (h : l.length = n) : l = (List.range n).map (fun i => l.getD i undef) := by
 apply List.ext_getElem?
 intro i
 by_cases hi : i < n
 ·have : i < l.length := by omega
  simp [hi, this]
 ·rw [List.getElem?_eq_none (by omega), List.getElem?_eq_none (by simp; omega)]
theorem list81 (l : List Value) (h : l.length = 81) : ∃ g : Nat → Value, l = [g 0, g 1, g 2, g 3, g 4, g 5, g 6, g 7, g 8, g 9, g 10, g 11, g 12, g 13, g 14, g 15, g 16, g 17, g 18, g 19, g 20, g 21, g 22, g 23, g 24, g 25, g 26, g 27, g 28, g 29, g 30, g 31, g 32, g 33, g 34, g 35, g 36, g 37, g 38, g 39, g 40, g 41, g 42, g 43, g 44, g 45, g 46, g 47, g 48, g 49, g 50, g 51, g 52, g 53, g 54, g 55, g 56, g 57, g 58, g 59, g 60, g 61, g 62, g 63, g 64, g 65, g 66, g 67, g 68, g 69, g 70, g 71, g 72, g 73, g 74, g 75, g 76, g 77, g 78, g 79, g 80] := ⟨fun i => l.getD i undef, (list_fn l 81 h).trans rfl⟩
theorem list92 (l : List Value) (h : l.length = 92) : ∃ g : Nat → Value, l = [g 0, g 1, g 2, g 3, g 4, g 5, g 6, g 7, g 8, g 9, g 10, g 11, g 12, g 13, g 14, g 15, g 16, g 17, g 18, g 19, g 20, g 21, g 22, g 23, g 24, g 25, g 26, g 27, g 28, g 29, g 30, g 31, g 32, g 33, g 34, g 35, g 36, g 37, g 38, g 39, g 40, g 41, g 42, g 43, g 44, g 45, g 46, g 47, g 48, g 49, g 50, g 51, g 52, g 53, g 54, g 55, g 56, g 57, g 58, g 59, g 60, g 61, g 62, g 63, g 64, g 65, g 66, g 67, g 68, g 69, g 70, g 71, g 72, g 73, g 74, g 75, g 76, g 77, g 78, g 79, g 80, g 81, g 82, g 83, g 84, g 85, g 86, g 87, g 88, g 89, g 90, g 91] := ⟨fun i => l.getD i undef, (list_fn l 92 h).trans rfl⟩
theorem whole_at (Sd : Nat → Prop) (d : Nat) (D : Dsk) (jb : Nat) (J : Jn) (sv rv : Value) (c : UInt8) (s k M q : Nat) (f : Nat → List UInt8) (done : Bool) (w : World) (h : DiskAt w Sd d D) (hj : JBlk w jb d J sv rv) (ho : D.off = false) (ha : J.area ≤ 1) (hu : J.used ≤ D.n) (hrun : Run D.now (J.area * (D.n / 2) + 1 + J.used) c s k M f q) (hroom : J.used + q ≤ D.n / 2 - 1)
  (hyes : done = true → q = M ∧ 1 ≤ M) (hno : done = false → q < M ∧ (D.n / 2 - 1 ≤ J.used + q ∨ Ends (D.now (J.area * (D.n / 2) + 1 + J.used + q)) c s k M q)) :
  Calls Tryz.prog 60 #[.pointer (some ⟨jb, 0, none⟩), .int .u8 (c.toNat : Int), .int .i64 (k : Int)] w fun e w' => ∃ v, e = .returned (.tuple #[v, .int .i64 ((if done = true then s else 0 : Nat) : Int), .bool done]) ∧ (done = true → BRow w' w.heap.size v (joined f M)) ∧ JBlk w' jb d (if done = true then { J with used := J.used + M } else J) sv rv ∧ Off (fun b => b = jb) w w' := by
 have k8 : w.cell? ⟨jb, 8, none⟩ = some (.int .i64 (J.used : Int)) := hj.cell 8
 have HD := Lib.hid h
 have HJ := Lib.hid hj
 have HO := Lib.hid ho
 have HA := Lib.hid ha
 have HU := Lib.hid hu
 have HRUN := Lib.hid hrun
 have HROOM := Lib.hid hroom
 have HYES := Lib.hid hyes
 have HNO := Lib.hid hno
 clear h hj ho ha hu hrun hroom hyes hno
 go_enter Tryz.func60, Tryz.ntmps60
 go_wp2_with fail
 refine scope_jumps2 (fun a' w' => ∃ (t sT mT A : Nat) (u : Value) (r : List Value), r.length = 81 ∧ a' = { tmps := ([.pointer (some ⟨jb, 0, none⟩), .int .u8 (c.toNat : Int), .int .i64 (k : Int), undef, undef, undef, u, .int .i64 (sT : Int), .bool false, .int .i64 (A : Int), .int .i64 (mT : Int)] ++ r).toArray, defers := [] } ∧ t ≤ q ∧ (done = true → t < M) ∧ A = J.used + t ∧ (t = 0 → sT = 0 ∧ mT = 0) ∧ (0 < t → sT = s ∧ mT = M) ∧ BRow w' w.heap.size u (joined f t) ∧ Below w.heap.size w w') (fun a' w' => ∃ r : List Value, r.length = 92 ∧ a' = { tmps := r.toArray, defers := [] } ∧ done = false ∧ Below w.heap.size w w') (fun a' _ => (J.used + M + 1) - (intOf (a'.tmps.getD 9 undef)).toNat) rfl rfl ?first ?pass1 ?pass0
 case first =>
  intro HP
  go_wp2_with fail
  refine wp_label ?_
  rename_i Q2 K hKK
  show K _ _
  refine hKK _ _ (wp_mono (HP _ _ ?hJ) ?hm)
  case hm =>
   intro e a w h
   exact h
  case hJ =>
   refine ⟨0, 0, 0, J.used, .slice none 0 0, _, ?_, rfl, Nat.zero_le _, fun hd => (HYES.out hd).2, rfl, fun _ => ⟨rfl, rfl⟩, fun h => absurd h (by decide), ⟨rfl, .inl ⟨rfl, rfl⟩⟩, Below.refl _ _⟩
   rfl
 case pass1 =>
  rintro a' wr ⟨t, sT, mT, A, u, r, hr, rfl, htq, hdt, hA, h0, h1, hrow, hb⟩
  obtain ⟨g, rfl⟩ := list81 r hr
  clear hr
  simp only [List.cons_append, List.nil_append]
  have HG : Hid (w.grownBy wr none) := Below.to_grown hb
  have HTQ := Lib.hid htq
  have HDT := Lib.hid hdt
  have HAT := Lib.hid hA
  have HT0 := Lib.hid h0
  have HT1 := Lib.hid h1
  have HROW := Lib.hid hrow
  have HB := Lib.hid hb
  have HDR := Lib.hid (HD.out.grown HG.out)
  have HJR := Lib.hid (HJ.out.grown HG.out)
  clear htq hdt hA h0 h1 hrow hb
  go_wp2_with fail
  refine (half_at Sd d D jb J sv rv wr HDR.out HJR.out).mono ?_
  rintro e wq ⟨rfl, hwq⟩
  have hwq := hwq.symm
  subst hwq
  have HHALF : Hid (J.area * (D.n / 2) + D.n / 2 ≤ D.n) := by
   show _ ≤ _
   have h1 := HA.out
   obtain h2 | h2 : J.area = 0 ∨ J.area = 1 := by omega
   ·rw [h2]; omega
   ·rw [h2]; omega
  have HN16 : Hid (D.n ≤ 16384) := HD.out.1
  have hwz : wrap64 ((D.n : Int) / 2 - 1) = (D.n : Int) / 2 - 1 := by have := HN16.out; unfold wrap64; omega
  have HWZ := Lib.hid hwz
  clear hwz
  by_cases hB : D.n / 2 - 1 ≤ A
  ·have hd1 : decide (wrap64 ((D.n : Int) / 2 - 1) ≤ (A : Int)) = true := by rw [HWZ.out]; simp; omega
   have hdf : done = false := by
    cases hd : done with
    | false => rfl
    | true => have h1 := HYES.out hd; have h2 := HDT.out hd; have h3 := HROOM.out; have h4 := HAT.out; omega
   go_wp2_with fail
   go_step3
   refine .inr ⟨rfl, _, ?_, rfl, hdf, HB.out⟩
   rfl
  ·have hd1 : decide (wrap64 ((D.n : Int) / 2 - 1) ≤ (A : Int)) = false := by rw [HWZ.out]; simp; omega
   have HA1 : Hid (((1 : Int) + (A : Int)) = ((1 + A : Nat) : Int)) := by show _ = _; omega
   have a1 : (A : Int) ≤ 8192 := by have := HN16.out; omega
   have HLT : Hid (J.area * (D.n / 2) + (1 + A) < D.n) := by show _ < _; have := HHALF.out; omega
   go_wp2_with fail
   rw [HA1.out]
   refine (sector_at Sd d D jb J sv rv (1 + A) wr HDR.out HJR.out HLT.out HO.out).mono ?_
   rintro e w2 ⟨gb, rfl, hgb, hgb2, hrb, hg2⟩
   have HRB := Lib.hid hrb
   have HG2 := Lib.hid hg2
   clear hrb hg2
   go_wp2_with fail
   have hsec : J.area * (D.n / 2) + (1 + A) = J.area * (D.n / 2) + 1 + J.used + t := by have := HAT.out; omega
   rw [hsec] at HRB
   by_cases hlt : t < q
   ·have hp := HRUN.out t hlt
    refine (partOf_part hp w2 HRB.out hgb2).mono ?_
    rintro e w3 ⟨rfl, hb3⟩
    have HB3 := Lib.hid hb3
    have HP := Lib.hid hp
    clear hb3 hp
    go_upto_region 4 with fail
    have hgA := World.grownBy_alloc w3 (.cells #[.int .u8 (c.toNat : Int), .int .i64 (s : Int), .int .i64 (k : Int), .int .i64 (t : Int), .int .i64 (M : Int), .slice (some ⟨gb, 22, none⟩) (f t).length 106] 93) none
    have hcA := (MapKept.heap_alloc w3 (.cells #[.int .u8 (c.toNat : Int), .int .i64 (s : Int), .int .i64 (k : Int), .int .i64 (t : Int), .int .i64 (M : Int), .slice (some ⟨gb, 22, none⟩) (f t).length 106] 93)).1
    obtain ⟨w4, hw4⟩ : ∃ w4, w4 = w3.alloc (.cells #[.int .u8 (c.toNat : Int), .int .i64 (s : Int), .int .i64 (k : Int), .int .i64 (t : Int), .int .i64 (M : Int), .slice (some ⟨gb, 22, none⟩) (f t).length 106] 93) := ⟨_, rfl⟩
    obtain ⟨pb, hpb⟩ : ∃ pb, pb = w3.heap.size := ⟨_, rfl⟩
    rw [← hw4, ← hpb] at hcA
    rw [← hw4] at hgA ⊢
    rw [← hpb]
    have HG4 : Hid (wr.grownBy w4 none) := HG2.out.andThen ((Below.to_grown HB3.out).andThen hgA (fun _ h => .inr h)) (fun _ h => .inr h)
    have HG3 : Hid (w2.grownBy w4 none) := (Below.to_grown HB3.out).andThen hgA (fun _ h => .inr h)
    have HCA := Lib.hid hcA
    have HJ4 := Lib.hid (HJR.out.grown HG4.out)
    clear hgA hcA hw4 hpb
    have p0 : w4.cell? ⟨pb, 0, none⟩ = some (.int .u8 (c.toNat : Int)) := cell_blk HCA.out 0
    have p1 : w4.cell? ⟨pb, 1, none⟩ = some (.int .i64 (s : Int)) := cell_blk HCA.out 1
    have p2 : w4.cell? ⟨pb, 2, none⟩ = some (.int .i64 (k : Int)) := cell_blk HCA.out 2
    have p3 : w4.cell? ⟨pb, 3, none⟩ = some (.int .i64 (t : Int)) := cell_blk HCA.out 3
    have p4 : w4.cell? ⟨pb, 4, none⟩ = some (.int .i64 (M : Int)) := cell_blk HCA.out 4
    have p5 : w4.cell? ⟨pb, 5, none⟩ = some (.slice (some ⟨gb, 22, none⟩) (f t).length 106) := cell_blk HCA.out 5
    have j8 : w4.cell? ⟨jb, 8, none⟩ = some (.int .i64 (J.used : Int)) := HJ4.out.cell 8
    have HSUB : Hid ((A : Int) - (J.used : Int) = (t : Int)) := by show _ = _; have := HAT.out; omega
    go_cut [70] from 30 (fun v wx => v = .bool true ∧ ∃ m, wx = w4.drewN m)
    case first =>
     by_cases ht0 : t = 0
     ·have hsw : IntKind.i64.wrap ((A : Int) - (J.used : Int)) = (t : Int) := by rw [HSUB.out, IntKind.wrap_i64]; have := HAT.out; have := HN16.out; omega
      have ht1 : ((t : Int) == 0) = true := by simp; omega
      have ht2 : decide ((t : Int) = 0) = true := by simp; omega
      clear ht0
      go_quiet (fail)
      go_wp2_with fail
      go_meet
      case rel => exact ⟨rfl, _, rfl⟩
     ·obtain ⟨e1, e2⟩ := HT1.out (by omega)
      subst e1 e2
      have hsw : IntKind.i64.wrap ((A : Int) - (J.used : Int)) = (t : Int) := by rw [HSUB.out, IntKind.wrap_i64]; have := HAT.out; have := HN16.out; omega
      have hsw2 : wrap64 ((A : Int) - (J.used : Int)) = (t : Int) := by rw [HSUB.out]; have := HAT.out; have := HN16.out; unfold wrap64; omega
      have ht1 : ((t : Int) == 0) = false := by simp; omega
      have ht2 : ¬ (t : Int) = 0 := by omega
      go_quiet (fail)
      go_wp2_with fail
      go_meet
      case rel => exact ⟨rfl, _, rfl⟩
    case rest =>
     obtain ⟨rfl, m, rfl⟩ := hcut
     clear p0 p1 p2 p3 p4 p5 j8
     have hg5 : wr.grownBy (w4.drewN m).drew none := HG4.out.andThen (⟨rfl, rfl, rfl, Nat.le_refl _, fun _ _ _ => rfl⟩ : w4.grownBy (w4.drewN m).drew none) (fun _ h => .inr h)
     have H5 : Hid ((w4.drewN m).drew.cell? ⟨pb, 1, none⟩ = some (Value.int .i64 (s : Int)) ∧ (w4.drewN m).drew.cell? ⟨pb, 4, none⟩ = some (Value.int .i64 (M : Int)) ∧ (w4.drewN m).drew.cell? ⟨pb, 5, none⟩ = some (Value.slice (some ⟨gb, 22, none⟩) (f t).length 106)) := ⟨cell_blk HCA.out 1, cell_blk HCA.out 4, cell_blk HCA.out 5⟩
     have HROW5 : Hid (BRow (w4.drewN m).drew w.heap.size u (joined f t)) := HROW.out.later hg5
     have HG5 := Lib.hid hg5
     have HBS : Hid (w.heap.size ≤ (w4.drewN m).drew.heap.size) := Nat.le_trans HB.out.size HG5.out.size
     have HFEW : Hid ((joined f t).length + (f t).length < 100000000000) := by
      show _ < _
      have h1 := joined_le f t (fun i hi => (HRUN.out i (by omega)).len)
      have h2 := HP.out.len
      have h3 := HAT.out
      have h4 := HN16.out
      omega
     have HRNG : Hid ((w4.drewN m).drew.rangeAt gb 22 (u8s (f t))) := by
      have h1 := range_head (range_drop HRB.out 22) (f t).length
      rw [HP.out.eq, part_body] at h1
      intro j x hj
      have h2 := HG3.out.cell (h1 j x hj) (by simp)
      exact h2
     have HNE : Hid (some pb ≠ u.ownBlock) := ne_part HROW5.out HCA.out
     clear hg5
     go_wp2_with fail
     refine wp_region_noPanic ?_
     refine wp_region_held_drew (S := fun w' => w'.cell? ⟨pb, 1, none⟩ = some (Value.int .i64 (s : Int)) ∧ w'.cell? ⟨pb, 4, none⟩ = some (Value.int .i64 (M : Int)) ∧ w'.cell? ⟨pb, 5, none⟩ = some (Value.slice (some ⟨gb, 22, none⟩) (f t).length 106)) (by kernel_rfl) ?hSz (fun hHeld => ?_)
     case hSz => exact H5.out
     refine ztk 0 rfl ?_
     refine ztk 1 rfl ?_
     refine ztk 2 rfl ?_
     refine ztk 4 rfl ?_
     refine ztk 5 rfl ?_
     refine ztk 6 rfl ?_
     refine ztk 7 rfl ?_
     refine zrd 3 rfl (fun K hK => ?_)
     refine step_append_row rfl (.tmp 71) (.tmp 73) rfl w.heap.size _ (joined f t) (f t) (some ⟨gb, 22, none⟩) (f t).length 106 rfl rfl (by exact HROW5.out) rfl (.inr ⟨gb, 22, rfl, by exact HRNG.out⟩) HFEW.out (by exact HBS.out) ?_
     intro v6 w6 hr6 hg6
     have HR6 := Lib.hid hr6
     have HG6 := Lib.hid hg6
     have HB6 := Lib.hid (HROW5.out.below hg6 HBS.out)
     clear hr6 hg6
     refine hK.out _ _ ?q (fun hHeld => ?_)
     case q => (try dsimp only); exact ⟨HG6.out.cell H5.out.1 HNE.out, HG6.out.cell H5.out.2.1 HNE.out, HG6.out.cell H5.out.2.2 HNE.out⟩
     clear hK K
     try simp only [zpt]
     refine ztk 8 rfl ?_
     refine ztk 9 rfl ?_
     refine ztk 10 rfl ?_
     refine wpAnyH_done (by kernel_rfl) ?_ _
     refine NoPanic.normal ?_
     clear hHeld
     have q3 : w6.cell? ⟨pb, 3, none⟩ = some (.int .i64 (t : Int)) := HG6.out.cell (show (w4.drewN m).drew.cell? ⟨pb, 3, none⟩ = some (.int .i64 (t : Int)) from cell_blk HCA.out 3) HNE.out
     have HWM : Hid (wrap64 ((M : Int) - 1) = (M : Int) - 1) := by show _ = _; have := HP.out.lt; have := HP.out.n16; unfold wrap64; omega
     have HBW : Hid (Below w.heap.size w w6) := (HB.out.trans (grown_below0 HG5.out HB.out.size)).trans HB6.out
     by_cases hM1 : t + 1 < M
     ·have hd2 : decide ((t : Int) < wrap64 ((M : Int) - 1)) = true := by rw [HWM.out]; simp; omega
      have hd3 : decide ((t : Int) < (M : Int) - 1) = true := by simp; omega
      go_wp2_with fail
      go_step3
      refine .inl ⟨rfl, ⟨t + 1, s, M, A + 1, v6, _, ?_, by rfl, hlt, fun _ => hM1, by have := HAT.out; omega, fun h => absurd h (by omega), fun _ => ⟨rfl, rfl⟩, by rw [joined_succ]; exact HR6.out, HBW.out⟩, ?_⟩
      ·rfl
      ·show J.used + M + 1 - ((A : Int) + 1).toNat < J.used + M + 1 - (A : Int).toNat
       have := HAT.out
       omega
     ·have hd2 : decide ((t : Int) < wrap64 ((M : Int) - 1)) = false := by rw [HWM.out]; simp; omega
      have hd3 : decide ((t : Int) < (M : Int) - 1) = false := by simp; omega
      have hjb : w6.heap[jb]? = some (.cells (JC d J sv rv) 50) := (HBW.out.block jb HJ.out.lt).trans HJ.out
      have j8 : w6.cell? ⟨jb, 8, none⟩ = some (.int .i64 (J.used : Int)) := cell_blk hjb 8
      have jf : w6.frozen? ⟨jb, 8, none⟩ = false := frozen_blk hjb 8
      have HJB := Lib.hid hjb
      clear hjb
      go_wp2_with fail
      simp only [jumpM]
      go_ret3
      have hM2 : t + 1 = M := by have := HP.out.lt; omega
      have hdone : done = true := by
       cases hd : done with
       | true => rfl
       | false => have := (HNO.out hd).1; omega
      rw [hdone, if_pos rfl, if_pos rfl]
      have eA : (A : Int) + 1 = ((J.used + M : Nat) : Int) := by have := HAT.out; omega
      refine ⟨v6, rfl, fun _ => ?_, ?_, ?_⟩
      ·have hr := HR6.out
       rw [← joined_succ, hM2] at hr
       exact Sec.row_off hr (S := fun b => b = jb) ⟨rfl, rfl, rfl, by simp, fun q hq hs => heap_setCell_other w6 ⟨jb, 8, none⟩ q _ hs⟩ (fun g hg e => by
        have h1 := (hr.own g hg)
        have h2 := HJ.out.lt
        omega)
      ·have h1 := heap_setCell_same w6 jb 8 _ _ (.int .i64 ((A : Int) + 1)) HJB.out
       rw [eA] at h1 ⊢
       exact h1
      ·refine ⟨HBW.out.os, HBW.out.tape, HBW.out.output, by have := HBW.out.size; simpa using this, fun q hq hs => ?_⟩
       rw [heap_setCell_other w6 ⟨jb, 8, none⟩ q _ hs]
       exact HBW.out.block q hq
   ·have htq2 : t = q := by have := HTQ.out; omega
    have hdf : done = false := by
     cases hd : done with
     | false => rfl
     | true => have h1 := HYES.out hd; have h2 := HDT.out hd; omega
    have hends : Ends (D.now (J.area * (D.n / 2) + 1 + J.used + t)) c s k M t := by
     rcases (HNO.out hdf).2 with h | h
     ·have := HAT.out; omega
     ·rw [htq2]; exact h
    have HEND := Lib.hid hends
    have HDF := Lib.hid hdf
    clear hends hdf htq2
    rcases HEND.out with ⟨c0, hc0, hn1, hn2⟩ | ⟨c', s', k', i', n', l', hp, hmis⟩
    ·have hcell : w2.cell? ⟨gb, 0, none⟩ = some (.int .u8 (c0.toNat : Int)) := HRB.out 0 _ (by simp [u8s, hc0])
     refine (partOf_none gb 128 c0.toNat w2 hcell hn1 hn2 (by decide) (by decide)).mono ?_
     rintro e w3 ⟨rfl, hb3⟩
     have HB3 := Lib.hid hb3
     clear hb3 hcell
     go_upto_region 4 with fail
     have hgA := World.grownBy_alloc w3 (.cells #[.int .u8 (c0.toNat : Int), .int .i64 0, .int .i64 0, .int .i64 0, .int .i64 0, .slice none 0 0] 93) none
     obtain ⟨w4, hw4⟩ : ∃ w4, w4 = w3.alloc (.cells #[.int .u8 (c0.toNat : Int), .int .i64 0, .int .i64 0, .int .i64 0, .int .i64 0, .slice none 0 0] 93) := ⟨_, rfl⟩
     rw [← hw4] at hgA ⊢
     have HG4 : Hid (wr.grownBy w4 none) := HG2.out.andThen ((Below.to_grown HB3.out).andThen hgA (fun _ h => .inr h)) (fun _ h => .inr h)
     clear hgA hw4
     go_quiet (fail)
     go_wp2_with fail
     have HG4 : Hid (wr.grownBy (w4.drewN nq) none) := HG4.out.andThen (⟨rfl, rfl, rfl, Nat.le_refl _, fun _ _ _ => rfl⟩ : w4.grownBy (w4.drewN nq) none) (fun _ h => .inr h)
     refine wp_label ?_
     go_wp2_with fail
     simp only [jumpM]
     go_ret3
     rw [HDF.out]
     refine ⟨_, rfl, fun h => (Bool.noConfusion h), (HJR.out.grown HG4.out), ⟨HG4.out.os.trans HB.out.os, HG4.out.tape.trans HB.out.tape, HG4.out.output.trans HB.out.output, Nat.le_trans HB.out.size HG4.out.size, fun x hx _ => ?_⟩⟩
     exact (HG4.out.block x (Nat.lt_of_lt_of_le hx HB.out.size) (by simp)).trans (HB.out.block x hx)
    ·refine (partOf_part hp w2 HRB.out hgb2).mono ?_
     rintro e w3 ⟨rfl, hb3⟩
     have HB3 := Lib.hid hb3
     have HMIS := Lib.hid hmis
     have HP := Lib.hid hp
     clear hb3 hp hmis
     go_upto_region 4 with fail
     have hgA := World.grownBy_alloc w3 (.cells #[.int .u8 (c'.toNat : Int), .int .i64 (s' : Int), .int .i64 (k' : Int), .int .i64 (i' : Int), .int .i64 (n' : Int), .slice (some ⟨gb, 22, none⟩) l'.length 106] 93) none
     have hcA := (MapKept.heap_alloc w3 (.cells #[.int .u8 (c'.toNat : Int), .int .i64 (s' : Int), .int .i64 (k' : Int), .int .i64 (i' : Int), .int .i64 (n' : Int), .slice (some ⟨gb, 22, none⟩) l'.length 106] 93)).1
     obtain ⟨w4, hw4⟩ : ∃ w4, w4 = w3.alloc (.cells #[.int .u8 (c'.toNat : Int), .int .i64 (s' : Int), .int .i64 (k' : Int), .int .i64 (i' : Int), .int .i64 (n' : Int), .slice (some ⟨gb, 22, none⟩) l'.length 106] 93) := ⟨_, rfl⟩
     obtain ⟨pb, hpb⟩ : ∃ pb, pb = w3.heap.size := ⟨_, rfl⟩
     rw [← hw4, ← hpb] at hcA
     rw [← hw4] at hgA ⊢
     rw [← hpb]
     have HG4 : Hid (wr.grownBy w4 none) := HG2.out.andThen ((Below.to_grown HB3.out).andThen hgA (fun _ h => .inr h)) (fun _ h => .inr h)
     have HCA := Lib.hid hcA
     have HJ4 := Lib.hid (HJR.out.grown HG4.out)
     clear hgA hcA hw4 hpb
     have p0 : w4.cell? ⟨pb, 0, none⟩ = some (.int .u8 (c'.toNat : Int)) := cell_blk HCA.out 0
     have p1 : w4.cell? ⟨pb, 1, none⟩ = some (.int .i64 (s' : Int)) := cell_blk HCA.out 1
     have p2 : w4.cell? ⟨pb, 2, none⟩ = some (.int .i64 (k' : Int)) := cell_blk HCA.out 2
     have p3 : w4.cell? ⟨pb, 3, none⟩ = some (.int .i64 (i' : Int)) := cell_blk HCA.out 3
     have p4 : w4.cell? ⟨pb, 4, none⟩ = some (.int .i64 (n' : Int)) := cell_blk HCA.out 4
     have j8 : w4.cell? ⟨jb, 8, none⟩ = some (.int .i64 (J.used : Int)) := HJ4.out.cell 8
     have hsub : (A : Int) - (J.used : Int) = (t : Int) := by have := HAT.out; omega
     have hsw : IntKind.i64.wrap ((A : Int) - (J.used : Int)) = (t : Int) := by rw [hsub, IntKind.wrap_i64]; have := HAT.out; have := HN16.out; omega
     clear hsub
     go_cut [70] from 30 (fun v wx => v = .bool false ∧ ∃ m, wx = w4.drewN m)
     case first =>
      have hn : ∀ a b : Nat, a ≠ b → (((a : Int) == (b : Int)) = false) := fun a b h => by simp; omega
      have hy : ∀ a b : Nat, a = b → (((a : Int) == (b : Int)) = true) := fun a b h => by simp; omega
      by_cases e1 : c' = c
      ·have x1 := hy c'.toNat c.toNat (by rw [e1])
       by_cases e2 : k' = k
       ·have x2 := hy k' k e2
        by_cases e3 : i' = t
        ·have x3 := hy i' t e3
         obtain ⟨h0, hm⟩ : 0 < t ∧ (s' ≠ s ∨ n' ≠ M) := by
          rcases HMIS.out with h | h | h | h
          ·exact absurd e1 h
          ·exact absurd e2 h
          ·exact absurd e3 h
          ·exact h
         obtain ⟨y1, y2⟩ := HT1.out h0
         have x4 : ((i' : Int) == 0) = false := by simp; omega
         have x7 : ¬ (i' : Int) = 0 := by omega
         by_cases e4 : s' = s
         ·have x5 := hy s' sT (by omega)
          have x6 := hn n' mT (by rcases hm with h | h; exact absurd e4 h; omega)
          clear e1 e2 e3 e4 hm h0 y1 y2 hn hy
          go_quiet (fail)
          go_wp2_with fail
          go_meet
          case rel => exact ⟨rfl, _, rfl⟩
         ·have x5 := hn s' sT (by omega)
          clear e1 e2 e3 e4 hm h0 y1 y2 hn hy
          go_quiet (fail)
          go_wp2_with fail
          go_meet
          case rel => exact ⟨rfl, _, rfl⟩
        ·have x3 := hn i' t e3
         clear e1 e2 e3 hn hy
         go_quiet (fail)
         go_wp2_with fail
         go_meet
         case rel => exact ⟨rfl, _, rfl⟩
       ·have x2 := hn k' k e2
        clear e1 e2 hn hy
        go_quiet (fail)
        go_wp2_with fail
        go_meet
        case rel => exact ⟨rfl, _, rfl⟩
      ·have x1 := hn c'.toNat c.toNat (fun h => e1 (UInt8.toNat_inj.1 h))
       clear e1 hn hy
       go_quiet (fail)
       go_wp2_with fail
       go_meet
       case rel => exact ⟨rfl, _, rfl⟩
     case rest =>
      obtain ⟨rfl, m, rfl⟩ := hcut
      clear p0 p1 p2 p3 p4 j8 hsw
      have HG4 : Hid (wr.grownBy (w4.drewN m) none) := HG4.out.andThen (⟨rfl, rfl, rfl, Nat.le_refl _, fun _ _ _ => rfl⟩ : w4.grownBy (w4.drewN m) none) (fun _ h => .inr h)
      go_wp2_with fail
      refine wp_label ?_
      go_wp2_with fail
      simp only [jumpM]
      go_ret3
      rw [HDF.out]
      refine ⟨_, rfl, fun h => (Bool.noConfusion h), (HJR.out.grown HG4.out), ⟨HG4.out.os.trans HB.out.os, HG4.out.tape.trans HB.out.tape, HG4.out.output.trans HB.out.output, Nat.le_trans HB.out.size HG4.out.size, fun x hx _ => ?_⟩⟩
      exact (HG4.out.block x (Nat.lt_of_lt_of_le hx HB.out.size) (by simp)).trans (HB.out.block x hx)
 case pass0 =>
  rintro a' wr ⟨r, hr, rfl, hdn, hb⟩
  obtain ⟨g, rfl⟩ := list92 r hr
  clear hr
  go_wp2_with fail
  simp only [jumpM]
  go_ret3
  rw [hdn]
  refine ⟨_, rfl, fun h => (Bool.noConfusion h), ?_, ⟨hb.os, hb.tape, hb.output, hb.size, fun k hk _ => hb.block k hk⟩⟩
  exact (hb.block jb HJ.out.lt).trans HJ.out
structure JIn (w : World) (S : Nat → Prop) (jb d : Nat) (J : Jn) (sv rv : Value) (vs : List Value) : Prop where
 blk : JBlk w jb d J sv rv
 st : BRow w 0 sv J.st
 rows : w.ownsRow 0 28 1 rv J.recs.length vs
 recs : ∀ (i : Nat) (l : List UInt8), J.recs[i]? = some l → ∃ v, vs[i]? = some v ∧ BRow w 0 v l
 own : S jb ∧ (∀ g, sv.ownBlock = some g → S g) ∧ (∀ g, rv.ownBlock = some g → S g) ∧ ∀ v ∈ vs, ∀ g, v.ownBlock = some g → S g
 lt : ∀ b, S b → b < w.heap.size
def JAt (w : World) (S : Nat → Prop) (jb d : Nat) (J : Jn) : Prop := ∃ sv rv vs, JIn w S jb d J sv rv vs
section
variable {w w' : World} {S T : Nat → Prop} {jb d : Nat} {J : Jn} {sv rv : Value} {vs : List Value}
theorem JIn.off (h : JIn w S jb d J sv rv vs) (ho : Off T w w') (hST : ∀ b, S b → ¬ T b) : JIn w' S jb d J sv rv vs :=
 ⟨h.blk.off ho (hST _ h.own.1), Sec.row_off h.st ho (fun g hg => hST g (h.own.2.1 g hg)), Sec.row_off h.rows ho (fun g hg => hST g (h.own.2.2.1 g hg)), fun i l hi => by
  obtain ⟨v, hv, hr⟩ := h.recs i l hi
  exact ⟨v, hv, Sec.row_off hr ho (fun g hg => hST g (h.own.2.2.2 v (List.mem_of_getElem? hv) g hg))⟩, h.own, fun b hb => Nat.lt_of_lt_of_le (h.lt b hb) ho.size⟩
theorem JAt.off (h : JAt w S jb d J) (ho : Off T w w') (hST : ∀ b, S b → ¬ T b) : JAt w' S jb d J := by
 obtain ⟨sv, rv, vs, h⟩ := h
 exact ⟨sv, rv, vs, h.off ho hST⟩
theorem row_len {w : World} {B n sz : Nat} {e : TypeId} {v : Value} {xs : List Value} (h : w.ownsRow B e sz v n xs) : ∃ A cap, v = .slice A n cap ∧ n ≤ cap ∧ cap ≤ maxLen := by
 rcases h.2 with ⟨rfl, e⟩ | ⟨g, cap, cur, rfl, _, _, h1, h2, _⟩
 ·exact ⟨none, 0, by rw [e], by omega, by unfold maxLen; omega⟩
 ·exact ⟨_, cap, rfl, h1, h2⟩
end
theorem first_at (S : Nat → Prop) (jb d : Nat) (J : Jn) (w : World) (h : JAt w S jb d J) :
  Calls Tryz.prog 9 #[.pointer (some ⟨jb, 0, none⟩)] w fun e w' => e = .returned (.int .i64 (J.first : Int)) ∧ w' = w := by
 obtain ⟨sv, rv, vs, h⟩ := h
 have c4 : w.cell? ⟨jb, 4, none⟩ = some (.int .i64 (J.first : Int)) := h.blk.cell 4
 clear h
 go_enter Tryz.func9, Tryz.ntmps9
 go_wp2
 go_ret
 exact ⟨rfl, rfl⟩
theorem next_blk (jb d : Nat) (J : Jn) (sv rv : Value) (A : Option Addr) (n cap : Nat) (hrv : rv = .slice A n cap) (hn : J.first + n < 9223372036854775808) (w : World) (h : JBlk w jb d J sv rv) :
  Calls Tryz.prog 10 #[.pointer (some ⟨jb, 0, none⟩)] w fun e w' => e = .returned (.int .i64 ((J.first + n : Nat) : Int)) ∧ ∃ m, w' = w.drewN m := by
 subst hrv
 have c4 : w.cell? ⟨jb, 4, none⟩ = some (.int .i64 (J.first : Int)) := h.cell 4
 have c7 : w.cell? ⟨jb, 7, none⟩ = some (.slice A n cap) := h.cell 7
 have n1 : IntKind.i64.wrap ((J.first : Int) + (n : Int)) = (J.first : Int) + (n : Int) := by rw [IntKind.wrap_i64]; omega
 clear h
 go_enter Tryz.func10, Tryz.ntmps10
 go_wp2_with fail
 go_quiet (fail)
 go_wp2_with fail
 go_ret
 exact ⟨by rw [Int.natCast_add]; rfl, _, rfl⟩
theorem broken_at (jb d : Nat) (J : Jn) (sv rv : Value) (w : World) (h : JBlk w jb d J sv rv) :
  Calls Tryz.prog 12 #[.pointer (some ⟨jb, 0, none⟩)] w fun e w' => e = .returned (.int .i64 0) ∧ w' = w := by
 have c9 : w.cell? ⟨jb, 9, none⟩ = some (.int .i64 0) := h.cell 9
 clear h
 go_enter Tryz.func12, Tryz.ntmps12
 go_wp2
 go_ret
 exact ⟨rfl, rfl⟩
theorem clone_row (A : Option Addr) (l : List UInt8) (n cap : Nat) (w : World) (hn : l.length = n) (h : (l = [] ∧ cap = 0) ∨ ∃ g off, A = some ⟨g, off, none⟩ ∧ w.rangeAt g off (u8s l)) (hl : n ≤ 100000000) :
  Calls Tryz.prog 28 #[.slice A n cap] w fun e w' => ∃ v, e = .returned v ∧ BRow w' w.heap.size v l ∧ Below w.heap.size w w' := by
 have hx0 : (A = none ∧ l = [] ∧ cap = 0) ∨ ∃ x, A = some x ∧ ((l = [] ∧ cap = 0) ∨ ∃ g off, some x = some ⟨g, off, none⟩ ∧ w.rangeAt g off (u8s l)) := by
  cases A with
  | none =>
   rcases h with ⟨h1, h2⟩ | ⟨g, off, h1, _⟩
   ·exact .inl ⟨rfl, h1, h2⟩
   ·cases h1
  | some x => exact .inr ⟨x, rfl, h⟩
 rcases hx0 with ⟨rfl, rfl, rfl⟩ | ⟨x0, rfl, hr⟩
 ·subst hn
  have hq := fun w => Lib.run_eql_slice_nil (P := Tryz.prog) w 28 5 none 0 0 0 0 Tryz.underlying28
  go_enter Tryz.func28, Tryz.ntmps28
  go_wp2
  go_ret
  exact ⟨_, rfl, ⟨rfl, .inl ⟨rfl, rfl⟩⟩, Below.refl _ _⟩
 ·have hq := fun w => Lib.run_eql_slice_nil (P := Tryz.prog) w 28 5 (some x0) n cap 0 0 Tryz.underlying28
  have hg0 := World.grownBy_alloc w (.cells #[] 5) none
  have hmade : BRow (w.alloc (.cells #[] 5)) w.heap.size (.slice (some ⟨w.heap.size, 0, none⟩) 0 0) [] := World.ownsRow_made (e := 5) (size := 1) (base := w.heap.size) w #[] 0 (Nat.le_refl _) (by unfold maxLen; omega) rfl
  have HM := Lib.hid hmade
  have HR : Hid ((l = [] ∧ cap = 0) ∨ ∃ g off, some x0 = some ⟨g, off, none⟩ ∧ (w.alloc (.cells #[] 5)).rangeAt g off (u8s l)) := hr.imp id (fun ⟨g, off, e, hr⟩ => ⟨g, off, e, fun j v hj => hg0.cell (hr j v hj) (by simp)⟩)
  have HN := Lib.hid hn
  have HB0 : Hid (Below w.heap.size w (w.alloc (.cells #[] 5))) := grown_below0 hg0 (Nat.le_refl _)
  clear hmade hg0 hr hn
  go_enter Tryz.func28, Tryz.ntmps28
  go_wp2_with (first
   | (at_builtin; refine wpList_append_bytes rfl (.tmp 5) (.tmp 6) rfl w.heap.size _ [] l (some x0) n cap HN.out rfl HM.out rfl HR.out (by simp; omega) HB0.out.size ?_; intro v3 w3 hr3 hb3; go_frame)
   | fail)
  go_ret
  exact ⟨_, rfl, hr3, HB0.out.trans hb3⟩
theorem state_at (S : Nat → Prop) (jb d : Nat) (J : Jn) (w : World) (h : JAt w S jb d J) (hl : J.st.length ≤ 100000000) :
  Calls Tryz.prog 8 #[.pointer (some ⟨jb, 0, none⟩)] w fun e w' => ∃ v, e = .returned v ∧ BRow w' w.heap.size v J.st ∧ Below w.heap.size w w' := by
 obtain ⟨sv, rv, vs, h⟩ := h
 obtain ⟨A, cap, rfl, h1, h2⟩ := row_len h.st
 have c6 : w.cell? ⟨jb, 6, none⟩ = some (.slice A J.st.length cap) := h.blk.cell 6
 have HS : Hid ((J.st = [] ∧ cap = 0) ∨ ∃ g off, A = some ⟨g, off, none⟩ ∧ w.rangeAt g off (u8s J.st)) := by
  obtain ⟨_, ⟨e, e2⟩ | ⟨g, cap', cur, e, h3, hb, h4, h5, h6, h7⟩⟩ := id h.st
  ·simp only [Value.slice.injEq] at e
   exact .inl ⟨List.eq_nil_of_length_eq_zero e2, e.2.2⟩
  ·simp only [Value.slice.injEq, true_and] at e
   obtain ⟨rfl, rfl⟩ := e
   refine .inr ⟨g, 0, rfl, fun j u hj => ?_⟩
   have := World.ownsRow.cells h.st (g := g) rfl j u hj
   rw [Addr.add_lit] at this
   exact this
 clear h
 go_enter Tryz.func8, Tryz.ntmps8
 go_wp2_with fail
 refine (clone_row A J.st J.st.length cap w rfl HS.out hl).mono ?_
 rintro e w2 ⟨v, rfl, hr, hb⟩
 go_wp2_with fail
 go_ret
 exact ⟨_, rfl, hr, hb⟩
structure Wy (now : Nat → List UInt8) (base half used : Nat) (c : UInt8) (k s M : Nat) (f : Nat → List UInt8) : Prop where
 one : 1 ≤ M
 run : Run now (base + 1 + used) c s k M f M
 room : used + M ≤ half - 1
def Wn (now : Nat → List UInt8) (base half used : Nat) (c : UInt8) (k : Nat) : Prop := ∃ s M q f, Run now (base + 1 + used) c s k M f q ∧ q < M ∧ used + q ≤ half - 1 ∧ (half - 1 ≤ used + q ∨ Ends (now (base + 1 + used + q)) c s k M q)
inductive Recs (now : Nat → List UInt8) (base half op first : Nat) : Nat → Nat → Nat → List (List UInt8) → Nat → Prop
 | stop {used n last : Nat} (h : Wn now base half used 82 (first + n) ∨ ∃ s M f, Wy now base half used 82 (first + n) s M f ∧ (s < last ∨ op < s)) : Recs now base half op first used n last [] used
 | step {used n last s M u : Nat} {f : Nat → List UInt8} {ls : List (List UInt8)} (h : Wy now base half used 82 (first + n) s M f) (h1 : last ≤ s) (h2 : s ≤ op) (r : Recs now base half op first (used + M) (n + 1) s ls u) : Recs now base half op first used n last (joined f M :: ls) u
theorem whole_y {Sd : Nat → Prop} {d : Nat} {D : Dsk} {jb : Nat} {J : Jn} {sv rv : Value} {c : UInt8} {s k M : Nat} {f : Nat → List UInt8} (hw : Wy D.now (J.area * (D.n / 2)) (D.n / 2) J.used c k s M f) (w : World) (h : DiskAt w Sd d D) (hj : JBlk w jb d J sv rv) (ho : D.off = false) (ha : J.area ≤ 1) :
  Calls Tryz.prog 60 #[.pointer (some ⟨jb, 0, none⟩), .int .u8 (c.toNat : Int), .int .i64 (k : Int)] w fun e w' => ∃ v, e = .returned (.tuple #[v, .int .i64 (s : Int), .bool true]) ∧ BRow w' w.heap.size v (joined f M) ∧ JBlk w' jb d { J with used := J.used + M } sv rv ∧ Off (fun b => b = jb) w w' := by
 refine (whole_at Sd d D jb J sv rv c s k M M f true w h hj ho ha (by have := hw.room; omega) hw.run hw.room (fun _ => ⟨rfl, hw.one⟩) (fun h => by cases h)).mono ?_
 rintro e w' ⟨v, rfl, h1, h2, h3⟩
 exact ⟨v, by rw [if_pos rfl], h1 rfl, by rw [if_pos rfl] at h2; exact h2, h3⟩
theorem whole_n {Sd : Nat → Prop} {d : Nat} {D : Dsk} {jb : Nat} {J : Jn} {sv rv : Value} {c : UInt8} {k : Nat} (hw : Wn D.now (J.area * (D.n / 2)) (D.n / 2) J.used c k) (w : World) (h : DiskAt w Sd d D) (hj : JBlk w jb d J sv rv) (ho : D.off = false) (ha : J.area ≤ 1) :
  Calls Tryz.prog 60 #[.pointer (some ⟨jb, 0, none⟩), .int .u8 (c.toNat : Int), .int .i64 (k : Int)] w fun e w' => ∃ v, e = .returned (.tuple #[v, .int .i64 0, .bool false]) ∧ JBlk w' jb d J sv rv ∧ Off (fun b => b = jb) w w' := by
 obtain ⟨s, M, q, f, h1, h2, h3, h4⟩ := hw
 refine (whole_at Sd d D jb J sv rv c s k M q f false w h hj ho ha (by omega) h1 h3 (fun h => by cases h) (fun _ => ⟨h2, h4⟩)).mono ?_
 rintro e w' ⟨v, rfl, _, h2, h3⟩
 exact ⟨v, rfl, h2, h3⟩
structure LoadIn (w3 w : World) (jb d : Nat) (J : Jn) (sv rv : Value) (vs : List Value) : Prop where
 blk : JBlk w jb d J sv rv
 st : BRow w w3.heap.size sv J.st
 rows : w.ownsRow w3.heap.size 28 1 rv J.recs.length vs
 recs : ∀ (i : Nat) (l : List UInt8), J.recs[i]? = some l → ∃ v, vs[i]? = some v ∧ BRow w w3.heap.size v l
 size : w3.heap.size ≤ w.heap.size
theorem brow_less {w : World} {B B' : Nat} {v : Value} {l : List UInt8} (h : BRow w B v l) (hB : B' ≤ B) : BRow w B' v l := by
 obtain ⟨h1, h2 | ⟨gg, cap, cur, e, hb, h3⟩⟩ := h
 ·exact ⟨h1, .inl h2⟩
 ·exact ⟨h1, .inr ⟨gg, cap, cur, e, by omega, h3⟩⟩
theorem row_less {w : World} {B B' n : Nat} {e : TypeId} {v : Value} {xs : List Value} (h : w.ownsRow B e 1 v n xs) (hB : B' ≤ B) : w.ownsRow B' e 1 v n xs := by
 obtain ⟨h1, h2 | ⟨gg, cap, cur, e, hb, h3⟩⟩ := h
 ·exact ⟨h1, .inl h2⟩
 ·exact ⟨h1, .inr ⟨gg, cap, cur, e, by omega, h3⟩⟩
theorem LoadIn.off {w3 w w' : World} {jb d : Nat} {J : Jn} {sv rv : Value} {vs : List Value} {T : Nat → Prop} (h : LoadIn w3 w jb d J sv rv vs) (ho : Off T w w') (hT : ∀ b, T b → b < w3.heap.size) (hj : ¬ T jb) : LoadIn w3 w' jb d J sv rv vs :=
 ⟨h.blk.off ho hj, Sec.row_off h.st ho (fun g hg ht => by have := h.st.own g hg; have := hT g ht; omega), Sec.row_off h.rows ho (fun g hg ht => by have := (h.rows.lt g hg).1; have := hT g ht; omega), fun i l hi => by
  obtain ⟨v, hv, hr⟩ := h.recs i l hi
  exact ⟨v, hv, Sec.row_off hr ho (fun g hg ht => by have := hr.own g hg; have := hT g ht; omega)⟩, Nat.le_trans h.size ho.size⟩
theorem LoadIn.turn {w3 w w' : World} {jb d : Nat} {J J' : Jn} {sv rv : Value} {vs : List Value} (h : LoadIn w3 w jb d J sv rv vs) (ho : Off (fun b => b = jb) w w') (hj : jb < w3.heap.size) (hb : JBlk w' jb d J' sv rv) (h1 : J'.st = J.st) (h2 : J'.recs = J.recs) : LoadIn w3 w' jb d J' sv rv vs :=
 ⟨hb, by rw [h1]; exact Sec.row_off h.st ho (fun g hg ht => by have := h.st.own g hg; omega), by rw [h2]; exact Sec.row_off h.rows ho (fun g hg ht => by have := (h.rows.lt g hg).1; omega), fun i l hi => by
  rw [h2] at hi
  obtain ⟨v, hv, hr⟩ := h.recs i l hi
  exact ⟨v, hv, Sec.row_off hr ho (fun g hg ht => by have := hr.own g hg; omega)⟩, Nat.le_trans h.size ho.size⟩
theorem Recs.inv {now : Nat → List UInt8} {base half op first used n last u : Nat} {ls : List (List UInt8)} (h : Recs now base half op first used n last ls u) :
  (ls = [] ∧ u = used ∧ (Wn now base half used 82 (first + n) ∨ ∃ s M f, Wy now base half used 82 (first + n) s M f ∧ (s < last ∨ op < s))) ∨
  (∃ s M f lr, ls = joined f M :: lr ∧ Wy now base half used 82 (first + n) s M f ∧ last ≤ s ∧ s ≤ op ∧ Recs now base half op first (used + M) (n + 1) s lr u) := by
 cases h with
 | stop h => exact .inl ⟨rfl, rfl, h⟩
 | step h h1 h2 r => exact .inr ⟨_, _, _, _, rfl, h, h1, h2, r⟩
theorem used_set {w : World} {jb d x : Nat} {J : Jn} {sv rv : Value} (h : JBlk w jb d J sv rv) : JBlk (w.setCell ⟨jb, 8, none⟩ (.int .i64 (x : Int))) jb d { J with used := x } sv rv ∧ Off (fun b => b = jb) w (w.setCell ⟨jb, 8, none⟩ (.int .i64 (x : Int))) :=
 ⟨heap_setCell_same w jb 8 _ _ _ h, Off.of_grown (grown_set w jb 8 _) (fun k e => by cases e; rfl)⟩
theorem info_bytes : (Tryz.prog.info? 28).map (fun i => (i.zero, i.size, i.bytes)) = some (some (.slice none 0 0), 1, 24) := by kernel_rfl
theorem wpList_append_rec {ops : Array Oper} {rest : List Oper} {o : Oper} {a : Act} {w : World} {Q : Exit → Act → World → Prop} (hgd : o.guard = none) (s x : Operand) (ho : o.op = .call { callee := .builtin .append, args := #[s, x], argTypes := #[48, 48] })
  (B : Nat) (v : Value) (n : Nat) (vs : List Value) (y : Value) (hy : y.oneCell' = true) (hs : a.eval s = v) (hown : w.ownsRow B 28 1 v n vs) (g : Nat) (hx : a.eval x = .slice (some ⟨g, 0, none⟩) 1 1) (hc : w.cell? ⟨g, 0, none⟩ = some y) (hb : n < 100000000) (hbase : B ≤ w.heap.size)
  (h : ∀ v' w', w'.ownsRow B 28 1 v' (n + 1) (vs ++ [y]) → w.grownBy w' v.ownBlock → wpList Tryz.prog ops Q rest (a.put o.dst v') w') : wpList Tryz.prog ops Q (o :: rest) a w := by
 obtain ⟨i0, hi0, he⟩ := Option.map_eq_some_iff.1 info_bytes
 simp only [Prod.mk.injEq] at he
 refine wpList_append_own _ hgd s x 48 ho B 28 i0 _ 1 24 Tryz.underlying48 hi0 he.1 he.2.1 he.2.2 rfl (by decide) v n vs hs hown ⟨g, 0, none⟩ 1 1 [y] hx rfl ?_ ?_ (by unfold maxLen; omega) (by omega) hbase ?_
 ·intro j z hj
  match j, hj with
  | 0, hj =>
   simp at hj
   rw [Addr.add_lit, ← hj]
   exact hc
  | j + 1, hj => simp at hj
 ·intro z hz
  simp at hz
  subst hz
  exact hy
 ·intro v' w' h1 h2 _
  exact h v' w' h1 h2
theorem kind_ne {w : World} {B B' n : Nat} {v rv : Value} {l : List UInt8} {vs : List Value} (h : BRow w B v l) (hr : w.ownsRow B' 28 1 rv n vs) : ∀ g, v.ownBlock = some g → rv.ownBlock ≠ some g := by
 intro g hg e
 obtain ⟨_, ⟨rfl, _⟩ | ⟨g1, cap, cur, rfl, hB, hb, _⟩⟩ := h
 ·simp [Value.ownBlock] at hg
 ·obtain ⟨_, ⟨rfl, _⟩ | ⟨g2, cap2, cur2, rfl, hB2, hb2, _⟩⟩ := hr
  ·simp [Value.ownBlock] at e
  ·simp [Value.ownBlock] at hg e
   rw [hg] at hb
   rw [e, hb] at hb2
   injection hb2 with hb2
   injection hb2 with _ hb2
   exact absurd hb2 (by decide)
theorem LoadIn.more {w3 w7 wa w8 w9 : World} {jb d : Nat} {J : Jn} {sv rv v8 y : Value} {vs : List Value} {l : List UInt8} (h : LoadIn w3 w7 jb d J sv rv vs) (hr : BRow w7 w3.heap.size y l) (hj : jb < w3.heap.size) (hga : w7.grownBy wa none) (ho8 : w8.ownsRow w3.heap.size 28 1 v8 (J.recs.length + 1) (vs ++ [y])) (hg8 : wa.grownBy w8 rv.ownBlock) (hw9 : w9 = w8.setCell ⟨jb, 7, none⟩ v8) (hvs : vs.length = J.recs.length) :
  LoadIn w3 w9 jb d { J with recs := J.recs ++ [l] } sv v8 (vs ++ [y]) ∧ w7.grownBy w8 rv.ownBlock := by
 subst hw9
 have hg : w7.grownBy w8 rv.ownBlock := ⟨hg8.os.trans hga.os, hg8.tape.trans hga.tape, hg8.output.trans hga.output, Nat.le_trans hga.size hg8.size, fun k hk hn => (hg8.block k (Nat.lt_of_lt_of_le hk hga.size) hn).trans (hga.block k hk (by simp))⟩
 have hjr : some jb ≠ rv.ownBlock := fun e => by have := (h.rows.lt jb e.symm).1; omega
 have hb8 : JBlk w8 jb d J sv rv := (hg.block jb h.blk.lt hjr).trans h.blk
 have hset := grown_set w8 jb 7 v8
 have keep : ∀ {B : Nat} {v : Value} {l : List UInt8}, BRow w7 B v l → w3.heap.size ≤ B → BRow (w8.setCell ⟨jb, 7, none⟩ v8) B v l := fun hv hB => by
  refine World.ownsRow.kept (World.ownsRow.kept hv hg ?_) hset ?_
  ·cases e : Value.ownBlock _ with
   | none => exact .inl rfl
   | some g => exact .inr (fun e2 => kind_ne hv h.rows g e e2.symm)
  ·cases e : Value.ownBlock _ with
   | none => exact .inl rfl
   | some g => exact .inr (fun e2 => by have := hv.own g e; cases e2; omega)
 refine ⟨⟨?_, keep h.st (Nat.le_refl _), ?_, ?_, ?_⟩, hg⟩
 ·exact heap_setCell_same w8 jb 7 _ _ v8 hb8
 ·show World.ownsRow _ _ _ _ _ (J.recs ++ [l]).length _
  rw [List.length_append]
  refine World.ownsRow.kept ho8 hset ?_
  cases e : v8.ownBlock with
  | none => exact .inl rfl
  | some g => exact .inr (fun e2 => by have := (ho8.lt g e).1; cases e2; omega)
 ·intro i l2 hi
  show ∃ v, (vs ++ [y])[i]? = some v ∧ _
  by_cases hlt : i < J.recs.length
  ·have hi2 : J.recs[i]? = some l2 := by
    have h1 : (J.recs ++ [l])[i]? = some l2 := hi
    rwa [List.getElem?_append_left hlt] at h1
   obtain ⟨v, hv, hrr⟩ := h.recs i l2 hi2
   exact ⟨v, by rw [List.getElem?_append_left (by omega)]; exact hv, keep hrr (Nat.le_refl _)⟩
  ·have h1 : (J.recs ++ [l])[i]? = some l2 := hi
   rw [List.getElem?_append_right (by omega)] at h1
   obtain ⟨e1, e2⟩ : i - J.recs.length = 0 ∧ l = l2 := by
    cases hx : i - J.recs.length with
    | zero => rw [hx] at h1; exact ⟨rfl, by simpa using h1⟩
    | succ x => rw [hx] at h1; simp at h1
   refine ⟨y, ?_, e2 ▸ keep hr (Nat.le_refl _)⟩
   rw [List.getElem?_append_right (by omega), hvs, e1]
   rfl
 ·exact Nat.le_trans h.size (Nat.le_trans hg.size hset.size)
theorem LoadIn.done {w3 w w' : World} {jb d : Nat} {J : Jn} {sv rv : Value} {vs : List Value} (h : LoadIn w3 w' jb d J sv rv vs) (hw : w.heap.size ≤ w3.heap.size) (hj : jb < w'.heap.size) (hvs : vs.length = J.recs.length) : JAt w' (fun b => b = jb ∨ (w.heap.size ≤ b ∧ b < w'.heap.size)) jb d J := by
 refine ⟨sv, rv, vs, h.blk, brow_less h.st (Nat.zero_le _), row_less h.rows (Nat.zero_le _), fun i l hi => ?_, ⟨.inl rfl, fun g hg => .inr ?_, fun g hg => .inr ?_, fun v hv g hg => .inr ?_⟩, ?_⟩
 ·obtain ⟨v, hv, hr⟩ := h.recs i l hi
  exact ⟨v, hv, brow_less hr (Nat.zero_le _)⟩
 ·have h1 := World.ownsRow.lt h.st g hg
  exact ⟨by omega, h1.2⟩
 ·have h1 := h.rows.lt g hg
  exact ⟨by omega, h1.2⟩
 ·obtain ⟨i, hi⟩ := List.mem_iff_getElem?.1 hv
  have hlt : i < J.recs.length := by rw [← hvs]; exact (List.getElem?_eq_some_iff.1 hi).1
  obtain ⟨v2, hv2, hr⟩ := h.recs i _ (List.getElem?_eq_getElem hlt)
  rw [hi] at hv2
  cases hv2
  have h1 := World.ownsRow.lt hr g hg
  exact ⟨by omega, h1.2⟩
 ·rintro b (rfl | hb)
  ·exact hj
  ·exact hb.2
theorem load_yes (Sd : Nat → Prop) (d : Nat) (D : Dsk) (jb a g o f n M u : Nat) (fs : Nat → List UInt8) (ls : List (List UInt8)) (w : World) (h : DiskAt w Sd d D) (hlt : ∀ b, Sd b → b < w.heap.size) (hjs : ¬ Sd jb) (hj : JBlk w jb d ⟨a, 0, 0, 0, 0, [], [], 0⟩ (.slice none 0 0) (.slice none 0 0)) (ho : D.off = false) (ha : a ≤ 1) (h2 : 2 ≤ D.n)
  (hh : D.now (a * (D.n / 2)) = headB g o f n) (hg : 1 ≤ g ∧ g ≤ 4611686018427387904) (hop : 1 ≤ o ∧ o ≤ 4611686018427387904) (hf : 1 ≤ f ∧ f + ls.length ≤ 4611686018427387904) (hn : n ≤ 1048576) (hst : Wy D.now (a * (D.n / 2)) (D.n / 2) 0 67 0 g M fs) (hlen : (joined fs M).length = n) (hrec : Recs D.now (a * (D.n / 2)) (D.n / 2) o f M 0 0 ls u) :
  Calls Tryz.prog 25 #[.pointer (some ⟨jb, 0, none⟩)] w fun e w' => e = .returned (.bool true) ∧ JAt w' (fun b => b = jb ∨ (w.heap.size ≤ b ∧ b < w'.heap.size)) jb d ⟨a, g, o, f, n, joined fs M, ls, u⟩ ∧ Off (fun b => b = jb) w w' := by
 have hhalf : a * (D.n / 2) < D.n := by
  obtain h1 | h1 : a = 0 ∨ a = 1 := by omega
  ·rw [h1]; omega
  ·rw [h1]; omega
 have HD := Lib.hid h
 have HLT := Lib.hid hlt
 have HJS := Lib.hid hjs
 have HJ := Lib.hid hj
 have HO := Lib.hid ho
 have HA := Lib.hid ha
 have HH := Lib.hid hh
 have HGO := Lib.hid (And.intro hg (And.intro hop (And.intro hf hn)))
 have HST := Lib.hid hst
 have HLEN := Lib.hid hlen
 have HREC := Lib.hid hrec
 have HHALF := Lib.hid hhalf
 clear h hlt hjs hj ho ha hh hg hop hf hn hst hlen hrec hhalf h2
 go_enter Tryz.func25, Tryz.ntmps25
 go_wp2_with fail
 refine (sector_at Sd d D jb _ _ _ 0 w HD.out HJ.out (by have := HHALF.out; exact this) HO.out).mono ?_
 rintro e w1 ⟨gb, rfl, hgb, hgb2, hrb, hg1⟩
 have hrb' : w1.rangeAt gb 0 (u8s (headB g o f n)) := by
  have := hrb
  rw [show a * (D.n / 2) + 0 = a * (D.n / 2) from rfl, HH.out] at this
  exact this
 have HG1 := Lib.hid hg1
 clear hrb hg1
 go_wp2_with fail
 refine (headOf_head gb 128 g o f n HGO.out.1 HGO.out.2.1 ⟨HGO.out.2.2.1.1, by have := HGO.out.2.2.1.2; omega⟩ HGO.out.2.2.2 w1 hrb' hgb2 (by decide) (by decide)).mono ?_
 rintro e w2 ⟨rfl, hb2⟩
 have HG2 : Hid (w.grownBy w2 none) := HG1.out.andThen (Below.to_grown hb2) (fun _ h => .inr h)
 clear hb2 hrb'
 go_upto_region 4 with fail
 have hgA := World.grownBy_alloc w2 (.cells #[.int .i64 (g : Int), .int .i64 (o : Int), .int .i64 (f : Int), .int .i64 (n : Int)] 47) none
 have hcA := (MapKept.heap_alloc w2 (.cells #[.int .i64 (g : Int), .int .i64 (o : Int), .int .i64 (f : Int), .int .i64 (n : Int)] 47)).1
 have hsA : (w2.alloc (.cells #[.int .i64 (g : Int), .int .i64 (o : Int), .int .i64 (f : Int), .int .i64 (n : Int)] 47)).heap.size = w2.heap.size + 1 := World.size_alloc ..
 obtain ⟨w3, hw3⟩ : ∃ w3, w3 = w2.alloc (.cells #[.int .i64 (g : Int), .int .i64 (o : Int), .int .i64 (f : Int), .int .i64 (n : Int)] 47) := ⟨_, rfl⟩
 obtain ⟨hb, hhb⟩ : ∃ hb, hb = w2.heap.size := ⟨_, rfl⟩
 rw [← hw3, ← hhb] at hcA hsA
 rw [← hw3] at hgA ⊢
 rw [← hhb]
 have HG3 : Hid (w.grownBy w3 none) := HG2.out.andThen hgA (fun _ h => .inr h)
 have HHB : Hid (w.heap.size ≤ hb ∧ hb < w3.heap.size) := by
  have h1 := HG2.out.size
  exact ⟨by omega, by omega⟩
 have HCA := Lib.hid hcA
 have HD3 := Lib.hid (HD.out.grown HG3.out)
 have HJ3 := Lib.hid (HJ.out.grown HG3.out)
 have HJL := Lib.hid HJ.out.lt
 clear hgA hcA hsA hw3 hhb
 go_wp2_with fail
 refine (whole_y (c := 67) (k := 0) HST.out w3 HD3.out HJ3.out HO.out HA.out).mono ?_
 rintro e w4 ⟨v, rfl, hr4, hj4, ho4⟩
 obtain ⟨A4, cap4, rfl, hc4, hm4⟩ := row_len hr4
 have e4 : (joined fs M).length = n := HLEN.out
 have HR4 := Lib.hid hr4
 rw [e4]
 have HO4 := Lib.hid ho4
 have HJ4 := Lib.hid hj4
 have hh4 : w4.heap[hb]? = some (.cells #[.int .i64 (g : Int), .int .i64 (o : Int), .int .i64 (f : Int), .int .i64 (n : Int)] 47) := (ho4.block hb HHB.out.2 (fun e => by have h1 := HHB.out.1; have h2 := HJL.out; omega)).trans HCA.out
 have HH4 := Lib.hid hh4
 have b0 : w4.cell? ⟨hb, 0, none⟩ = some (.int .i64 (g : Int)) := cell_blk hh4 0
 have b1 : w4.cell? ⟨hb, 1, none⟩ = some (.int .i64 (o : Int)) := cell_blk hh4 1
 have b2 : w4.cell? ⟨hb, 2, none⟩ = some (.int .i64 (f : Int)) := cell_blk hh4 2
 have b3 : w4.cell? ⟨hb, 3, none⟩ = some (.int .i64 (n : Int)) := cell_blk hh4 3
 have k2 : w4.cell? ⟨jb, 2, none⟩ = some (.int .i64 0) := hj4.cell 2
 have k3 : w4.cell? ⟨jb, 3, none⟩ = some (.int .i64 0) := hj4.cell 3
 have k4 : w4.cell? ⟨jb, 4, none⟩ = some (.int .i64 0) := hj4.cell 4
 have k5 : w4.cell? ⟨jb, 5, none⟩ = some (.int .i64 0) := hj4.cell 5
 have k6 : w4.cell? ⟨jb, 6, none⟩ = some (.slice none 0 0) := hj4.cell 6
 have kf : ∀ j, w4.frozen? ⟨jb, j, none⟩ = false := hj4.free
 clear hr4 hj4 ho4 hh4 e4
 go_upto_region 8 with fail
 have f2 := heap_setCell_same w4 jb 2 _ _ (.int .i64 (g : Int)) HJ4.out
 have f3 := heap_setCell_same _ jb 3 _ _ (.int .i64 (o : Int)) f2
 have f4 := heap_setCell_same _ jb 4 _ _ (.int .i64 (f : Int)) f3
 have f5 := heap_setCell_same _ jb 5 _ _ (.int .i64 (n : Int)) f4
 have f6 := heap_setCell_same _ jb 6 _ _ (.slice A4 n cap4) f5
 obtain ⟨w5, hw5⟩ : ∃ w5, w5 = ((((w4.setCell ⟨jb, 2, none⟩ (.int .i64 (g : Int))).setCell ⟨jb, 3, none⟩ (.int .i64 (o : Int))).setCell ⟨jb, 4, none⟩ (.int .i64 (f : Int))).setCell ⟨jb, 5, none⟩ (.int .i64 (n : Int))).setCell ⟨jb, 6, none⟩ (.slice A4 n cap4) := ⟨_, rfl⟩
 have hg5 : w4.grownBy w5 (some jb) := by
  rw [hw5]
  exact grown_trans (grown_trans (grown_trans (grown_trans (grown_set _ _ _ _) (grown_set _ _ _ _)) (grown_set _ _ _ _)) (grown_set _ _ _ _)) (grown_set _ _ _ _)
 rw [← hw5] at f6 ⊢
 have HJ5 : Hid (JBlk w5 jb d ⟨a, g, o, f, n, joined fs M, [], M⟩ (.slice A4 n cap4) (.slice none 0 0)) := by
  have e0 : 0 + M = M := Nat.zero_add M
  have : w5.heap[jb]? = _ := f6
  rw [e0] at this
  exact this
 have HO5 : Hid (Off (fun b => b = jb) w w5) := ((Off.of_grown HG3.out (by simp)).trans HO4.out).trans (Off.of_grown hg5 (fun k e => by cases e; rfl))
 have hgr4 : ∀ b, b ≠ jb → w5.heap[b]? = w4.heap[b]? ∨ w4.heap.size ≤ b := fun b hb => by
  by_cases h : b < w4.heap.size
  ·exact .inl (hg5.block b h (fun e => hb (Option.some.inj e)))
  ·exact .inr (by omega)
 have HR5 : Hid (BRow w5 w3.heap.size (.slice A4 n cap4) (joined fs M)) := by
  have hr := HR4.out
  rw [HLEN.out] at hr
  exact Sec.row_off hr (Off.of_grown hg5 (S := fun b => b = jb) (fun k e => by cases e; rfl)) (fun x hx e => by
   have h1 := hr.own x hx
   have h2 := HJL.out
   have h3 := HHB.out
   omega)
 have HH5 : Hid (w5.heap[hb]? = some (.cells #[.int .i64 (g : Int), .int .i64 (o : Int), .int .i64 (f : Int), .int .i64 (n : Int)] 47)) := (hg5.block hb (Array.getElem?_eq_some_iff.1 HH4.out).1 (fun e => by cases e; have h1 := HHB.out.1; have h2 := HJL.out; omega)).trans HH4.out
 have HSZ5 : Hid (w3.heap.size ≤ w5.heap.size) := Nat.le_trans HO4.out.size hg5.size
 clear f2 f3 f4 f5 f6 hw5 hg5 hgr4 b0 b1 b2 b3 k2 k3 k4 k5 k6 kf HR4 HJ4 HH4 HO4
 have HS35 := HSZ5
 go_wp2_with fail
 go_loopw [7] (fun lv wr => ∃ (last k used : Nat) (dn lr : List (List UInt8)) (rv : Value) (vs : List Value), lv = .int .i64 (last : Int) ∧ Recs D.now (a * (D.n / 2)) (D.n / 2) o f used k last lr u ∧ dn.length = k ∧ k ≤ used ∧ ls = dn ++ lr ∧ LoadIn w3 wr jb d ⟨a, g, o, f, n, joined fs M, dn, used⟩ (.slice A4 n cap4) rv vs ∧ wr.heap[hb]? = some (.cells #[.int .i64 (g : Int), .int .i64 (o : Int), .int .i64 (f : Int), .int .i64 (n : Int)] 47) ∧ Off (fun b => b = jb) w wr) (fun _ wr => D.n / 2 - (intOf ((wr.cell? ⟨jb, 8, none⟩).getD undef)).toNat)
 case atStart => exact ⟨0, 0, M, [], ls, .slice none 0 0, [], rfl, HREC.out, rfl, Nat.zero_le _, rfl, ⟨HJ5.out, HR5.out, ⟨rfl, .inl ⟨rfl, rfl⟩⟩, fun i l h => by simp at h, HS35.out⟩, HH5.out, HO5.out⟩
 case round =>
  clear HJ5 HR5 HH5 HO5 HS35 HSZ5
  obtain ⟨last, k, used, dn, lr, rv, vs, rfl, hrec, hdn, hku, hls, hin, hhd, hoff⟩ := hrel
  obtain ⟨Ar, capr, hrv, hcr, hmr⟩ := row_len hin.rows
  have HIN := Lib.hid hin
  have HRC := Lib.hid hrec
  have HDN := Lib.hid hdn
  have HLS := Lib.hid hls
  have HKU := Lib.hid hku
  have HHD := Lib.hid hhd
  have HOFF := Lib.hid hoff
  have HRV := Lib.hid hrv
  have hjw := hin.blk
  have j8 : wr.cell? ⟨jb, 8, none⟩ = some (.int .i64 (used : Int)) := hjw.cell 8
  have HDW : Hid (DiskAt wr Sd d D) := HD.out.off hoff (fun x _ hs e => HJS.out (e ▸ hs))
  have HNX : Hid (f + dn.length < 9223372036854775808) := by
   have h1 := HGO.out.2.2.1.2
   have h3 : ls.length = dn.length + lr.length := by rw [hls, List.length_append]
   show _ < _
   omega
  clear hrec hdn hku hls hin hhd hoff hrv hjw
  go_wp2_with fail
  refine (next_blk jb d _ _ rv Ar dn.length capr HRV.out HNX.out wr HIN.out.blk).mono ?_
  rintro e wq ⟨rfl, m, rfl⟩
  go_wp2_with fail
  rw [← Int.natCast_add]
  have HDM : Hid (DiskAt (wr.drewN m) Sd d D) := HDW.out.grown ⟨rfl, rfl, rfl, Nat.le_refl _, fun _ _ _ => rfl⟩
  have HBM : Hid (JBlk (wr.drewN m) jb d ⟨a, g, o, f, n, joined fs M, dn, used⟩ (.slice A4 n cap4) rv) := HIN.out.blk
  have hom : Off (fun b => b = jb) wr (wr.drewN m) := ⟨rfl, rfl, rfl, Nat.le_refl _, fun _ _ _ => rfl⟩
  have HOM := Lib.hid hom
  have HJ3L : Hid (jb < w3.heap.size) := Nat.lt_of_lt_of_le HJL.out HG3.out.size
  have HVL : Hid (vs.length = dn.length) := by have h1 : vs.length = dn.length * 1 := HIN.out.rows.1; show _ = _; omega
  clear hom
  have FIN : Hid (∀ v : World, JBlk v jb d ⟨a, g, o, f, n, joined fs M, dn, used⟩ (.slice A4 n cap4) rv → Off (fun b => b = jb) wr v → lr = [] → u = used → JAt v (fun b => b = jb ∨ (w.heap.size ≤ b ∧ b < v.heap.size)) jb d ⟨a, g, o, f, n, joined fs M, ls, u⟩ ∧ Off (fun b => b = jb) w v) := fun v hb ho h1 h2 => by
   have e1 : ls = dn := by rw [HLS.out, h1, List.append_nil]
   rw [e1, h2]
   exact ⟨(HIN.out.turn ho HJ3L.out hb rfl rfl).done HG3.out.size hb.lt HVL.out, HOFF.out.trans ho⟩
  rcases HRC.out.inv with ⟨hl0, hu0, hwn | ⟨s, M', f', hwy, hbad⟩⟩ | ⟨s, M', f', lr', hl1, hwy, hs1, hs2, hrec'⟩
  ·rw [← HDN.out] at hwn
   refine (whole_n (c := 82) (k := f + dn.length) hwn (wr.drewN m) HDM.out HBM.out HO.out HA.out).mono ?_
   rintro e w7 ⟨v, rfl, hj7, ho7⟩
   have k8 : w7.cell? ⟨jb, 8, none⟩ = some (.int .i64 (used : Int)) := hj7.cell 8
   have kf : w7.frozen? ⟨jb, 8, none⟩ = false := hj7.free 8
   have HU7 := Lib.hid (used_set (x := used) hj7)
   have HO7 := Lib.hid (HOM.out.trans ho7)
   have HL0 := Lib.hid (And.intro hl0 hu0)
   clear hj7 ho7 hl0 hu0 hwn j8
   go_wp2_with fail
   go_ret
   exact ⟨rfl, FIN.out _ HU7.out.1 (HO7.out.trans HU7.out.2) HL0.out.1 HL0.out.2⟩
  ·rw [← HDN.out] at hwy
   refine (whole_y (c := 82) (k := f + dn.length) hwy (wr.drewN m) HDM.out HBM.out HO.out HA.out).mono ?_
   rintro e w7 ⟨v, rfl, hr7, hj7, ho7⟩
   obtain ⟨A7, cap7, rfl, _, _⟩ := row_len hr7
   have hh7 : w7.heap[hb]? = some (.cells #[.int .i64 (g : Int), .int .i64 (o : Int), .int .i64 (f : Int), .int .i64 (n : Int)] 47) := (ho7.block hb (Array.getElem?_eq_some_iff.1 HHD.out).1 (fun e => by have h1 := HHB.out.1; have h2 := HJL.out; omega)).trans HHD.out
   have b1 : w7.cell? ⟨hb, 1, none⟩ = some (.int .i64 (o : Int)) := cell_blk hh7 1
   have k8 : w7.cell? ⟨jb, 8, none⟩ = some (.int .i64 ((used + M' : Nat) : Int)) := hj7.cell 8
   have kf : w7.frozen? ⟨jb, 8, none⟩ = false := hj7.free 8
   have HU7 : Hid (JBlk (w7.setCell ⟨jb, 8, none⟩ (.int .i64 (used : Int))) jb d ⟨a, g, o, f, n, joined fs M, dn, used⟩ (.slice A4 n cap4) rv ∧ Off (fun b => b = jb) w7 (w7.setCell ⟨jb, 8, none⟩ (.int .i64 (used : Int)))) := used_set (x := used) hj7
   have HO7 := Lib.hid (HOM.out.trans ho7)
   have HL0 := Lib.hid (And.intro hl0 hu0)
   clear hj7 ho7 hl0 hu0 hwy j8 hr7 hh7
   by_cases hsl : s < last
   ·have d1 : decide ((s : Int) < (last : Int)) = true := by simp; omega
    have d2 : decide (s < last) = true := by simp; omega
    clear hbad hsl
    go_wp2_with fail
    go_ret
    exact ⟨rfl, FIN.out _ HU7.out.1 (HO7.out.trans HU7.out.2) HL0.out.1 HL0.out.2⟩
   ·have hso : o < s := by rcases hbad with h | h; exact absurd h hsl; exact h
    have d1 : decide ((s : Int) < (last : Int)) = false := by simp; omega
    have d2 : decide (s < last) = false := by simp; omega
    have d3 : decide ((o : Int) < (s : Int)) = true := by simp; omega
    have d4 : decide (o < s) = true := by simp; omega
    clear hbad hsl hso
    go_wp2_with fail
    go_ret
    exact ⟨rfl, FIN.out _ HU7.out.1 (HO7.out.trans HU7.out.2) HL0.out.1 HL0.out.2⟩
  ·rw [← HDN.out] at hwy
   refine (whole_y (c := 82) (k := f + dn.length) hwy (wr.drewN m) HDM.out HBM.out HO.out HA.out).mono ?_
   rintro e w7 ⟨v, rfl, hr7, hj7, ho7⟩
   obtain ⟨A7, cap7, rfl, _, _⟩ := row_len hr7
   have hh7 : w7.heap[hb]? = some (.cells #[.int .i64 (g : Int), .int .i64 (o : Int), .int .i64 (f : Int), .int .i64 (n : Int)] 47) := (ho7.block hb (Array.getElem?_eq_some_iff.1 HHD.out).1 (fun e => by have h1 := HHB.out.1; have h2 := HJL.out; omega)).trans HHD.out
   have b1 : w7.cell? ⟨hb, 1, none⟩ = some (.int .i64 (o : Int)) := cell_blk hh7 1
   have k7 : w7.cell? ⟨jb, 7, none⟩ = some rv := hj7.cell 7
   have kf : w7.frozen? ⟨jb, 7, none⟩ = false := hj7.free 7
   have d1 : decide ((s : Int) < (last : Int)) = false := by simp; omega
   have d2 : decide (s < last) = false := by simp; omega
   have d3 : decide ((o : Int) < (s : Int)) = false := by simp; omega
   have d4 : decide (o < s) = false := by simp; omega
   have HR7 := Lib.hid hr7
   have HJ7 := Lib.hid hj7
   have HO7 := Lib.hid (HOM.out.trans ho7)
   have HHD7 := Lib.hid hh7
   have HWY := Lib.hid hwy
   have HL1 := Lib.hid hl1
   have HREC2 := Lib.hid hrec'
   clear hj7 ho7 hl1 hwy j8 hr7 hh7 hs1 hs2 hrec'
   have hrv2 : rv = .slice Ar dn.length capr := HRV.out
   subst hrv2
   have HIN7 : Hid (LoadIn w3 w7 jb d ⟨a, g, o, f, n, joined fs M, dn, used + M'⟩ (.slice A4 n cap4) (.slice Ar dn.length capr) vs) := HIN.out.turn HO7.out HJ3L.out HJ7.out rfl rfl
   have HY : Hid (BRow w7 w3.heap.size (.slice A7 (joined f' M').length cap7) (joined f' M')) := brow_less HR7.out HIN.out.size
   have HGA := Lib.hid (World.grownBy_alloc w7 (.cells #[.slice A7 (joined f' M').length cap7] 28) none)
   have HROWS : Hid ((w7.alloc (.cells #[.slice A7 (joined f' M').length cap7] 28)).ownsRow w3.heap.size 28 1 (.slice Ar dn.length capr) dn.length vs) := World.ownsRow.alloc HIN7.out.rows _
   have HCY : Hid ((w7.alloc (.cells #[.slice A7 (joined f' M').length cap7] 28)).cell? ⟨w7.heap.size, 0, none⟩ = some (.slice A7 (joined f' M').length cap7)) := cell_blk (MapKept.heap_alloc w7 _).1 0
   have HFEW : Hid (dn.length < 100000000) := by
    show _ < _
    have h1 := HKU.out
    have h2 := HDN.out
    have h3 : used + M' ≤ D.n / 2 - 1 := HWY.out.room
    have h4 := HD.out.1
    omega
   have HBS : Hid (w3.heap.size ≤ (w7.alloc (.cells #[.slice A7 (joined f' M').length cap7] 28)).heap.size) := Nat.le_trans HIN7.out.size HGA.out.size
   have HJB7 : Hid (∀ w8 : World, (w7.alloc (.cells #[.slice A7 (joined f' M').length cap7] 28)).grownBy w8 (Value.slice Ar dn.length capr).ownBlock → JBlk w8 jb d ⟨a, g, o, f, n, joined fs M, dn, used + M'⟩ (.slice A4 n cap4) (.slice Ar dn.length capr)) := fun w8 h8 => (h8.block jb (Nat.lt_of_lt_of_le HJ7.out.lt HGA.out.size) (fun e => by have := (HIN7.out.rows.lt jb e.symm).1; have := HJ3L.out; omega)).trans (HJ7.out.grown HGA.out)
   have HQ7 : Hid (∀ w8 : World, (w7.alloc (.cells #[.slice A7 (joined f' M').length cap7] 28)).grownBy w8 (Value.slice Ar dn.length capr).ownBlock → w8.cell? ⟨jb, 7, none⟩ = some (.slice Ar dn.length capr) ∧ w8.frozen? ⟨jb, 7, none⟩ = false) := fun w8 h8 => ⟨(HJB7.out w8 h8).cell 7, (HJB7.out w8 h8).free 7⟩
   go_wp2_with (first
    | (with_reducible show Go.wpList _ _ _ ((⟨some 86, _, _, _, _, _⟩ : Oper) :: _) _ _; refine wpList_append_rec rfl (.tmp 83) (.tmp 85) rfl w3.heap.size (.slice Ar dn.length capr) dn.length vs (.slice A7 (joined f' M').length cap7) rfl rfl HROWS.out w7.heap.size rfl HCY.out HFEW.out HBS.out ?_; intro v8 w8 ho8 hg8; obtain ⟨A8, cap8, rfl, _, _⟩ := row_len ho8; have HO8 := Lib.hid ho8; have HG8 := Lib.hid hg8; have q7 := (HQ7.out w8 hg8).1; have qf := (HQ7.out w8 hg8).2; clear ho8 hg8; go_frame)
    | fail)
   obtain ⟨hmore, hg78⟩ := HIN7.out.more HY.out HJ3L.out HGA.out HO8.out HG8.out rfl HVL.out
   go_roundw
   case rel =>
    refine ⟨s, k + 1, used + M', dn ++ [joined f' M'], lr', _, _, rfl, HREC2.out, by rw [List.length_append, HDN.out]; rfl, by have h1 := HKU.out; have h2 := HWY.out.one; omega, by rw [HLS.out, HL1.out, List.append_assoc]; rfl, hmore, ?_, ?_⟩
    ·rw [heap_setCell_other w8 ⟨jb, 7, none⟩ hb _ (fun e => by have h1 := HHB.out.1; have h2 := HJL.out; have h3 : hb = jb := e; omega)]
     refine (hg78.block hb (Array.getElem?_eq_some_iff.1 HHD7.out).1 (fun e => ?_)).trans HHD7.out
     obtain ⟨_, ⟨e2, _⟩ | ⟨g1, cap1, cur, e2, hB, hbb, _⟩⟩ := id HIN7.out.rows
     ·rw [e2] at e
      simp [Value.ownBlock] at e
     ·rw [e2] at e
      simp [Value.ownBlock] at e
      rw [← e, HHD7.out] at hbb
      injection hbb with hbb
      injection hbb with _ hbb
      exact absurd hbb (by decide)
    ·have h1 : Off (fun b => b = jb) w w7 := HOFF.out.trans HO7.out
     refine ⟨hg78.os.trans h1.os, hg78.tape.trans h1.tape, hg78.output.trans h1.output, Nat.le_trans h1.size (Nat.le_trans hg78.size (by simp)), fun x hx hs => ?_⟩
     rw [heap_setCell_other w8 ⟨jb, 7, none⟩ x _ hs]
     refine (hg78.block x (Nat.lt_of_lt_of_le hx h1.size) (fun e => ?_)).trans (h1.block x hx hs)
     have h2 := (HIN7.out.rows.lt x e.symm).1
     have h3 := HG3.out.size
     omega
   case measure =>
    have e1 : (w8.setCell ⟨jb, 7, none⟩ (.slice A8 (dn.length + 1) cap8)).cell? ⟨jb, 8, none⟩ = some (.int .i64 ((used + M' : Nat) : Int)) := hmore.blk.cell 8
    have e2 : wr.cell? ⟨jb, 8, none⟩ = some (.int .i64 ((used : Nat) : Int)) := HIN.out.blk.cell 8
    rw [e1, e2]
    show D.n / 2 - ((used + M' : Nat) : Int).toNat < D.n / 2 - ((used : Nat) : Int).toNat
    have h1 := HWY.out.room
    have h2 := HWY.out.one
    have h3 : used + M' ≤ D.n / 2 - 1 := h1
    omega
end Go.Proofs.YtgdedgfohjplmaaGreat.Jnl
namespace Go.Proofs.YtgdedgfohjplmaaGreat.Jnl
open Go.RowKit Go.Maps Go.Shelf Sec
theorem count_zeros (g g2 n cap cap2 : Nat) (l : List UInt8) (w : World) (hn : l.length = n) (hr : w.rangeAt g 0 (u8s l)) (hz : w.cell? ⟨g2, 0, none⟩ = some (.int .u8 0)) :
  Calls Tryz.prog 23 #[.slice (some ⟨g, 0, none⟩) n cap, .slice (some ⟨g2, 0, none⟩) 1 cap2] w fun e w' => e = .returned (.int .i64 ((l.count 0 : Nat) : Int)) ∧ w' = w := by
 have hx : (l.map fun c => (c.toNat : Int)).length = n := by rw [List.length_map, hn]
 have hc : ∀ i, i < n → w.cell? ⟨g, 0 + i, none⟩ = some (.int .u8 ((l.map fun c => (c.toNat : Int)).getD i 0)) := fun i hi => by
  have h1 : l[i]? = some l[i] := List.getElem?_eq_getElem (by omega)
  refine (hr i (.int .u8 (l[i].toNat : Int)) (by simp [u8s, h1])).trans ?_
  simp [h1]
 have HRUN := Lib.hid (Lib.run_countSlice (P := Tryz.prog) w g 0 n cap _ hx hc 0)
 have HE : Hid (Lib.countByte (Lib.bytesOf (l.map fun c => (c.toNat : Int))) (0 : Int).toNat.toUInt8 = l.count 0) := by
  show _ = _
  have : Lib.bytesOf (l.map fun c => (c.toNat : Int)) = l := by
   unfold Lib.bytesOf
   rw [List.map_map]
   conv => rhs; rw [← List.map_id l]
   refine List.map_congr_left fun c _ => ?_
   simp
  rw [this]
  rfl
 clear hx hc hr hn
 go_enter Tryz.func23, Tryz.ntmps23
 go_wp2
 rw [run_callFunc_extern Tryz.func56 (by kernel_rfl) (by kernel_rfl) (by kernel_rfl) (e := Extern.BytealgCount.count) (by kernel_rfl), HRUN.out]
 simp only [Result.andThen]
 rw [Oper.upon_value]
 go_wp2
 go_ret
 exact ⟨by rw [← HE.out]; rfl, rfl⟩
end Go.Proofs.YtgdedgfohjplmaaGreat.Jnl
namespace Go.Proofs.YtgdedgfohjplmaaGreat.Jnl
open Go.RowKit Go.Maps Sec
def Clean (now : Nat → List UInt8) (base half : Nat) : Prop := ∀ x, x < half - 1 → NoPart (now (base + 1 + x)) ∨ ∃ c s k i n l, IsPart (now (base + 1 + x)) c s k i n l
section
variable {now : Nat → List UInt8} {base half : Nat}
theorem whole_exists (hc : Clean now base half) (used : Nat) (c : UInt8) (k : Nat) (hu : used ≤ half - 1) : (∃ s M f, Wy now base half used c k s M f) ∨ Wn now base half used c k := by
 by_cases h0 : half - 1 ≤ used
 ·exact .inr ⟨0, 1, 0, fun _ => [], fun i hi => by omega, by decide, by omega, .inl (by omega)⟩
 rcases hc used (by omega) with hn | ⟨c', s', k', i', n', l', hp⟩
 ·exact .inr ⟨0, 1, 0, fun _ => [], fun i hi => by omega, by decide, by omega, .inr (.inl hn)⟩
 by_cases hm : c' = c ∧ k' = k ∧ i' = 0
 ·obtain ⟨rfl, rfl, rfl⟩ := hm
  -- the run, as long as it goes
  have step : ∀ m, m ≤ n' → (∃ f, Run now (base + 1 + used) c' s' k' n' f m ∧ used + m ≤ half - 1) ∨ Wn now base half used c' k' := by
   intro m
   induction m with
   | zero => exact fun _ => .inl ⟨fun _ => [], fun i hi => by omega, by omega⟩
   | succ m ih =>
    intro hle
    rcases ih (by omega) with ⟨f, hr, hroom⟩ | hw
    ·by_cases hend : half - 1 ≤ used + m
     ·exact .inr ⟨s', n', m, f, hr, by omega, hroom, .inl hend⟩
     ·rcases hc (used + m) (by omega) with hn | ⟨c2, s2, k2, i2, n2, l2, hp2⟩
      ·exact .inr ⟨s', n', m, f, hr, by omega, hroom, .inr (.inl (by rw [show base + 1 + used + m = base + 1 + (used + m) by omega]; exact hn))⟩
      ·by_cases hq : c2 = c' ∧ k2 = k' ∧ i2 = m ∧ s2 = s' ∧ n2 = n'
       ·obtain ⟨rfl, rfl, rfl, rfl, rfl⟩ := hq
        refine .inl ⟨fun i => if i = i2 then l2 else f i, fun i hi => ?_, by omega⟩
        by_cases he : i = i2
        ·show IsPart _ _ _ _ _ _ (if i = i2 then l2 else f i)
         rw [if_pos he, he, show base + 1 + used + i2 = base + 1 + (used + i2) by omega]
         exact hp2
        ·show IsPart _ _ _ _ _ _ (if i = i2 then l2 else f i)
         rw [if_neg he]
         exact hr i (by omega)
       ·by_cases hm0 : m = 0
        ·subst hm0
         by_cases hq2 : c2 = c' ∧ k2 = k' ∧ i2 = 0
         ·-- the first sector, read twice: it is one and the same
          obtain ⟨rfl, rfl, rfl⟩ := hq2
          refine .inl ⟨fun _ => l', fun i hi => ?_, by omega⟩
          have : i = 0 := by omega
          rw [this, Nat.add_zero]
          exact hp
         ·refine .inr ⟨s', n', 0, f, hr, by omega, hroom, .inr (.inr ⟨c2, s2, k2, i2, n2, l2, by rw [Nat.add_zero]; exact hp2, ?_⟩)⟩
          by_cases a : c2 = c'
          ·by_cases b : k2 = k'
           ·exact .inr (.inr (.inl fun e => hq2 ⟨a, b, e⟩))
           ·exact .inr (.inl b)
          ·exact .inl a
        ·refine .inr ⟨s', n', m, f, hr, by omega, hroom, .inr (.inr ⟨c2, s2, k2, i2, n2, l2, by rw [show base + 1 + used + m = base + 1 + (used + m) by omega]; exact hp2, ?_⟩)⟩
         by_cases a : c2 = c'
         ·by_cases b : k2 = k'
          ·by_cases e : i2 = m
           ·refine .inr (.inr (.inr ⟨by omega, ?_⟩))
            by_cases x : s2 = s'
            ·exact .inr fun y => hq ⟨a, b, e, x, y⟩
            ·exact .inl x
           ·exact .inr (.inr (.inl e))
          ·exact .inr (.inl b)
         ·exact .inl a
    ·exact .inr hw
  rcases step n' (Nat.le_refl _) with ⟨f, hr, hroom⟩ | hw
  ·exact .inl ⟨s', n', f, hp.lt, hr, hroom⟩
  ·exact .inr hw
 ·refine .inr ⟨0, 1, 0, fun _ => [], fun i hi => by omega, by decide, by omega, .inr (.inr ⟨c', s', k', i', n', l', by rw [Nat.add_zero]; exact hp, ?_⟩)⟩
  by_cases a : c' = c
  ·by_cases b : k' = k
   ·exact .inr (.inr (.inl fun e => hm ⟨a, b, e⟩))
   ·exact .inr (.inl b)
  ·exact .inl a
theorem recs_exists (hc : Clean now base half) (op first : Nat) : ∀ (r used n last : Nat), half - 1 - used = r → used ≤ half - 1 → ∃ ls u, Recs now base half op first used n last ls u ∧ ls.length ≤ r := by
 intro r
 induction r using Nat.strongRecOn with
 | _ r ih =>
  intro used n last hr hu
  rcases whole_exists hc used 82 (first + n) hu with ⟨s, M, f, hw⟩ | hw
  ·by_cases hs : s < last ∨ op < s
   ·exact ⟨[], used, .stop (.inr ⟨s, M, f, hw, hs⟩), Nat.zero_le _⟩
   ·have h1 := hw.one
    have h2 := hw.room
    obtain ⟨ls, u, hrec, hlen⟩ := ih (half - 1 - (used + M)) (by omega) (used + M) (n + 1) s rfl h2
    exact ⟨joined f M :: ls, u, .step hw (by omega) (by omega) hrec, by rw [List.length_cons]; omega⟩
  ·exact ⟨[], used, .stop (.inl hw), Nat.zero_le _⟩
end
theorem load_zero (Sd : Nat → Prop) (d : Nat) (D : Dsk) (jb a : Nat) (w : World) (h : DiskAt w Sd d D) (hj : JBlk w jb d ⟨a, 0, 0, 0, 0, [], [], 0⟩ (.slice none 0 0) (.slice none 0 0)) (ho : D.off = false) (ha : a ≤ 1) (h2 : 2 ≤ D.n)
  (hh : D.now (a * (D.n / 2)) = noughts) :
  Calls Tryz.prog 25 #[.pointer (some ⟨jb, 0, none⟩)] w fun e w' => e = .returned (.bool false) ∧ Off (fun b => b = jb) w w' := by
 have hhalf : a * (D.n / 2) < D.n := by
  obtain h1 | h1 : a = 0 ∨ a = 1 := by omega
  ·rw [h1]; omega
  ·rw [h1]; omega
 have HD := Lib.hid h
 have HJ := Lib.hid hj
 have HO := Lib.hid ho
 have HH := Lib.hid hh
 have HHALF := Lib.hid hhalf
 clear h hj ho ha hh hhalf h2
 go_enter Tryz.func25, Tryz.ntmps25
 go_wp2_with fail
 refine (sector_at Sd d D jb _ _ _ 0 w HD.out HJ.out (by have := HHALF.out; exact this) HO.out).mono ?_
 rintro e w1 ⟨gb, rfl, hgb, hgb2, hrb, hg1⟩
 have hrb' : w1.rangeAt gb 0 (u8s noughts) := by
  have := hrb
  rw [show a * (D.n / 2) + 0 = a * (D.n / 2) from rfl, HH.out] at this
  exact this
 have HG1 := Lib.hid hg1
 clear hrb hg1
 go_wp2_with fail
 refine (headOf_zero gb 128 w1 hrb' (by decide) (by decide)).mono ?_
 rintro e w2 ⟨rfl, hb2⟩
 have HG2 : Hid (w.grownBy w2 none) := HG1.out.andThen (Below.to_grown hb2) (fun _ h => .inr h)
 clear hb2 hrb'
 go_wp2_with fail
 go_ret
 exact ⟨rfl, Off.of_grown (HG2.out.andThen (World.grownBy_alloc w2 _ none) (fun _ h => .inr h)) (fun k e => by cases e)⟩
theorem load_short (Sd : Nat → Prop) (d : Nat) (D : Dsk) (jb a g o f n : Nat) (w : World) (h : DiskAt w Sd d D) (hj : JBlk w jb d ⟨a, 0, 0, 0, 0, [], [], 0⟩ (.slice none 0 0) (.slice none 0 0)) (ho : D.off = false) (ha : a ≤ 1) (h2 : 2 ≤ D.n)
  (hh : D.now (a * (D.n / 2)) = headB g o f n) (hg : 1 ≤ g ∧ g ≤ 4611686018427387904) (hop : 1 ≤ o ∧ o ≤ 4611686018427387904) (hf : 1 ≤ f ∧ f ≤ 4611686018427387904) (hn : n ≤ 1048576)
  (hst : Wn D.now (a * (D.n / 2)) (D.n / 2) 0 67 0 ∨ ∃ s M fs, Wy D.now (a * (D.n / 2)) (D.n / 2) 0 67 0 s M fs ∧ (s ≠ g ∨ (joined fs M).length ≠ n)) :
  Calls Tryz.prog 25 #[.pointer (some ⟨jb, 0, none⟩)] w fun e w' => e = .returned (.bool false) ∧ Off (fun b => b = jb) w w' := by
 have hhalf : a * (D.n / 2) < D.n := by
  obtain h1 | h1 : a = 0 ∨ a = 1 := by omega
  ·rw [h1]; omega
  ·rw [h1]; omega
 have HD := Lib.hid h
 have HJ := Lib.hid hj
 have HO := Lib.hid ho
 have HA := Lib.hid ha
 have HH := Lib.hid hh
 have HGO := Lib.hid (And.intro hg (And.intro hop (And.intro hf hn)))
 have HST := Lib.hid hst
 have HHALF := Lib.hid hhalf
 clear h hj ho ha hh hg hop hf hn hst hhalf h2
 go_enter Tryz.func25, Tryz.ntmps25
 go_wp2_with fail
 refine (sector_at Sd d D jb _ _ _ 0 w HD.out HJ.out (by have := HHALF.out; exact this) HO.out).mono ?_
 rintro e w1 ⟨gb, rfl, hgb, hgb2, hrb, hg1⟩
 have hrb' : w1.rangeAt gb 0 (u8s (headB g o f n)) := by
  have := hrb
  rw [show a * (D.n / 2) + 0 = a * (D.n / 2) from rfl, HH.out] at this
  exact this
 have HG1 := Lib.hid hg1
 clear hrb hg1
 go_wp2_with fail
 refine (headOf_head gb 128 g o f n HGO.out.1 HGO.out.2.1 HGO.out.2.2.1 HGO.out.2.2.2 w1 hrb' hgb2 (by decide) (by decide)).mono ?_
 rintro e w2 ⟨rfl, hb2⟩
 have HG2 : Hid (w.grownBy w2 none) := HG1.out.andThen (Below.to_grown hb2) (fun _ h => .inr h)
 clear hb2 hrb'
 go_upto_region 4 with fail
 have hgA := World.grownBy_alloc w2 (.cells #[.int .i64 (g : Int), .int .i64 (o : Int), .int .i64 (f : Int), .int .i64 (n : Int)] 47) none
 have hcA := (MapKept.heap_alloc w2 (.cells #[.int .i64 (g : Int), .int .i64 (o : Int), .int .i64 (f : Int), .int .i64 (n : Int)] 47)).1
 have hsA : (w2.alloc (.cells #[.int .i64 (g : Int), .int .i64 (o : Int), .int .i64 (f : Int), .int .i64 (n : Int)] 47)).heap.size = w2.heap.size + 1 := World.size_alloc ..
 obtain ⟨w3, hw3⟩ : ∃ w3, w3 = w2.alloc (.cells #[.int .i64 (g : Int), .int .i64 (o : Int), .int .i64 (f : Int), .int .i64 (n : Int)] 47) := ⟨_, rfl⟩
 obtain ⟨hb, hhb⟩ : ∃ hb, hb = w2.heap.size := ⟨_, rfl⟩
 rw [← hw3, ← hhb] at hcA hsA
 rw [← hw3] at hgA ⊢
 rw [← hhb]
 have HG3 : Hid (w.grownBy w3 none) := HG2.out.andThen hgA (fun _ h => .inr h)
 have HHB : Hid (w.heap.size ≤ hb ∧ hb < w3.heap.size) := by
  have h1 := HG2.out.size
  exact ⟨by omega, by omega⟩
 have HCA := Lib.hid hcA
 have HD3 := Lib.hid (HD.out.grown HG3.out)
 have HJ3 := Lib.hid (HJ.out.grown HG3.out)
 have HJL := Lib.hid HJ.out.lt
 clear hgA hcA hsA hw3 hhb
 go_wp2_with fail
 rcases HST.out with hwn | ⟨s, M, fs, hwy, hbad⟩
 ·refine (whole_n (c := 67) (k := 0) hwn w3 HD3.out HJ3.out HO.out HA.out).mono ?_
  rintro e w4 ⟨v, rfl, hj4, ho4⟩
  have HO4 := Lib.hid ho4
  clear hj4 ho4 hwn
  go_wp2_with fail
  go_ret
  exact ⟨rfl, (Off.of_grown HG3.out (by simp)).trans HO4.out⟩
 ·refine (whole_y (c := 67) (k := 0) hwy w3 HD3.out HJ3.out HO.out HA.out).mono ?_
  rintro e w4 ⟨v, rfl, hr4, hj4, ho4⟩
  obtain ⟨A4, cap4, rfl, hc4, hm4⟩ := row_len hr4
  have HO4 := Lib.hid ho4
  have hh4 : w4.heap[hb]? = some (.cells #[.int .i64 (g : Int), .int .i64 (o : Int), .int .i64 (f : Int), .int .i64 (n : Int)] 47) := (ho4.block hb HHB.out.2 (fun e => by have h1 := HHB.out.1; have h2 := HJL.out; omega)).trans HCA.out
  have b0 : w4.cell? ⟨hb, 0, none⟩ = some (.int .i64 (g : Int)) := cell_blk hh4 0
  have b3 : w4.cell? ⟨hb, 3, none⟩ = some (.int .i64 (n : Int)) := cell_blk hh4 3
  obtain ⟨A, hA⟩ : ∃ A, A = (joined fs M).length := ⟨_, rfl⟩
  rw [← hA] at hbad
  rw [← hA]
  clear hr4 hj4 ho4 hh4 hwy hA
  by_cases hs : s = g
  ·have hbad2 : A ≠ n := hbad.resolve_left (fun h => h hs)
   clear hbad
   subst hs
   go_wp2_with fail
   go_ret
   exact ⟨rfl, (Off.of_grown HG3.out (by simp)).trans HO4.out⟩
  ·clear hbad
   go_wp2_with fail
   go_ret
   exact ⟨rfl, (Off.of_grown HG3.out (by simp)).trans HO4.out⟩
theorem load_any (Sd : Nat → Prop) (d : Nat) (D : Dsk) (jb a g o f n : Nat) (w : World) (h : DiskAt w Sd d D) (hlt : ∀ b, Sd b → b < w.heap.size) (hjs : ¬ Sd jb) (hj : JBlk w jb d ⟨a, 0, 0, 0, 0, [], [], 0⟩ (.slice none 0 0) (.slice none 0 0)) (ho : D.off = false) (ha : a ≤ 1) (h2 : 2 ≤ D.n) (hm : D.n ≤ 16384)
  (hh : D.now (a * (D.n / 2)) = headB g o f n) (hg : 1 ≤ g ∧ g ≤ 4611686018427387904) (hop : 1 ≤ o ∧ o ≤ 4611686018427387904) (hf : 1 ≤ f ∧ f + 16384 ≤ 4611686018427387904) (hn : n ≤ 1048576) (hc : Clean D.now (a * (D.n / 2)) (D.n / 2)) :
  Calls Tryz.prog 25 #[.pointer (some ⟨jb, 0, none⟩)] w fun e w' => ∃ b : Bool, e = .returned (.bool b) ∧ (b = true → ∃ J : Jn, J.area = a ∧ J.gen = g ∧ JAt w' (fun b => b = jb ∨ (w.heap.size ≤ b ∧ b < w'.heap.size)) jb d J) ∧ Off (fun b => b = jb) w w' := by
 have short := load_short Sd d D jb a g o f n w h hj ho ha h2 hh hg hop ⟨hf.1, by omega⟩ hn
 rcases whole_exists hc 0 67 0 (Nat.zero_le _) with ⟨s, M, fs, hw⟩ | hw
 ·by_cases hq : s = g ∧ (joined fs M).length = n
  ·obtain ⟨rfl, hq⟩ := hq
   obtain ⟨ls, u, hrec, hlen⟩ := recs_exists hc o f (D.n / 2 - 1 - M) M 0 0 rfl (by have := hw.room; omega)
   refine (load_yes Sd d D jb a s o f n M u fs ls w h hlt hjs hj ho ha h2 hh hg hop ⟨hf.1, by omega⟩ hn hw hq hrec).mono ?_
   rintro e w' ⟨rfl, h1, h2⟩
   exact ⟨true, rfl, fun _ => ⟨_, rfl, rfl, h1⟩, h2⟩
  ·refine (short (.inr ⟨s, M, fs, hw, ?_⟩)).mono ?_
   ·by_cases hs : s = g
    ·exact .inr fun h => hq ⟨hs, h⟩
    ·exact .inl hs
   ·rintro e w' ⟨rfl, h2⟩
    exact ⟨false, rfl, fun h => (by cases h), h2⟩
 ·refine (short (.inl hw)).mono ?_
  rintro e w' ⟨rfl, h2⟩
  exact ⟨false, rfl, fun h => (by cases h), h2⟩
end Go.Proofs.YtgdedgfohjplmaaGreat.Jnl
