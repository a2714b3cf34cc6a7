/- NetFair: the walk. -/
import Derived.Deep.CutRange
import Derived.OwnWalk
import Derived.Test.YtonfpifikblnjaaNetFairData
namespace Go.Proofs.Ytonfpifikblnjaa.Net
open Go.RowKit

theorem info_str : (Try.prog.info? 9).map (fun i => (i.zero, i.size, i.bytes)) = some (some (.string ByteArray.empty), 1, 16) := by kernel_rfl
theorem made_strs (n : Nat) : madeCells #[Value.string ByteArray.empty] n = (strs n (fun _ => [])).toArray := by
  apply Array.ext_getElem?
  intro i
  unfold madeCells strs
  simp only [Array.getElem?_map, List.getElem?_toArray, List.getElem?_map]
  by_cases h : i < n
  · rw [Array.getElem?_eq_getElem (by simpa using h), List.getElem?_range h]
    simp only [Array.getElem_range, Option.map_some, show #[Value.string ByteArray.empty].size = 1 from rfl, Nat.mod_one]
    rfl
  · rw [Array.getElem?_eq_none (by simpa using h), List.getElem?_eq_none (by simpa using h)]
    rfl
/-- make([]string, n). -/
theorem run_make_strs (w : World) (n : Nat) (hn : n ≤ 64) : ∃ w', (Instr.makeSlice 28 (.int .i64 (n : Int)) (.int .i64 (n : Int))).run Try.prog w = .ok (.slice (some ⟨w.heap.size, 0, none⟩) n n) w' ∧ w'.heap[w.heap.size]? = some (.cells (strs n (fun _ => [])).toArray 9) ∧ w.grownBy w' none := by
  obtain ⟨i0, hi0, he⟩ := Option.map_eq_some_iff.1 info_str
  simp only [Prod.mk.injEq] at he
  obtain ⟨w1, hrun, hown, hgr⟩ := run_make_full (P := Try.prog) w w.heap.size 28 9 i0 _ 1 Try.underlying28 hi0 he.1 he.2.1 .i64 .i64 n (by rw [he.2.2]; omega) (by unfold maxLen; omega) (Nat.le_refl _)
  refine ⟨w1, hrun, ?_, hgr⟩
  obtain ⟨_, ⟨e, _⟩ | ⟨g, cap, cur, e, hB, hb, _, _, hcs, ht⟩⟩ := hown
  · cases e
  cases e
  have hcur : cur = madeCells #[.string ByteArray.empty] n := by
    apply Array.toList_inj.1
    rw [Nat.mul_one] at ht
    exact (List.take_of_length_le (by rw [Array.length_toList, hcs]; omega)).symm.trans ht
  rw [hb, hcur, made_strs]

/-- A net, and two rows of strings, beside one another. -/
structure Fair (w wr : World) (n nb gs gg : Nat) (S : Nat → Prop) (D : Nt) (F G : Nat → List UInt8) : Prop where
  net : NetAt wr S nb D
  ends : D.n = n
  sent : wr.heap[gs]? = some (.cells (strs n F).toArray 9)
  got : wr.heap[gg]? = some (.cells (strs n G).toArray 9)
  apart : gs ≠ gg ∧ ¬ S gs ∧ ¬ S gg ∧ w.heap.size ≤ gs ∧ w.heap.size ≤ gg
  from_ : ∀ b, S b → w.heap.size ≤ b
  off : Off (fun b => w.heap.size ≤ b) w wr
section
variable {w wr v : World} {n nb gs gg : Nat} {S S1 : Nat → Prop} {D D1 : Nt} {F G : Nat → List UInt8}
theorem Fair.turn (h : Fair w wr n nb gs gg S D F G) (hn : NetAt v S1 nb D1) (ht : Turn S S1 wr v) (hD : D1.n = n) : Fair w v n nb gs gg S1 D1 F G := by
  have l1 := (Array.getElem?_eq_some_iff.1 h.sent).1
  have l2 := (Array.getElem?_eq_some_iff.1 h.got).1
  obtain ⟨a1, a2, a3, a4, a5⟩ := h.apart
  have hs := h.off.size
  refine ⟨hn, hD, (ht.off.block gs l1 a2).trans h.sent, (ht.off.block gg l2 a3).trans h.got, ⟨a1, fun hb => ?_, fun hb => ?_, a4, a5⟩, fun b hb => ?_, h.off.trans (ht.off.toOff.mono (fun b _ hb => h.from_ b hb))⟩
  · rcases ht.sub gs hb with e | e
    · exact a2 e
    · omega
  · rcases ht.sub gg hb with e | e
    · exact a3 e
    · omega
  · rcases ht.sub b hb with e | e
    · exact h.from_ b e
    · omega
theorem Fair.grown (h : Fair w wr n nb gs gg S D F G) (hg : wr.grownBy v none) : Fair w v n nb gs gg S D F G := h.turn (h.net.grown hg) (Turn.begin_ h.net.lt hg) h.ends
theorem Fair.cellS (h : Fair w wr n nb gs gg S D F G) {j : Nat} (hj : j < n) : wr.cell? ⟨gs, j, none⟩ = some (strV (F j)) ∧ wr.frozen? ⟨gs, j, none⟩ = false := by
  refine ⟨?_, by simp only [World.frozen?, h.sent]; simp⟩
  have := strs_get n F j hj
  simp only [World.cell?, h.sent]
  exact this
theorem Fair.cellG (h : Fair w wr n nb gs gg S D F G) {j : Nat} (hj : j < n) : wr.cell? ⟨gg, j, none⟩ = some (strV (G j)) ∧ wr.frozen? ⟨gg, j, none⟩ = false := by
  refine ⟨?_, by simp only [World.frozen?, h.got]; simp⟩
  have := strs_get n G j hj
  simp only [World.cell?, h.got]
  exact this
theorem Fair.setS (h : Fair w wr n nb gs gg S D F G) (j : Nat) (s : List UInt8) : Fair w (wr.setCell ⟨gs, j, none⟩ (strV s)) n nb gs gg S D (upd F j s) G := by
  have ho : Off (fun b => b = gs) wr (wr.setCell ⟨gs, j, none⟩ (strV s)) := (Off.cells (CellOff.set wr gs j (strV s))).mono (fun b _ hb => hb.elim (fun _ e => e.1))
  obtain ⟨a1, a2, a3, a4, a5⟩ := h.apart
  refine ⟨h.net.other ho (fun b hb e => a2 (e ▸ hb)), h.ends, ?_, (ho.block gg (Array.getElem?_eq_some_iff.1 h.got).1 (fun e => a1 e.symm)).trans h.got, h.apart, h.from_, h.off.trans (ho.mono (fun b _ e => by subst e; exact a4))⟩
  rw [heap_setCell_same wr gs j _ _ (strV s) h.sent, strs_set]
theorem Fair.setG (h : Fair w wr n nb gs gg S D F G) (j : Nat) (s : List UInt8) : Fair w (wr.setCell ⟨gg, j, none⟩ (strV s)) n nb gs gg S D F (upd G j s) := by
  have ho : Off (fun b => b = gg) wr (wr.setCell ⟨gg, j, none⟩ (strV s)) := (Off.cells (CellOff.set wr gg j (strV s))).mono (fun b _ hb => hb.elim (fun _ e => e.1))
  obtain ⟨a1, a2, a3, a4, a5⟩ := h.apart
  refine ⟨h.net.other ho (fun b hb e => a3 (e ▸ hb)), h.ends, (ho.block gs (Array.getElem?_eq_some_iff.1 h.sent).1 a1).trans h.sent, ?_, h.apart, h.from_, h.off.trans (ho.mono (fun b _ e => by subst e; exact a5))⟩
  rw [heap_setCell_same wr gg j _ _ (strV s) h.got, strs_set]
end
theorem send_cases (D : Nt) (p : Pk) : ((D.send p).1 = 0 ∧ (D.send p).2 = D.more 0 p ∧ D.is p.to = true) ∨ (((D.send p).1 = 2 ∨ (D.send p).1 = 3) ∧ (D.send p).2 = D) := by
  unfold Nt.send
  split
  · rename_i h
    split
    · exact .inr ⟨.inr rfl, rfl⟩
    · exact .inl ⟨rfl, rfl, h.2⟩
  · exact .inr ⟨.inl rfl, rfl⟩
theorem flt_one (j kt : Nat) (p : Pk) (hp : p.to = (kt : Int)) : flt j [p] = if j = kt then [p] else [] := by
  by_cases e : j = kt
  · subst e; simp [flt, hp]
  · have : ¬ (kt : Int) = (j : Int) := by omega
    simp [flt, hp, this, e]
theorem text_more {F : Nat → List UInt8} {n kt : Nat} {ws : List Pk} {p : Pk} (hF : ∀ j, j < n → F j = tx (flt j ws)) (hp : p.to = (kt : Int)) (hk : kt < n) : ∀ j, j < n → upd F kt (F kt ++ (p.b ++ [59])) j = tx (flt j (ws ++ [p])) := by
  intro j hj
  rw [flt_append, tx_append, flt_one j kt p hp]
  unfold upd
  by_cases e : j = kt
  · subst e
    rw [if_pos rfl, if_pos rfl, hF j hj]
    simp [tx]
  · rw [if_neg e, if_neg e, hF j hj]
    simp [tx]
theorem tx_length (ps : List Pk) (h : ∀ p ∈ ps, p.b.length ≤ 100) : (tx ps).length ≤ 101 * ps.length := by
  induction ps with
  | nil => simp [tx]
  | cons p r ih =>
    have h1 := h p (by simp)
    have h2 := ih (fun q hq => h q (by simp [hq]))
    simp only [tx, List.flatMap_cons, List.length_append, List.length_cons, List.length_nil] at h2 ⊢
    omega
theorem text_small {ps : List Pk} (j : Nat) (h : ∀ p ∈ ps, p.b.length ≤ 100) (hl : ps.length ≤ 1000) : (tx (flt j ps)).length ≤ 101000 := by
  have h1 := tx_length (flt j ps) (fun p hp => h p (List.filter_sublist.subset hp))
  have h2 : (flt j ps).length ≤ ps.length := List.length_filter_le _ _
  omega
theorem bs_size2 (a b : List UInt8) : (bs a ++ bs b).size = a.length + b.length := by rw [bs_append, bs_size, List.length_append]
theorem str_more (a b : List UInt8) : Value.string (bs a ++ bs b ++ ⟨#[59]⟩) = strV (a ++ (b ++ [59])) := by
  rw [bs_append, show (⟨#[59]⟩ : ByteArray) = bs [59] from rfl, bs_append, List.append_assoc]
theorem num_next (k : Nat) (h : k < 1000000) : Value.int .i64 (wrap64 ((k : Int) + 1)) = Value.int .i64 ((k + 1 : Nat) : Int) := by
  congr 1
  unfold wrap64
  omega
theorem meas_next (M k : Nat) (h : k < M) (h2 : k < 1000000) : M - (intOf (Value.int .i64 (wrap64 ((k : Int) + 1)))).toNat < M - (intOf (Value.int .i64 (k : Int))).toNat := by
  rw [num_next k h2]
  show M - ((k + 1 : Nat) : Int).toNat < M - ((k : Nat) : Int).toNat
  rw [Int.toNat_natCast, Int.toNat_natCast]
  omega
theorem upto_way (D : Nt) (j : Nat) : (D.upto j).row 0 = D.row 0 := by
  unfold Nt.upto
  show (if 1 ≤ 0 ∧ 0 ≤ j then [] else D.row 0) = D.row 0
  rw [if_neg]
  omega
theorem upto_box (D : Nt) (j x : Nat) (h : x < j) : (D.upto j).row (x + 1) = [] := by
  unfold Nt.upto
  show (if 1 ≤ x + 1 ∧ x + 1 ≤ j then [] else D.row (x + 1)) = []
  rw [if_pos]
  omega
theorem yields_conv_f {ops : Array Oper} {U : Nat → Prop} {Sw : World → Prop} {op : Oper} {a : Act} (hw : Region.wanted op (yielded ops a.tmps) = true) (x : Operand) (ho : op.op = .convert 34 9 x)
    (A : Option Addr) (l : List UInt8) (cap : Nat) (hx : a.eval x = .slice A l.length cap) (hS : ∀ w, Sw w → Bytes w U A l) : YieldsIf Try.prog ops Sw op (strV l) a :=
  .inl ⟨hw, fun w hw' => by
    unfold execOp
    simp only [ho, hx, Sem.run_bind, run_str (hS w hw') cap, Result.andThen_ok, Sem.run_pure]⟩

set_option maxRecDepth 100000 in
set_option maxHeartbeats 8000000 in
theorem fair_walk (ends : Int) (bits : Int) (A : Option Addr) (l : List ActV) (cap : Nat) (w : World) (h : ActsAt w (fun b => w.heap.size ≤ b) A l) (hc1 : l.length ≤ cap) (hc2 : cap ≤ maxLen) :
    Calls Try.prog 3 #[.int .i64 ends, .slice A l.length cap, .int .u64 bits] w fun e w' => e = .returned (.bool true) ∧ Below w.heap.size w w' := by
  have FIN : Hid (∀ w' : World, Off (fun b => w.heap.size ≤ b) w w' → Below w.heap.size w w') := fun w' h => h.below (Nat.le_refl _) (fun k hk h => by omega)
  have HF := Lib.hid (few_at _ A l cap 200 w h hc1 hc2)
  have HA := Lib.hid h
  obtain ⟨r, hr⟩ : ∃ r, r = fewB l 200 := ⟨_, rfl⟩
  rw [← hr] at HF
  have HR := Lib.hid hr
  clear h hc1 hc2 hr
  go_enter Try.func3, Try.ntmps3
  go_wp2_with fail
  refine HF.out.mono ?_
  rintro e w' ⟨rfl, rfl⟩
  cases r
  case false =>
    go_wp2_with fail
    refine (works_at w').mono ?_
    rintro e w2 ⟨rfl, hg⟩
    have HG := Lib.hid hg
    clear hg
    go_wp2_with fail
    go_ret
    exact ⟨rfl, FIN.out _ (Off.of_grown HG.out (by simp))⟩
  obtain ⟨hl200, hl100⟩ := fewB_true HR.out.symm
  have HL := Lib.hid (And.intro hl200 hl100)
  clear HF HR hl200 hl100
  go_wp2_with fail
  refine (new_at ends w').mono ?_
  rintro e w0 ⟨nb, rfl, hn, hg⟩
  have HN0 := Lib.hid hn
  have HG0 := Lib.hid hg
  have hok := hn.ok
  obtain ⟨n, hnn⟩ : ∃ n, n = (max 1 (min 64 ends)).toNat := ⟨_, rfl⟩
  rw [← hnn] at HN0 hok
  have hn64 : n ≤ 64 := hok.most
  clear hn hg hok hnn
  obtain ⟨wA, hrA, hbA, hgA⟩ := run_make_strs w0.drew n hn64
  obtain ⟨wB, hrB, hbB, hgB⟩ := run_make_strs wA n hn64
  have hnd := HN0.out.grown (drew_grown w0 none)
  have hE := ends_at _ nb (fresh n) w0.drew hnd
  rw [show (fresh n).n = n from rfl] at hE
  have HEND0 := Lib.hid hE
  clear hE
  have hE := ends_at _ nb (fresh n) wA (hnd.grown hgA)
  rw [show (fresh n).n = n from rfl] at hE
  have HEND1 := Lib.hid hE
  clear hE
  have hE := ends_at _ nb (fresh n) wB ((hnd.grown hgA).grown hgB)
  rw [show (fresh n).n = n from rfl] at hE
  have HEND2 := Lib.hid hE
  clear hE
  have hltA : w0.heap.size < wA.heap.size := (Array.getElem?_eq_some_iff.1 hbA).1
  have HM1 : Hid (w0.heap.size ≠ wA.heap.size ∧ w0.heap.size ≤ w0.heap.size ∧ w0.heap.size ≤ wA.heap.size ∧ wB.heap[w0.heap.size]? = some (.cells (strs n (fun _ => [])).toArray 9) ∧ wB.heap[wA.heap.size]? = some (.cells (strs n (fun _ => [])).toArray 9)) :=
    ⟨Nat.ne_of_lt hltA, Nat.le_refl _, Nat.le_of_lt hltA, (hgB.block _ hltA (by simp)).trans hbA, hbB⟩
  have HM2 : Hid (wA.heap.size ≠ w0.heap.size ∧ w0.heap.size ≤ wA.heap.size ∧ w0.heap.size ≤ w0.heap.size ∧ wB.heap[wA.heap.size]? = some (.cells (strs n (fun _ => [])).toArray 9) ∧ wB.heap[w0.heap.size]? = some (.cells (strs n (fun _ => [])).toArray 9)) :=
    ⟨(Nat.ne_of_lt hltA).symm, Nat.le_of_lt hltA, Nat.le_refl _, hbB, (hgB.block _ hltA (by simp)).trans hbA⟩
  have HGB : Hid (w0.grownBy wB none) := ((drew_grown w0 none).andThen hgA (fun _ hj => .inr hj)).andThen hgB (fun _ hj => .inr hj)
  clear hbA hgA hbB hgB hnd hltA
  have hsz : w0.drew.heap.size = w0.heap.size := rfl
  go_upto_region 4 with fail
  go_cut [8, 9] from 21 to 26 (fun s8 s9 wx => ∃ gs gg, s8 = .slice (some ⟨gs, 0, none⟩) n n ∧ s9 = .slice (some ⟨gg, 0, none⟩) n n ∧ (gs ≠ gg ∧ w0.heap.size ≤ gs ∧ w0.heap.size ≤ gg ∧ wB.heap[gs]? = some (.cells (strs n (fun _ => [])).toArray 9) ∧ wB.heap[gg]? = some (.cells (strs n (fun _ => [])).toArray 9)) ∧ wx = wB)
  case first =>
    refine wp_region_noPanic ?_
    refine wp_region_held_drew (S := fun _ => True) (by kernel_rfl) ?hSq (fun hHeld => ?_)
    case hSq => (try exact True.intro)
    refine wpAnyH_take (i := 0) (oi := ⟨_, _, _, _, _, _⟩) (v := ?vq0) rfl (by kernel_rfl) (by kernel_rfl) (by kernel_rfl) (fun _ _ _ h => h) (Or.inl ⟨by rfl, ?hyq0⟩) hHeld ?_
    case hyq0 => (intro wS hSw; (try dsimp only at hSw); go_simp; (first | done | with_reducible rfl))
    try simp only [Act.put, List.setIfInBounds_toArray, List.set_cons_zero, List.set_cons_succ]
    refine wpAnyH_take (i := 3) (oi := ⟨_, _, _, _, _, _⟩) (v := ?vq3) rfl (by kernel_rfl) (by kernel_rfl) (by kernel_rfl) (fun _ _ _ h => h) (Or.inl ⟨by rfl, ?hyq3⟩) hHeld ?_
    case hyq3 => (intro wS hSw; (try dsimp only at hSw); go_simp; (first | done | with_reducible rfl))
    try simp only [Act.put, List.setIfInBounds_toArray, List.set_cons_zero, List.set_cons_succ]
    refine wpAnyH_ready (rs := [1]) (by kernel_rfl) (by simp) ?_
    refine AllReadyH.cons (o := ⟨_, _, _, _, _, _⟩) rfl (fun K hK => ?_) AllReadyH.nil
    · go_simp
      refine (HEND0.out).mono ?_
      rintro e wz ⟨rfl, hwz⟩
      have hwz := hwz.symm
      subst hwz
      go_wp2_with fail
      refine hK.out _ _ ?kq011 (fun hNew => ?_)
      case kq011 => (try dsimp only); (try exact True.intro)
      clear hK K hHeld
      have hHeld := hNew
      clear hNew
      try simp only [Act.put, List.setIfInBounds_toArray, List.set_cons_zero, List.set_cons_succ]
      refine wpAnyH_ready (rs := [2, 4]) (by kernel_rfl) (by simp) ?_
      refine AllReadyH.cons (o := ⟨_, _, _, _, _, _⟩) rfl (fun K hK => ?_) (AllReadyH.cons (o := ⟨_, _, _, _, _, _⟩) rfl (fun K hK => ?_) AllReadyH.nil)
      · go_simp
        (try (go_wp2_with fail))
        refine hK.out _ _ ?kq1122 (fun hNew => ?_)
        case kq1122 => (try dsimp only); (try exact True.intro)
        clear hK K hHeld
        have hHeld := hNew
        clear hNew
        try simp only [Act.put, List.setIfInBounds_toArray, List.set_cons_zero, List.set_cons_succ]
        refine wpAnyH_ready (rs := [4]) (by kernel_rfl) (by simp) ?_
        refine AllReadyH.cons (o := ⟨_, _, _, _, _, _⟩) rfl (fun K hK => ?_) AllReadyH.nil
        · go_simp
          refine (HEND1.out).mono ?_
          rintro e wz ⟨rfl, hwz⟩
          have hwz := hwz.symm
          subst hwz
          go_wp2_with fail
          refine hK.out _ _ ?kq12244 (fun hNew => ?_)
          case kq12244 => (try dsimp only); (try exact True.intro)
          clear hK K hHeld
          have hHeld := hNew
          clear hNew
          try simp only [Act.put, List.setIfInBounds_toArray, List.set_cons_zero, List.set_cons_succ]
          refine wpAnyH_take (i := 6) (oi := ⟨_, _, _, _, _, _⟩) (v := ?vq1246) rfl (by kernel_rfl) (by kernel_rfl) (by kernel_rfl) (fun _ _ _ h => h) (Or.inl ⟨by rfl, ?hyq1246⟩) hHeld ?_
          case hyq1246 => (intro wS hSw; (try dsimp only at hSw); go_simp; (first | done | with_reducible rfl))
          try simp only [Act.put, List.setIfInBounds_toArray, List.set_cons_zero, List.set_cons_succ]
          refine wpAnyH_ready (rs := [5]) (by kernel_rfl) (by simp) ?_
          refine AllReadyH.cons (o := ⟨_, _, _, _, _, _⟩) rfl (fun K hK => ?_) AllReadyH.nil
          · go_simp
            (try (go_wp2_with fail))
            refine hK.out _ _ ?kq124455 (fun hNew => ?_)
            case kq124455 => (try dsimp only); (try exact True.intro)
            clear hK K hHeld
            have hHeld := hNew
            clear hNew
            try simp only [Act.put, List.setIfInBounds_toArray, List.set_cons_zero, List.set_cons_succ]
            refine wpAnyH_take (i := 7) (oi := ⟨_, _, _, _, _, _⟩) (v := ?vq12457) rfl (by kernel_rfl) (by kernel_rfl) (by kernel_rfl) (fun _ _ _ h => h) (Or.inl ⟨by rfl, ?hyq12457⟩) hHeld ?_
            case hyq12457 => (intro wS hSw; (try dsimp only at hSw); go_simp; (first | done | with_reducible rfl))
            try simp only [Act.put, List.setIfInBounds_toArray, List.set_cons_zero, List.set_cons_succ]
            refine wpAnyH_done (by kernel_rfl) ?_ _
            refine NoPanic.normal ?_
            go_wp2_with fail
            go_meet
            first | exact ⟨w0.heap.size, wA.heap.size, rfl, rfl, HM1.out, rfl⟩ | exact ⟨wA.heap.size, w0.heap.size, rfl, rfl, HM2.out, rfl⟩
      · go_simp
        refine (HEND0.out).mono ?_
        rintro e wz ⟨rfl, hwz⟩
        have hwz := hwz.symm
        subst hwz
        go_wp2_with fail
        refine hK.out _ _ ?kq1144 (fun hNew => ?_)
        case kq1144 => (try dsimp only); (try exact True.intro)
        clear hK K hHeld
        have hHeld := hNew
        clear hNew
        try simp only [Act.put, List.setIfInBounds_toArray, List.set_cons_zero, List.set_cons_succ]
        refine wpAnyH_ready (rs := [2, 5]) (by kernel_rfl) (by simp) ?_
        refine AllReadyH.cons (o := ⟨_, _, _, _, _, _⟩) rfl (fun K hK => ?_) (AllReadyH.cons (o := ⟨_, _, _, _, _, _⟩) rfl (fun K hK => ?_) AllReadyH.nil)
        · go_simp
          (try (go_wp2_with fail))
          refine hK.out _ _ ?kq14222 (fun hNew => ?_)
          case kq14222 => (try dsimp only); (try exact True.intro)
          clear hK K hHeld
          have hHeld := hNew
          clear hNew
          try simp only [Act.put, List.setIfInBounds_toArray, List.set_cons_zero, List.set_cons_succ]
          refine wpAnyH_take (i := 6) (oi := ⟨_, _, _, _, _, _⟩) (v := ?vq1426) rfl (by kernel_rfl) (by kernel_rfl) (by kernel_rfl) (fun _ _ _ h => h) (Or.inl ⟨by rfl, ?hyq1426⟩) hHeld ?_
          case hyq1426 => (intro wS hSw; (try dsimp only at hSw); go_simp; (first | done | with_reducible rfl))
          try simp only [Act.put, List.setIfInBounds_toArray, List.set_cons_zero, List.set_cons_succ]
          refine wpAnyH_ready (rs := [5]) (by kernel_rfl) (by simp) ?_
          refine AllReadyH.cons (o := ⟨_, _, _, _, _, _⟩) rfl (fun K hK => ?_) AllReadyH.nil
          · go_simp
            (try (go_wp2_with fail))
            refine hK.out _ _ ?kq142455 (fun hNew => ?_)
            case kq142455 => (try dsimp only); (try exact True.intro)
            clear hK K hHeld
            have hHeld := hNew
            clear hNew
            try simp only [Act.put, List.setIfInBounds_toArray, List.set_cons_zero, List.set_cons_succ]
            refine wpAnyH_take (i := 7) (oi := ⟨_, _, _, _, _, _⟩) (v := ?vq14257) rfl (by kernel_rfl) (by kernel_rfl) (by kernel_rfl) (fun _ _ _ h => h) (Or.inl ⟨by rfl, ?hyq14257⟩) hHeld ?_
            case hyq14257 => (intro wS hSw; (try dsimp only at hSw); go_simp; (first | done | with_reducible rfl))
            try simp only [Act.put, List.setIfInBounds_toArray, List.set_cons_zero, List.set_cons_succ]
            refine wpAnyH_done (by kernel_rfl) ?_ _
            refine NoPanic.normal ?_
            go_wp2_with fail
            go_meet
            first | exact ⟨w0.heap.size, wA.heap.size, rfl, rfl, HM1.out, rfl⟩ | exact ⟨wA.heap.size, w0.heap.size, rfl, rfl, HM2.out, rfl⟩
        · go_simp
          (try (go_wp2_with fail))
          refine hK.out _ _ ?kq14255 (fun hNew => ?_)
          case kq14255 => (try dsimp only); (try exact True.intro)
          clear hK K hHeld
          have hHeld := hNew
          clear hNew
          try simp only [Act.put, List.setIfInBounds_toArray, List.set_cons_zero, List.set_cons_succ]
          refine wpAnyH_ready (rs := [2]) (by kernel_rfl) (by simp) ?_
          refine AllReadyH.cons (o := ⟨_, _, _, _, _, _⟩) rfl (fun K hK => ?_) AllReadyH.nil
          · go_simp
            (try (go_wp2_with fail))
            refine hK.out _ _ ?kq145322 (fun hNew => ?_)
            case kq145322 => (try dsimp only); (try exact True.intro)
            clear hK K hHeld
            have hHeld := hNew
            clear hNew
            try simp only [Act.put, List.setIfInBounds_toArray, List.set_cons_zero, List.set_cons_succ]
            refine wpAnyH_take (i := 6) (oi := ⟨_, _, _, _, _, _⟩) (v := ?vq14526) rfl (by kernel_rfl) (by kernel_rfl) (by kernel_rfl) (fun _ _ _ h => h) (Or.inl ⟨by rfl, ?hyq14526⟩) hHeld ?_
            case hyq14526 => (intro wS hSw; (try dsimp only at hSw); go_simp; (first | done | with_reducible rfl))
            try simp only [Act.put, List.setIfInBounds_toArray, List.set_cons_zero, List.set_cons_succ]
            refine wpAnyH_take (i := 7) (oi := ⟨_, _, _, _, _, _⟩) (v := ?vq14527) rfl (by kernel_rfl) (by kernel_rfl) (by kernel_rfl) (fun _ _ _ h => h) (Or.inl ⟨by rfl, ?hyq14527⟩) hHeld ?_
            case hyq14527 => (intro wS hSw; (try dsimp only at hSw); go_simp; (first | done | with_reducible rfl))
            try simp only [Act.put, List.setIfInBounds_toArray, List.set_cons_zero, List.set_cons_succ]
            refine wpAnyH_done (by kernel_rfl) ?_ _
            refine NoPanic.normal ?_
            go_wp2_with fail
            go_meet
            first | exact ⟨w0.heap.size, wA.heap.size, rfl, rfl, HM1.out, rfl⟩ | exact ⟨wA.heap.size, w0.heap.size, rfl, rfl, HM2.out, rfl⟩
  case rest =>
    obtain ⟨gs, gg, rfl, rfl, hm, rfl⟩ := hcut
    have hI : Fair w' wc n nb gs gg (fun b => w'.heap.size ≤ b ∧ b < w0.heap.size) (fresh n) (fun _ => []) (fun _ => []) := by
      obtain ⟨h1, h2, h3, h4, h5⟩ := hm
      have s0 := HG0.out.size
      exact ⟨HN0.out.grown HGB.out, rfl, h4, h5, ⟨h1, by omega, by omega, by omega, by omega⟩, fun b hb => hb.1, (Off.of_grown HG0.out (by simp)).trans (Off.of_grown HGB.out (by simp))⟩
    have HI := Lib.hid hI
    have HN := Lib.hid hn64
    obtain ⟨M, hM⟩ : ∃ M : Nat, M = l.length + 200 := ⟨_, rfl⟩
    have hwM : wrap64 ((l.length : Int) + 200) = (M : Int) := by have := HL.out.1; unfold wrap64; omega
    have HM := Lib.hid hM
    clear hI hm HM1 HM2 HEND0 HEND1 HEND2 HGB HN0 HG0 hsz hrA hrB hn64 hM
    go_wp2_with fail
    go_loopw [10] (fun iv wr => ∃ (k m : Nat) (S : Nat → Prop) (D : Nt) (F G : Nat → List UInt8) (dn : List Pk), k ≤ M ∧ iv = .int .i64 (k : Int) ∧ (m ≤ k ∧ m + k ≤ M) ∧ Fair w' wr n nb gs gg S D F G ∧ (∀ j, j < n → D.row (j + 1) = []) ∧ (D.row 0).length ≤ m ∧ (∀ j, j < n → F j = tx (flt j (dn ++ D.row 0))) ∧ (∀ j, j < n → G j = tx (flt j dn)) ∧ (∀ p ∈ dn ++ D.row 0, p.b.length ≤ 100) ∧ (dn ++ D.row 0).length ≤ k) (fun iv _ => M - (intOf iv).toNat)
    case atStart => exact ⟨0, 0, _, _, _, _, [], Nat.zero_le _, rfl, ⟨Nat.le_refl _, by omega⟩, HI.out, fun _ _ => rfl, Nat.le_refl _, fun _ _ => rfl, fun _ _ => rfl, fun p hp => by simp [fresh] at hp, Nat.le_refl _⟩
    case round =>
      obtain ⟨k, m, S, D, F, G, dn, hk, rfl, hmk, hI, hbox, hway, hF, hG, hsm, hcnt⟩ := hrel
      clear HI
      have HI := Lib.hid hI
      have HK := Lib.hid hmk
      have HB := Lib.hid (And.intro hbox (And.intro hway (And.intro hF hG)))
      have HSM := Lib.hid (And.intro hsm hcnt)
      clear hI hmk hbox hway hF hG hsm hcnt
      by_cases hlt : k < M
      · have hkM : decide ((k : Int) < (M : Int)) = true := by simp; omega
        have hkM2 : decide (k < M) = true := by simpa using hlt
        have HLT := Lib.hid hlt
        clear hlt
        go_upto_region 8 with fail
        go_cut [58] from 27 to 135 (fun s58 wx => ∃ (b : Bool) (S1 : Nat → Prop) (D1 : Nt), s58 = .bool b ∧ Fair w' wx n nb gs gg S1 D1 F G ∧ ((b = true ∧ ∃ (c : ActV) (kt : Nat), l[k]? = some c ∧ c.to = (kt : Int) ∧ kt < n ∧ D1 = D.more 0 ⟨c.i, c.to, c.b⟩) ∨ (b = false ∧ D1 = D)))
        case first =>
          by_cases hl : k < l.length
          · have hkd : decide ((k : Int) < (l.length : Int)) = true := by simp; omega
            have hkd2 : decide (k < l.length) = true := by simpa using hl
            have k0 : (0 : Int) ≤ (k : Int) := by omega
            have k1 : (k : Int) < (l.length : Int) := by omega
            obtain ⟨ga, off, c, rfl, hc, hga, hgalt, a0, a1, a2, a3⟩ := (HA.out.off HI.out.off).at_ hl
            obtain ⟨WC, capb, hcv, hr, hty, _, hgc, hsc⟩ := run_bytes_new wr.drew c.b
            have hnd := (HI.out.net.grown (drew_grown wr none)).grown hgc
            have hby : RowR WC (some ⟨wr.drew.heap.size, 0, none⟩) capb c.b := RowR.of_bytes _ (S := fun _ => True) (.inr ⟨_, 0, rfl, trivial, hty, hr⟩)
            have hsend := send_at S nb D ⟨c.i, c.to, c.b⟩ (some ⟨wr.drew.heap.size, 0, none⟩) capb WC hnd hby (by have := HL.out.2 c (List.mem_of_getElem? hc); show c.b.length ≤ 1000; omega)
            have hcases := send_cases D ⟨c.i, c.to, c.b⟩
            generalize D.send ⟨c.i, c.to, c.b⟩ = sd at hsend hcases
            obtain ⟨code, D1⟩ := sd
            have HCASES := Lib.hid hcases
            have HS := Lib.hid hsend
            have HGC := Lib.hid hgc
            have HNGA : Hid (¬ S ga) := fun hs => hga (HI.out.from_ _ hs)
            have HC := Lib.hid hc
            have A1 : Hid (wr.drew.cell? ⟨ga, off + k * 4 + 1, none⟩ = some (.int .i64 c.i)) := a1
            have A2 : Hid (wr.drew.cell? ⟨ga, off + k * 4 + 2, none⟩ = some (.int .i64 c.to)) := a2
            have A3 : Hid (wr.drew.cell? ⟨ga, off + k * 4 + 3, none⟩ = some (strV c.b)) := a3
            clear hsend hgc hnd hby hr hty a0 a1 a2 a3 hga hgalt hc hl hcases
            refine wp_region_noPanic ?_
            refine wp_region_held_drew (S := fun w' => w'.cell? ⟨ga, off + k * 4 + 1, none⟩ = some (.int .i64 c.i) ∧ w'.cell? ⟨ga, off + k * 4 + 2, none⟩ = some (.int .i64 c.to) ∧ w'.cell? ⟨ga, off + k * 4 + 3, none⟩ = some (strV c.b)) (by kernel_rfl) ?hSs (fun hHeld => ?_)
            case hSs => exact ⟨A1.out, A2.out, A3.out⟩
            refine wpAnyH_take (i := 0) (oi := ⟨_, _, _, _, _, _⟩) (v := ?vs0) rfl (by kernel_rfl) (by kernel_rfl) (by kernel_rfl) (fun _ _ _ h => h) (Or.inl ⟨by rfl, ?hys0⟩) hHeld ?_
            case hys0 => (intro wS hSw; (try dsimp only at hSw); go_simp; (first | done | with_reducible rfl))
            try simp only [Act.put, List.setIfInBounds_toArray, List.set_cons_zero, List.set_cons_succ]
            refine wpAnyH_take (i := 1) (oi := ⟨_, _, _, _, _, _⟩) (v := ?vs1) rfl (by kernel_rfl) (by kernel_rfl) (by kernel_rfl) (fun _ _ _ h => h) (Or.inl ⟨by rfl, ?hys1⟩) hHeld ?_
            case hys1 => (intro wS hSw; (try dsimp only at hSw); go_simp; (first | done | with_reducible rfl))
            try simp only [Act.put, List.setIfInBounds_toArray, List.set_cons_zero, List.set_cons_succ]
            refine wpAnyH_take (i := 2) (oi := ⟨_, _, _, _, _, _⟩) (v := ?vs2) rfl (by kernel_rfl) (by kernel_rfl) (by kernel_rfl) (fun _ _ _ h => h) (Or.inl ⟨by rfl, ?hys2⟩) hHeld ?_
            case hys2 => (intro wS hSw; (try dsimp only at hSw); go_simp; (first | done | with_reducible rfl))
            try simp only [Act.put, List.setIfInBounds_toArray, List.set_cons_zero, List.set_cons_succ]
            refine wpAnyH_take (i := 3) (oi := ⟨_, _, _, _, _, _⟩) (v := ?vs3) rfl (by kernel_rfl) (by kernel_rfl) (by kernel_rfl) (fun _ _ _ h => h) (Or.inl ⟨by rfl, ?hys3⟩) hHeld ?_
            case hys3 => (intro wS hSw; (try dsimp only at hSw); go_simp; (first | done | with_reducible rfl))
            try simp only [Act.put, List.setIfInBounds_toArray, List.set_cons_zero, List.set_cons_succ]
            refine wpAnyH_take (i := 4) (oi := ⟨_, _, _, _, _, _⟩) (v := ?vs4) rfl (by kernel_rfl) (by kernel_rfl) (by kernel_rfl) (fun _ _ _ h => h) (Or.inl ⟨by rfl, ?hys4⟩) hHeld ?_
            case hys4 => (intro wS hSw; (try dsimp only at hSw); go_simp; (first | done | with_reducible rfl))
            try simp only [Act.put, List.setIfInBounds_toArray, List.set_cons_zero, List.set_cons_succ]
            refine wpAnyH_take (i := 5) (oi := ⟨_, _, _, _, _, _⟩) (v := ?vs5) rfl (by kernel_rfl) (by kernel_rfl) (by kernel_rfl) (fun _ _ _ h => h) (Or.inl ⟨by rfl, ?hys5⟩) hHeld ?_
            case hys5 => (intro wS hSw; (try dsimp only at hSw); go_simp; (first | done | with_reducible rfl))
            try simp only [Act.put, List.setIfInBounds_toArray, List.set_cons_zero, List.set_cons_succ]
            refine wpAnyH_take (i := 6) (oi := ⟨_, _, _, _, _, _⟩) (v := ?vs6) rfl (by kernel_rfl) (by kernel_rfl) (by kernel_rfl) (fun _ _ _ h => h) (Or.inl ⟨by rfl, ?hys6⟩) hHeld ?_
            case hys6 => (intro wS hSw; (try dsimp only at hSw); go_simp; (first | done | with_reducible rfl))
            try simp only [Act.put, List.setIfInBounds_toArray, List.set_cons_zero, List.set_cons_succ]
            refine wpAnyH_take (i := 7) (oi := ⟨_, _, _, _, _, _⟩) (v := ?vs7) rfl (by kernel_rfl) (by kernel_rfl) (by kernel_rfl) (fun _ _ _ h => h) (Or.inl ⟨by rfl, ?hys7⟩) hHeld ?_
            case hys7 => (intro wS hSw; (try dsimp only at hSw); go_simp; (first | done | with_reducible rfl))
            try simp only [Act.put, List.setIfInBounds_toArray, List.set_cons_zero, List.set_cons_succ]
            refine wpAnyH_take (i := 8) (oi := ⟨_, _, _, _, _, _⟩) (v := ?vs8) rfl (by kernel_rfl) (by kernel_rfl) (by kernel_rfl) (fun _ _ _ h => h) (Or.inl ⟨by rfl, ?hys8⟩) hHeld ?_
            case hys8 => (intro wS hSw; (try dsimp only at hSw); go_simp; (first | done | with_reducible rfl))
            try simp only [Act.put, List.setIfInBounds_toArray, List.set_cons_zero, List.set_cons_succ]
            refine wpAnyH_take (i := 9) (oi := ⟨_, _, _, _, _, _⟩) (v := ?vs9) rfl (by kernel_rfl) (by kernel_rfl) (by kernel_rfl) (fun _ _ _ h => h) (Or.inl ⟨by rfl, ?hys9⟩) hHeld ?_
            case hys9 => (intro wS hSw; (try dsimp only at hSw); go_simp; (first | done | with_reducible rfl))
            try simp only [Act.put, List.setIfInBounds_toArray, List.set_cons_zero, List.set_cons_succ]
            refine wpAnyH_take (i := 10) (oi := ⟨_, _, _, _, _, _⟩) (v := ?vs10) rfl (by kernel_rfl) (by kernel_rfl) (by kernel_rfl) (fun _ _ _ h => h) (Or.inl ⟨by rfl, ?hys10⟩) hHeld ?_
            case hys10 => (intro wS hSw; (try dsimp only at hSw); go_simp; (first | done | with_reducible rfl))
            try simp only [Act.put, List.setIfInBounds_toArray, List.set_cons_zero, List.set_cons_succ]
            refine wpAnyH_take (i := 11) (oi := ⟨_, _, _, _, _, _⟩) (v := ?vs11) rfl (by kernel_rfl) (by kernel_rfl) (by kernel_rfl) (fun _ _ _ h => h) (Or.inl ⟨by rfl, ?hys11⟩) hHeld ?_
            case hys11 => (intro wS hSw; (try dsimp only at hSw); go_simp; (first | done | with_reducible rfl))
            try simp only [Act.put, List.setIfInBounds_toArray, List.set_cons_zero, List.set_cons_succ]
            refine wpAnyH_take (i := 12) (oi := ⟨_, _, _, _, _, _⟩) (v := ?vs12) rfl (by kernel_rfl) (by kernel_rfl) (by kernel_rfl) (fun _ _ _ h => h) (Or.inl ⟨by rfl, ?hys12⟩) hHeld ?_
            case hys12 => (intro wS hSw; (try dsimp only at hSw); go_simp; (first | done | with_reducible rfl))
            try simp only [Act.put, List.setIfInBounds_toArray, List.set_cons_zero, List.set_cons_succ]
            refine wpAnyH_take (i := 13) (oi := ⟨_, _, _, _, _, _⟩) (v := ?vs13) rfl (by kernel_rfl) (by kernel_rfl) (by kernel_rfl) (fun _ _ _ h => h) (Or.inl ⟨by rfl, ?hys13⟩) hHeld ?_
            case hys13 => (intro wS hSw; (try dsimp only at hSw); go_simp; (first | done | with_reducible rfl))
            try simp only [Act.put, List.setIfInBounds_toArray, List.set_cons_zero, List.set_cons_succ]
            refine wpAnyH_take (i := 14) (oi := ⟨_, _, _, _, _, _⟩) (v := ?vs14) rfl (by kernel_rfl) (by kernel_rfl) (by kernel_rfl) (fun _ _ _ h => h) (Or.inl ⟨by rfl, ?hys14⟩) hHeld ?_
            case hys14 => (intro wS hSw; (try dsimp only at hSw); go_simp; (first | done | with_reducible rfl))
            try simp only [Act.put, List.setIfInBounds_toArray, List.set_cons_zero, List.set_cons_succ]
            refine wpAnyH_take (i := 15) (oi := ⟨_, _, _, _, _, _⟩) (v := ?vs15) rfl (by kernel_rfl) (by kernel_rfl) (by kernel_rfl) (fun _ _ _ h => h) (Or.inl ⟨by rfl, ?hys15⟩) hHeld ?_
            case hys15 => (intro wS hSw; (try dsimp only at hSw); go_simp; (first | done | with_reducible rfl))
            try simp only [Act.put, List.setIfInBounds_toArray, List.set_cons_zero, List.set_cons_succ]
            refine wpAnyH_take (i := 16) (oi := ⟨_, _, _, _, _, _⟩) (v := ?vs16) rfl (by kernel_rfl) (by kernel_rfl) (by kernel_rfl) (fun _ _ _ h => h) (Or.inl ⟨by rfl, ?hys16⟩) hHeld ?_
            case hys16 => (intro wS hSw; (try dsimp only at hSw); go_simp; (first | done | with_reducible rfl))
            try simp only [Act.put, List.setIfInBounds_toArray, List.set_cons_zero, List.set_cons_succ]
            refine wpAnyH_take (i := 17) (oi := ⟨_, _, _, _, _, _⟩) (v := ?vs17) rfl (by kernel_rfl) (by kernel_rfl) (by kernel_rfl) (fun _ _ _ h => h) (Or.inl ⟨by rfl, ?hys17⟩) hHeld ?_
            case hys17 => (intro wS hSw; (try dsimp only at hSw); go_simp; (first | done | with_reducible rfl))
            try simp only [Act.put, List.setIfInBounds_toArray, List.set_cons_zero, List.set_cons_succ]
            refine wpAnyH_take (i := 18) (oi := ⟨_, _, _, _, _, _⟩) (v := ?vs18) rfl (by kernel_rfl) (by kernel_rfl) (by kernel_rfl) (fun _ _ _ h => h) (Or.inl ⟨by rfl, ?hys18⟩) hHeld ?_
            case hys18 => (intro wS hSw; (try dsimp only at hSw); go_simp; (first | done | with_reducible rfl))
            try simp only [Act.put, List.setIfInBounds_toArray, List.set_cons_zero, List.set_cons_succ]
            refine wpAnyH_take (i := 19) (oi := ⟨_, _, _, _, _, _⟩) (v := ?vs19) rfl (by kernel_rfl) (by kernel_rfl) (by kernel_rfl) (fun _ _ _ h => h) (Or.inl ⟨by rfl, ?hys19⟩) hHeld ?_
            case hys19 => (intro wS hSw; (try dsimp only at hSw); go_simp; (first | done | with_reducible rfl))
            try simp only [Act.put, List.setIfInBounds_toArray, List.set_cons_zero, List.set_cons_succ]
            refine wpAnyH_take (i := 20) (oi := ⟨_, _, _, _, _, _⟩) (v := ?vs20) rfl (by kernel_rfl) (by kernel_rfl) (by kernel_rfl) (fun _ _ _ h => h) (Or.inl ⟨by rfl, ?hys20⟩) hHeld ?_
            case hys20 => (intro wS hSw; (try dsimp only at hSw); go_simp; (first | done | with_reducible rfl))
            try simp only [Act.put, List.setIfInBounds_toArray, List.set_cons_zero, List.set_cons_succ]
            refine wpAnyH_ready (rs := [21]) (by kernel_rfl) (by simp) ?_
            refine AllReadyH.cons (o := ⟨_, _, _, _, _, _⟩) rfl (fun K hK => ?_) AllReadyH.nil
            go_simp
            (try (rw [hcv]; simp only [Result.andThen]; rw [Oper.upon_value]; go_wp2_with fail))
            refine hK.out _ _ ?ks21 (fun hNew => ?_)
            case ks21 => (try dsimp only); exact ⟨HGC.out.cell A1.out (by simp), HGC.out.cell A2.out (by simp), HGC.out.cell A3.out (by simp)⟩
            clear hK K hHeld
            have hHeld := hNew
            clear hNew
            try simp only [Act.put, List.setIfInBounds_toArray, List.set_cons_zero, List.set_cons_succ]
            refine wpAnyH_ready (rs := [22]) (by kernel_rfl) (by simp) ?_
            refine AllReadyH.cons (o := ⟨_, _, _, _, _, _⟩) rfl (fun K hK => ?_) AllReadyH.nil
            go_simp
            refine HS.out.mono ?_
            rintro e v ⟨rfl, S1, hn1, ht1⟩
            have HN1 := Lib.hid hn1
            have HT1 := Lib.hid ht1
            clear hn1 ht1 HS
            go_wp2_with fail
            refine hK.out _ _ ?ks22 (fun hNew => ?_)
            case ks22 => (try dsimp only); exact ⟨cell_off HT1.out.off.toOff HNGA.out hHeld.1, cell_off HT1.out.off.toOff HNGA.out hHeld.2.1, cell_off HT1.out.off.toOff HNGA.out hHeld.2.2⟩
            clear hK K hHeld
            have hHeld := hNew
            clear hNew
            try simp only [Act.put, List.setIfInBounds_toArray, List.set_cons_zero, List.set_cons_succ]
            refine wpAnyH_take (i := 23) (oi := ⟨_, _, _, _, _, _⟩) (v := ?vs23) rfl (by kernel_rfl) (by kernel_rfl) (by kernel_rfl) (fun _ _ _ h => h) (Or.inl ⟨by rfl, ?hys23⟩) hHeld ?_
            case hys23 => (intro wS hSw; (try dsimp only at hSw); go_simp; (first | done | with_reducible rfl))
            try simp only [Act.put, List.setIfInBounds_toArray, List.set_cons_zero, List.set_cons_succ]
            refine wpAnyH_take (i := 24) (oi := ⟨_, _, _, _, _, _⟩) (v := ?vs24) rfl (by kernel_rfl) (by kernel_rfl) (by kernel_rfl) (fun _ _ _ h => h) (Or.inl ⟨by rfl, ?hys24⟩) hHeld ?_
            case hys24 => (intro wS hSw; (try dsimp only at hSw); go_simp; (first | done | with_reducible rfl))
            try simp only [Act.put, List.setIfInBounds_toArray, List.set_cons_zero, List.set_cons_succ]
            refine wpAnyH_done (by kernel_rfl) ?_ _
            refine NoPanic.normal ?_
            have hturn : Turn S S1 wr v := ((Turn.begin_ HI.out.net.lt (drew_grown wr none)).more HGC.out).trans HT1.out
            rcases HCASES.out with ⟨e1, e2, e3⟩ | ⟨e1, e2⟩
            · have e1 : code = 0 := e1
              have e2 : D1 = D.more 0 ⟨c.i, c.to, c.b⟩ := e2
              obtain ⟨kt, hkt, hktn⟩ := Nt.is_nat e3
              have HF1 : Hid (Fair w' v n nb gs gg S1 D1 F G) := HI.out.turn HN1.out hturn (by rw [e2]; exact HI.out.ends)
              have HE := Lib.hid (And.intro e2 (And.intro hkt (show kt < n by rw [← HI.out.ends]; exact hktn)))
              subst e1
              clear e2 e3 hkt hktn hturn HCASES HN1 hHeld
              go_wp2_with fail
              go_meet
              exact ⟨true, S1, D1, rfl, HF1.out, .inl ⟨rfl, c, kt, HC.out, HE.out.2.1, HE.out.2.2, HE.out.1⟩⟩
            · have e2 : D1 = D := e2
              have HF1 : Hid (Fair w' v n nb gs gg S1 D1 F G) := HI.out.turn HN1.out hturn (by rw [e2]; exact HI.out.ends)
              have HE := Lib.hid e2
              have hne : decide (code = 0) = false := by rcases e1 with e | e <;> (have e : code = _ := e; subst e; rfl)
              have hne2 : (code == 0) = false := by rcases e1 with e | e <;> (have e : code = _ := e; subst e; rfl)
              clear e1 e2 hturn HCASES HN1 hHeld
              go_wp2_with fail
              go_meet
              exact ⟨false, S1, D1, by first | rfl | exact congrArg Value.bool hne2, HF1.out, .inr ⟨rfl, HE.out⟩⟩
          · have hkd : decide ((k : Int) < (l.length : Int)) = false := by simp; omega
            have hkd2 : decide (k < l.length) = false := by simpa using hl
            clear hl
            refine wp_region_noPanic ?_
            refine wp_region_held_drew (S := fun w' => w' = wr.drew) (by kernel_rfl) ?hSf (fun hHeld => ?_)
            case hSf => exact rfl
            refine wpAnyH_take (i := 0) (oi := ⟨_, _, _, _, _, _⟩) (v := ?vf0) rfl (by kernel_rfl) (by kernel_rfl) (by kernel_rfl) (fun _ _ _ h => h) (Or.inl ⟨by rfl, ?hyf0⟩) hHeld ?_
            case hyf0 => (intro wS hSw; (try dsimp only at hSw); go_simp; (first | done | with_reducible rfl))
            try simp only [Act.put, List.setIfInBounds_toArray, List.set_cons_zero, List.set_cons_succ]
            refine wpAnyH_take (i := 1) (oi := ⟨_, _, _, _, _, _⟩) (v := ?vf1) rfl (by kernel_rfl) (by kernel_rfl) (by kernel_rfl) (fun _ _ _ h => h) (Or.inl ⟨by rfl, ?hyf1⟩) hHeld ?_
            case hyf1 => (intro wS hSw; (try dsimp only at hSw); go_simp; (first | done | with_reducible rfl))
            try simp only [Act.put, List.setIfInBounds_toArray, List.set_cons_zero, List.set_cons_succ]
            refine wpAnyH_take (i := 2) (oi := ⟨_, _, _, _, _, _⟩) (v := ?vf2) rfl (by kernel_rfl) (by kernel_rfl) (by kernel_rfl) (fun _ _ _ h => h) (Or.inl ⟨by rfl, ?hyf2⟩) hHeld ?_
            case hyf2 => (intro wS hSw; (try dsimp only at hSw); go_simp; (first | done | with_reducible rfl))
            try simp only [Act.put, List.setIfInBounds_toArray, List.set_cons_zero, List.set_cons_succ]
            refine wpAnyH_take (i := 3) (oi := ⟨_, _, _, _, _, _⟩) (v := ?vf3) rfl (by kernel_rfl) (by kernel_rfl) (by kernel_rfl) (fun _ _ _ h => h) (Or.inl ⟨by rfl, ?hyf3⟩) hHeld ?_
            case hyf3 => (intro wS hSw; (try dsimp only at hSw); go_simp; (first | done | with_reducible rfl))
            try simp only [Act.put, List.setIfInBounds_toArray, List.set_cons_zero, List.set_cons_succ]
            refine wpAnyH_take (i := 4) (oi := ⟨_, _, _, _, _, _⟩) (v := ?vf4) rfl (by kernel_rfl) (by kernel_rfl) (by kernel_rfl) (fun _ _ _ h => h) (Or.inl ⟨by rfl, ?hyf4⟩) hHeld ?_
            case hyf4 => (intro wS hSw; (try dsimp only at hSw); go_simp; (first | done | with_reducible rfl))
            try simp only [Act.put, List.setIfInBounds_toArray, List.set_cons_zero, List.set_cons_succ]
            refine wpAnyH_take (i := 5) (oi := ⟨_, _, _, _, _, _⟩) (v := undef) rfl (by kernel_rfl) (by kernel_rfl) (by kernel_rfl) (fun _ _ _ h => h) (Or.inr ⟨by rfl, rfl⟩) hHeld ?_
            try simp only [Act.put, List.setIfInBounds_toArray, List.set_cons_zero, List.set_cons_succ]
            refine wpAnyH_take (i := 6) (oi := ⟨_, _, _, _, _, _⟩) (v := undef) rfl (by kernel_rfl) (by kernel_rfl) (by kernel_rfl) (fun _ _ _ h => h) (Or.inr ⟨by rfl, rfl⟩) hHeld ?_
            try simp only [Act.put, List.setIfInBounds_toArray, List.set_cons_zero, List.set_cons_succ]
            refine wpAnyH_take (i := 7) (oi := ⟨_, _, _, _, _, _⟩) (v := undef) rfl (by kernel_rfl) (by kernel_rfl) (by kernel_rfl) (fun _ _ _ h => h) (Or.inr ⟨by rfl, rfl⟩) hHeld ?_
            try simp only [Act.put, List.setIfInBounds_toArray, List.set_cons_zero, List.set_cons_succ]
            refine wpAnyH_take (i := 8) (oi := ⟨_, _, _, _, _, _⟩) (v := undef) rfl (by kernel_rfl) (by kernel_rfl) (by kernel_rfl) (fun _ _ _ h => h) (Or.inr ⟨by rfl, rfl⟩) hHeld ?_
            try simp only [Act.put, List.setIfInBounds_toArray, List.set_cons_zero, List.set_cons_succ]
            refine wpAnyH_take (i := 9) (oi := ⟨_, _, _, _, _, _⟩) (v := undef) rfl (by kernel_rfl) (by kernel_rfl) (by kernel_rfl) (fun _ _ _ h => h) (Or.inr ⟨by rfl, rfl⟩) hHeld ?_
            try simp only [Act.put, List.setIfInBounds_toArray, List.set_cons_zero, List.set_cons_succ]
            refine wpAnyH_take (i := 10) (oi := ⟨_, _, _, _, _, _⟩) (v := undef) rfl (by kernel_rfl) (by kernel_rfl) (by kernel_rfl) (fun _ _ _ h => h) (Or.inr ⟨by rfl, rfl⟩) hHeld ?_
            try simp only [Act.put, List.setIfInBounds_toArray, List.set_cons_zero, List.set_cons_succ]
            refine wpAnyH_take (i := 11) (oi := ⟨_, _, _, _, _, _⟩) (v := undef) rfl (by kernel_rfl) (by kernel_rfl) (by kernel_rfl) (fun _ _ _ h => h) (Or.inr ⟨by rfl, rfl⟩) hHeld ?_
            try simp only [Act.put, List.setIfInBounds_toArray, List.set_cons_zero, List.set_cons_succ]
            refine wpAnyH_take (i := 12) (oi := ⟨_, _, _, _, _, _⟩) (v := undef) rfl (by kernel_rfl) (by kernel_rfl) (by kernel_rfl) (fun _ _ _ h => h) (Or.inr ⟨by rfl, rfl⟩) hHeld ?_
            try simp only [Act.put, List.setIfInBounds_toArray, List.set_cons_zero, List.set_cons_succ]
            refine wpAnyH_take (i := 13) (oi := ⟨_, _, _, _, _, _⟩) (v := undef) rfl (by kernel_rfl) (by kernel_rfl) (by kernel_rfl) (fun _ _ _ h => h) (Or.inr ⟨by rfl, rfl⟩) hHeld ?_
            try simp only [Act.put, List.setIfInBounds_toArray, List.set_cons_zero, List.set_cons_succ]
            refine wpAnyH_take (i := 14) (oi := ⟨_, _, _, _, _, _⟩) (v := undef) rfl (by kernel_rfl) (by kernel_rfl) (by kernel_rfl) (fun _ _ _ h => h) (Or.inr ⟨by rfl, rfl⟩) hHeld ?_
            try simp only [Act.put, List.setIfInBounds_toArray, List.set_cons_zero, List.set_cons_succ]
            refine wpAnyH_take (i := 15) (oi := ⟨_, _, _, _, _, _⟩) (v := undef) rfl (by kernel_rfl) (by kernel_rfl) (by kernel_rfl) (fun _ _ _ h => h) (Or.inr ⟨by rfl, rfl⟩) hHeld ?_
            try simp only [Act.put, List.setIfInBounds_toArray, List.set_cons_zero, List.set_cons_succ]
            refine wpAnyH_take (i := 16) (oi := ⟨_, _, _, _, _, _⟩) (v := undef) rfl (by kernel_rfl) (by kernel_rfl) (by kernel_rfl) (fun _ _ _ h => h) (Or.inr ⟨by rfl, rfl⟩) hHeld ?_
            try simp only [Act.put, List.setIfInBounds_toArray, List.set_cons_zero, List.set_cons_succ]
            refine wpAnyH_take (i := 17) (oi := ⟨_, _, _, _, _, _⟩) (v := undef) rfl (by kernel_rfl) (by kernel_rfl) (by kernel_rfl) (fun _ _ _ h => h) (Or.inr ⟨by rfl, rfl⟩) hHeld ?_
            try simp only [Act.put, List.setIfInBounds_toArray, List.set_cons_zero, List.set_cons_succ]
            refine wpAnyH_take (i := 18) (oi := ⟨_, _, _, _, _, _⟩) (v := undef) rfl (by kernel_rfl) (by kernel_rfl) (by kernel_rfl) (fun _ _ _ h => h) (Or.inr ⟨by rfl, rfl⟩) hHeld ?_
            try simp only [Act.put, List.setIfInBounds_toArray, List.set_cons_zero, List.set_cons_succ]
            refine wpAnyH_take (i := 19) (oi := ⟨_, _, _, _, _, _⟩) (v := undef) rfl (by kernel_rfl) (by kernel_rfl) (by kernel_rfl) (fun _ _ _ h => h) (Or.inr ⟨by rfl, rfl⟩) hHeld ?_
            try simp only [Act.put, List.setIfInBounds_toArray, List.set_cons_zero, List.set_cons_succ]
            refine wpAnyH_take (i := 20) (oi := ⟨_, _, _, _, _, _⟩) (v := undef) rfl (by kernel_rfl) (by kernel_rfl) (by kernel_rfl) (fun _ _ _ h => h) (Or.inr ⟨by rfl, rfl⟩) hHeld ?_
            try simp only [Act.put, List.setIfInBounds_toArray, List.set_cons_zero, List.set_cons_succ]
            refine wpAnyH_ready (rs := [21]) (by kernel_rfl) (by simp) ?_
            refine AllReadyH.cons (o := ⟨_, _, _, _, _, _⟩) rfl (fun K hK => ?_) AllReadyH.nil
            go_simp
            refine hK.out _ _ ?kf21 (fun hNew => ?_)
            case kf21 => (try dsimp only); (try exact hHeld)
            clear hK K hHeld
            have hHeld := hNew
            clear hNew
            try simp only [Act.put, List.setIfInBounds_toArray, List.set_cons_zero, List.set_cons_succ]
            refine wpAnyH_ready (rs := [22]) (by kernel_rfl) (by simp) ?_
            refine AllReadyH.cons (o := ⟨_, _, _, _, _, _⟩) rfl (fun K hK => ?_) AllReadyH.nil
            go_simp
            refine hK.out _ _ ?kf22 (fun hNew => ?_)
            case kf22 => (try dsimp only); (try exact hHeld)
            clear hK K hHeld
            have hHeld := hNew
            clear hNew
            try simp only [Act.put, List.setIfInBounds_toArray, List.set_cons_zero, List.set_cons_succ]
            refine wpAnyH_take (i := 23) (oi := ⟨_, _, _, _, _, _⟩) (v := undef) rfl (by kernel_rfl) (by kernel_rfl) (by kernel_rfl) (fun _ _ _ h => h) (Or.inr ⟨by rfl, rfl⟩) hHeld ?_
            try simp only [Act.put, List.setIfInBounds_toArray, List.set_cons_zero, List.set_cons_succ]
            refine wpAnyH_take (i := 24) (oi := ⟨_, _, _, _, _, _⟩) (v := ?vf24) rfl (by kernel_rfl) (by kernel_rfl) (by kernel_rfl) (fun _ _ _ h => h) (Or.inl ⟨by rfl, ?hyf24⟩) hHeld ?_
            case hyf24 => (intro wS hSw; (try dsimp only at hSw); go_simp; (first | done | with_reducible rfl))
            try simp only [Act.put, List.setIfInBounds_toArray, List.set_cons_zero, List.set_cons_succ]
            refine wpAnyH_done (by kernel_rfl) ?_ _
            refine NoPanic.normal ?_
            go_wp2_with fail
            go_meet
            exact ⟨false, S, D, rfl, HI.out.grown (drew_grown wr none), .inr ⟨rfl, rfl⟩⟩
        case rest =>
          obtain ⟨b, S1, D1, rfl, hI1, hb⟩ := hcut
          have HI1 := Lib.hid hI1
          have HBB := Lib.hid hb
          clear hI1 hb
          go_upto_if 58 with fail
          go_cut [10] from 27 to 135 (fun s10 wx => s10 = .int .i64 (k : Int) ∧ ∃ (S2 : Nat → Prop) (D2 : Nt) (F2 : Nat → List UInt8), Fair w' wx n nb gs gg S2 D2 F2 G ∧ (∀ j, j < n → D2.row (j + 1) = []) ∧ (D2.row 0).length ≤ (if k < l.length then m + 1 else m) ∧ (∀ j, j < n → F2 j = tx (flt j (dn ++ D2.row 0))) ∧ (∀ p ∈ dn ++ D2.row 0, p.b.length ≤ 100) ∧ (dn ++ D2.row 0).length ≤ k + 1)
          case first =>
            cases b
            case false =>
              go_wp2_with fail
              go_meet
              rcases HBB.out with ⟨e, _⟩ | ⟨_, e⟩
              · cases e
              · subst e
                exact ⟨rfl, S1, D1, F, HI1.out, HB.out.1, by have := HB.out.2.1; split <;> omega, HB.out.2.2.1, HSM.out.1, Nat.le_succ_of_le HSM.out.2⟩
            case true =>
              obtain ⟨c, kt, hc, hkt, hktn, hD1⟩ : ∃ (c : ActV) (kt : Nat), l[k]? = some c ∧ c.to = (kt : Int) ∧ kt < n ∧ D1 = D.more 0 ⟨c.i, c.to, c.b⟩ := by
                rcases HBB.out with ⟨_, h⟩ | ⟨e, _⟩
                · exact h
                · cases e
              have hl : k < l.length := (List.getElem?_eq_some_iff.1 hc).1
              obtain ⟨ga, off, c', rfl, hc', hga, hgalt, a0, a1, a2, a3⟩ := (HA.out.off HI1.out.off).at_ hl
              rw [hc] at hc'
              obtain rfl : c = c' := Option.some.inj hc'
              rw [hkt] at a2
              have C2 : Hid (wc.drew.cell? ⟨ga, off + k * 4 + 2, none⟩ = some (.int .i64 (kt : Int))) := a2
              have C3 : Hid (wc.drew.cell? ⟨ga, off + k * 4 + 3, none⟩ = some (strV c.b)) := a3
              have C4 : Hid (wc.drew.cell? ⟨gs, kt, none⟩ = some (strV (F kt)) ∧ wc.drew.frozen? ⟨gs, kt, none⟩ = false) := HI1.out.cellS hktn
              have hne : gs ≠ ga := by have := HI1.out.apart; omega
              have HSET : Hid (∀ (o : Nat) v u, wc.drew.cell? ⟨ga, o, none⟩ = some v → (wc.drew.setCell ⟨gs, kt, none⟩ u).cell? ⟨ga, o, none⟩ = some v) := fun o v u hv => (World.cell?_setCell_other _ _ _ _ (by first | (simp; done) | (simp; omega))).trans hv
              have k0 : (0 : Int) ≤ (k : Int) := by omega
              have k1 : (k : Int) < (l.length : Int) := by omega
              have t0 : decide ((kt : Int) < 0) = false := decide_eq_false (by omega)
              have t1 : decide ((n : Int) ≤ (kt : Int)) = false := decide_eq_false (by omega)
              have t1b : decide (n ≤ kt) = false := decide_eq_false (by omega)
              have t2 : (0 : Int) ≤ (kt : Int) := by omega
              have t3 : (kt : Int) < (n : Int) := by omega
              have hcb : c.b.length ≤ 100 := HL.out.2 c (List.mem_of_getElem? hc)
              have hfl : (F kt).length ≤ 101000 := by
                rw [HB.out.2.2.1 kt hktn]
                exact text_small kt HSM.out.1 (by have := HSM.out.2; have := HL.out.1; have := HM.out; have := HLT.out; omega)
              have hz1 : ¬ 9223372036854775807 < (bs (F kt)).size + (bs c.b).size := by rw [bs_size, bs_size]; omega
              have hz2 : ¬ 9223372036854775807 < (bs (F kt)).size + (bs c.b).size + 1 := by rw [bs_size, bs_size]; omega
              have HCB := Lib.hid hcb
              clear hcb hfl
              have HX := Lib.hid (And.intro hl (And.intro hkt (And.intro hktn hD1)))
              clear hc hc' hl hkt hktn hD1 hga hgalt a0 a1 a3 hne
              go_wp2_with fail
              clear a2
              refine wp_region_noPanic ?_
              refine wp_region_held_drew (S := fun w' => w'.cell? ⟨ga, off + k * 4 + 2, none⟩ = some (.int .i64 (kt : Int)) ∧ w'.cell? ⟨ga, off + k * 4 + 3, none⟩ = some (strV c.b)) (by kernel_rfl) ?hSg (fun hHeld => ?_)
              case hSg => exact ⟨C2.out, C3.out⟩
              refine wpAnyH_take (i := 0) (oi := ⟨_, _, _, _, _, _⟩) (v := ?vg0) rfl (by kernel_rfl) (by kernel_rfl) (by kernel_rfl) (fun _ _ _ h => h) (Or.inl ⟨by rfl, ?hyg0⟩) hHeld ?_
              case hyg0 => (intro wS hSw; (try dsimp only at hSw); go_simp; (first | done | with_reducible rfl))
              try simp only [Act.put, List.setIfInBounds_toArray, List.set_cons_zero, List.set_cons_succ]
              refine wpAnyH_take (i := 1) (oi := ⟨_, _, _, _, _, _⟩) (v := ?vg1) rfl (by kernel_rfl) (by kernel_rfl) (by kernel_rfl) (fun _ _ _ h => h) (Or.inl ⟨by rfl, ?hyg1⟩) hHeld ?_
              case hyg1 => (intro wS hSw; (try dsimp only at hSw); go_simp; (first | done | with_reducible rfl))
              try simp only [Act.put, List.setIfInBounds_toArray, List.set_cons_zero, List.set_cons_succ]
              refine wpAnyH_take (i := 2) (oi := ⟨_, _, _, _, _, _⟩) (v := ?vg2) rfl (by kernel_rfl) (by kernel_rfl) (by kernel_rfl) (fun _ _ _ h => h) (Or.inl ⟨by rfl, ?hyg2⟩) hHeld ?_
              case hyg2 => (intro wS hSw; (try dsimp only at hSw); go_simp; (first | done | with_reducible rfl))
              try simp only [Act.put, List.setIfInBounds_toArray, List.set_cons_zero, List.set_cons_succ]
              refine wpAnyH_take (i := 3) (oi := ⟨_, _, _, _, _, _⟩) (v := ?vg3) rfl (by kernel_rfl) (by kernel_rfl) (by kernel_rfl) (fun _ _ _ h => h) (Or.inl ⟨by rfl, ?hyg3⟩) hHeld ?_
              case hyg3 => (intro wS hSw; (try dsimp only at hSw); go_simp; (first | done | with_reducible rfl))
              try simp only [Act.put, List.setIfInBounds_toArray, List.set_cons_zero, List.set_cons_succ]
              refine wpAnyH_take (i := 4) (oi := ⟨_, _, _, _, _, _⟩) (v := ?vg4) rfl (by kernel_rfl) (by kernel_rfl) (by kernel_rfl) (fun _ _ _ h => h) (Or.inl ⟨by rfl, ?hyg4⟩) hHeld ?_
              case hyg4 => (intro wS hSw; (try dsimp only at hSw); go_simp; (first | done | with_reducible rfl))
              try simp only [Act.put, List.setIfInBounds_toArray, List.set_cons_zero, List.set_cons_succ]
              refine wpAnyH_take (i := 5) (oi := ⟨_, _, _, _, _, _⟩) (v := ?vg5) rfl (by kernel_rfl) (by kernel_rfl) (by kernel_rfl) (fun _ _ _ h => h) (Or.inl ⟨by rfl, ?hyg5⟩) hHeld ?_
              case hyg5 => (intro wS hSw; (try dsimp only at hSw); go_simp; (first | done | with_reducible rfl))
              try simp only [Act.put, List.setIfInBounds_toArray, List.set_cons_zero, List.set_cons_succ]
              refine wpAnyH_take (i := 6) (oi := ⟨_, _, _, _, _, _⟩) (v := ?vg6) rfl (by kernel_rfl) (by kernel_rfl) (by kernel_rfl) (fun _ _ _ h => h) (Or.inl ⟨by rfl, ?hyg6⟩) hHeld ?_
              case hyg6 => (intro wS hSw; (try dsimp only at hSw); go_simp; (first | done | with_reducible rfl))
              try simp only [Act.put, List.setIfInBounds_toArray, List.set_cons_zero, List.set_cons_succ]
              refine wpAnyH_take (i := 7) (oi := ⟨_, _, _, _, _, _⟩) (v := ?vg7) rfl (by kernel_rfl) (by kernel_rfl) (by kernel_rfl) (fun _ _ _ h => h) (Or.inl ⟨by rfl, ?hyg7⟩) hHeld ?_
              case hyg7 => (intro wS hSw; (try dsimp only at hSw); go_simp; (first | done | with_reducible rfl))
              try simp only [Act.put, List.setIfInBounds_toArray, List.set_cons_zero, List.set_cons_succ]
              refine wpAnyH_take (i := 8) (oi := ⟨_, _, _, _, _, _⟩) (v := ?vg8) rfl (by kernel_rfl) (by kernel_rfl) (by kernel_rfl) (fun _ _ _ h => h) (Or.inl ⟨by rfl, ?hyg8⟩) hHeld ?_
              case hyg8 => (intro wS hSw; (try dsimp only at hSw); go_simp; (first | done | with_reducible rfl))
              try simp only [Act.put, List.setIfInBounds_toArray, List.set_cons_zero, List.set_cons_succ]
              refine wpAnyH_take (i := 9) (oi := ⟨_, _, _, _, _, _⟩) (v := ?vg9) rfl (by kernel_rfl) (by kernel_rfl) (by kernel_rfl) (fun _ _ _ h => h) (Or.inl ⟨by rfl, ?hyg9⟩) hHeld ?_
              case hyg9 => (intro wS hSw; (try dsimp only at hSw); go_simp; (first | done | with_reducible rfl))
              try simp only [Act.put, List.setIfInBounds_toArray, List.set_cons_zero, List.set_cons_succ]
              refine wpAnyH_take (i := 10) (oi := ⟨_, _, _, _, _, _⟩) (v := ?vg10) rfl (by kernel_rfl) (by kernel_rfl) (by kernel_rfl) (fun _ _ _ h => h) (Or.inl ⟨by rfl, ?hyg10⟩) hHeld ?_
              case hyg10 => (intro wS hSw; (try dsimp only at hSw); go_simp; (first | done | with_reducible rfl))
              try simp only [Act.put, List.setIfInBounds_toArray, List.set_cons_zero, List.set_cons_succ]
              refine wpAnyH_take (i := 11) (oi := ⟨_, _, _, _, _, _⟩) (v := ?vg11) rfl (by kernel_rfl) (by kernel_rfl) (by kernel_rfl) (fun _ _ _ h => h) (Or.inl ⟨by rfl, ?hyg11⟩) hHeld ?_
              case hyg11 => (intro wS hSw; (try dsimp only at hSw); go_simp; (first | done | with_reducible rfl))
              try simp only [Act.put, List.setIfInBounds_toArray, List.set_cons_zero, List.set_cons_succ]
              refine wpAnyH_take (i := 12) (oi := ⟨_, _, _, _, _, _⟩) (v := ?vg12) rfl (by kernel_rfl) (by kernel_rfl) (by kernel_rfl) (fun _ _ _ h => h) (Or.inl ⟨by rfl, ?hyg12⟩) hHeld ?_
              case hyg12 => (intro wS hSw; (try dsimp only at hSw); go_simp; (first | done | with_reducible rfl))
              try simp only [Act.put, List.setIfInBounds_toArray, List.set_cons_zero, List.set_cons_succ]
              refine wpAnyH_take (i := 14) (oi := ⟨_, _, _, _, _, _⟩) (v := ?vg14) rfl (by kernel_rfl) (by kernel_rfl) (by kernel_rfl) (fun _ _ _ h => h) (Or.inl ⟨by rfl, ?hyg14⟩) hHeld ?_
              case hyg14 => (intro wS hSw; (try dsimp only at hSw); go_simp; (first | done | with_reducible rfl))
              try simp only [Act.put, List.setIfInBounds_toArray, List.set_cons_zero, List.set_cons_succ]
              refine wpAnyH_take (i := 15) (oi := ⟨_, _, _, _, _, _⟩) (v := ?vg15) rfl (by kernel_rfl) (by kernel_rfl) (by kernel_rfl) (fun _ _ _ h => h) (Or.inl ⟨by rfl, ?hyg15⟩) hHeld ?_
              case hyg15 => (intro wS hSw; (try dsimp only at hSw); go_simp; (first | done | with_reducible rfl))
              try simp only [Act.put, List.setIfInBounds_toArray, List.set_cons_zero, List.set_cons_succ]
              refine wpAnyH_take (i := 16) (oi := ⟨_, _, _, _, _, _⟩) (v := ?vg16) rfl (by kernel_rfl) (by kernel_rfl) (by kernel_rfl) (fun _ _ _ h => h) (Or.inl ⟨by rfl, ?hyg16⟩) hHeld ?_
              case hyg16 => (intro wS hSw; (try dsimp only at hSw); go_simp; (first | done | with_reducible rfl))
              try simp only [Act.put, List.setIfInBounds_toArray, List.set_cons_zero, List.set_cons_succ]
              refine wpAnyH_take (i := 17) (oi := ⟨_, _, _, _, _, _⟩) (v := ?vg17) rfl (by kernel_rfl) (by kernel_rfl) (by kernel_rfl) (fun _ _ _ h => h) (Or.inl ⟨by rfl, ?hyg17⟩) hHeld ?_
              case hyg17 => (intro wS hSw; (try dsimp only at hSw); go_simp; (first | done | with_reducible rfl))
              try simp only [Act.put, List.setIfInBounds_toArray, List.set_cons_zero, List.set_cons_succ]
              refine wpAnyH_take (i := 18) (oi := ⟨_, _, _, _, _, _⟩) (v := ?vg18) rfl (by kernel_rfl) (by kernel_rfl) (by kernel_rfl) (fun _ _ _ h => h) (Or.inl ⟨by rfl, ?hyg18⟩) hHeld ?_
              case hyg18 => (intro wS hSw; (try dsimp only at hSw); go_simp; (first | done | with_reducible rfl))
              try simp only [Act.put, List.setIfInBounds_toArray, List.set_cons_zero, List.set_cons_succ]
              refine wpAnyH_ready (rs := [13]) (by kernel_rfl) (by simp) ?_
              refine AllReadyH.cons (o := ⟨_, _, _, _, _, _⟩) rfl (fun K hK => ?_) AllReadyH.nil
              obtain ⟨c4, c5⟩ := C4.out
              go_simp
              clear c4 c5
              refine hK.out _ _ ?kg13 (fun hNew => ?_)
              case kg13 => (try dsimp only); exact hHeld
              clear hK K hHeld
              have hHeld := hNew
              clear hNew
              try simp only [Act.put, List.setIfInBounds_toArray, List.set_cons_zero, List.set_cons_succ]
              refine wpAnyH_take (i := 19) (oi := ⟨_, _, _, _, _, _⟩) (v := ?vg19) rfl (by kernel_rfl) (by kernel_rfl) (by kernel_rfl) (fun _ _ _ h => h) (Or.inl ⟨by rfl, ?hyg19⟩) hHeld ?_
              case hyg19 => (intro wS hSw; (try dsimp only at hSw); go_simp; (first | done | with_reducible rfl))
              try simp only [Act.put, List.setIfInBounds_toArray, List.set_cons_zero, List.set_cons_succ]
              refine wpAnyH_take (i := 20) (oi := ⟨_, _, _, _, _, _⟩) (v := ?vg20) rfl (by kernel_rfl) (by kernel_rfl) (by kernel_rfl) (fun _ _ _ h => h) (Or.inl ⟨by rfl, ?hyg20⟩) hHeld ?_
              case hyg20 => (intro wS hSw; (try dsimp only at hSw); go_simp; (first | done | with_reducible rfl))
              try simp only [Act.put, List.setIfInBounds_toArray, List.set_cons_zero, List.set_cons_succ]
              refine wpAnyH_take (i := 21) (oi := ⟨_, _, _, _, _, _⟩) (v := ?vg21) rfl (by kernel_rfl) (by kernel_rfl) (by kernel_rfl) (fun _ _ _ h => h) (Or.inl ⟨by rfl, ?hyg21⟩) hHeld ?_
              case hyg21 => (intro wS hSw; (try dsimp only at hSw); go_simp; (first | done | with_reducible rfl))
              try simp only [Act.put, List.setIfInBounds_toArray, List.set_cons_zero, List.set_cons_succ]
              refine wpAnyH_ready (rs := [22]) (by kernel_rfl) (by simp) ?_
              refine AllReadyH.cons (o := ⟨_, _, _, _, _, _⟩) rfl (fun K hK => ?_) AllReadyH.nil
              obtain ⟨c4, c5⟩ := C4.out
              go_simp
              clear c4 c5
              refine hK.out _ _ ?kg22 (fun hNew => ?_)
              case kg22 => (try dsimp only); exact ⟨HSET.out _ _ _ hHeld.1, HSET.out _ _ _ hHeld.2⟩
              clear hK K hHeld
              have hHeld := hNew
              clear hNew
              try simp only [Act.put, List.setIfInBounds_toArray, List.set_cons_zero, List.set_cons_succ]
              refine wpAnyH_done (by kernel_rfl) ?_ _
              refine NoPanic.normal ?_
              have hI2 := (HI1.out.grown (drew_grown wc none)).setS kt (F kt ++ (c.b ++ [59]))
              have HI2 := Lib.hid hI2
              obtain ⟨c4, c5⟩ := C4.out
              clear hI2 hHeld
              go_wp2_with fail
              go_meet
              rw [str_more]
              obtain ⟨hl, hkt, hktn, rfl⟩ := HX.out
              refine ⟨rfl, S1, _, _, HI2.out, HB.out.1, ?_, ?_, ?_, ?_⟩
              · rw [if_pos hl, Nt.more_row, if_pos rfl, List.length_append]
                have := HB.out.2.1
                simp; omega
              · have := text_more (p := ⟨c.i, c.to, c.b⟩) HB.out.2.2.1 hkt hktn
                rw [Nt.more_row, if_pos rfl]
                intro j hj
                have h1 := this j hj
                rw [List.append_assoc dn] at h1
                exact h1
              · rw [Nt.more_row, if_pos rfl, ← List.append_assoc]
                intro p hp
                rcases List.mem_append.1 hp with hp | hp
                · exact HSM.out.1 p hp
                · simp at hp; subst hp; exact HCB.out
              · rw [Nt.more_row, if_pos rfl, ← List.append_assoc, List.length_append]
                have := HSM.out.2
                simp only [List.length_cons, List.length_nil]; omega
          case rest =>
            obtain ⟨rfl, S2, D2, F2, hI2, hbox, hway, hF, hsm, hcnt⟩ := hcut
            have HI2 := Lib.hid hI2
            have HB2 := Lib.hid (And.intro hbox (And.intro hway (And.intro hF (And.intro hsm hcnt))))
            clear hI2 hbox hway hF hsm hcnt HBB HI1
            go_upto_region 12 with fail
            go_cut [108] from 27 to 135 (fun s108 wx => wx = wc ∧ ∃ b : Bool, s108 = .bool b ∧ (k < l.length ∨ b = false))
            case first =>
              by_cases hl : k < l.length
              · have hkd : decide ((k : Int) < (l.length : Int)) = true := by simp; omega
                have hkd2 : decide (k < l.length) = true := by simpa using hl
                have HLL := Lib.hid hl
                clear hl
                go_wp2_with fail
                go_meet
                exact ⟨rfl, _, rfl, .inl HLL.out⟩
              · have hkd : decide ((k : Int) < (l.length : Int)) = false := by simp; omega
                have hkd2 : decide (k < l.length) = false := by simpa using hl
                clear hl
                go_wp2_with fail
                go_meet
                exact ⟨rfl, false, rfl, .inr rfl⟩
            case rest =>
              obtain ⟨rfl, b, rfl, hbl⟩ := hcut
              have HBL := Lib.hid hbl
              clear hbl
              cases b
              case true =>
                go_wp2_with fail
                go_roundw
                case rel =>
                  have hl : k < l.length := by
                    rcases HBL.out with h | h
                    · exact h
                    · cases h
                  have hway := HB2.out.2.1
                  rw [if_pos hl] at hway
                  have := HL.out.1
                  have := HM.out
                  have := HK.out
                  have hM4 : M ≤ 400 := by omega
                  have hlt := HLT.out
                  exact ⟨k + 1, m + 1, S2, D2, F2, G, dn, HLT.out, num_next k (by omega), ⟨by omega, by omega⟩, HI2.out, HB2.out.1, hway, HB2.out.2.2.1, HB.out.2.2.2, HB2.out.2.2.2.1, HB2.out.2.2.2.2⟩
                case measure => exact meas_next M k HLT.out (by have := HLT.out; have := HL.out.1; have := HM.out; omega)
              case false =>
                have hok := HI2.out.net.ok
                have hdel := deliver_first D2 hok (by rw [HI2.out.ends]; exact HB2.out.1)
                rw [HI2.out.ends] at hdel
                have hdat := deliver_at S2 nb D2 0 wc HI2.out.net
                have hcode : ∃ code : Int, (D2.deliver 0).1 = code := ⟨_, rfl⟩
                obtain ⟨code, hcode⟩ := hcode
                rw [hcode] at hdat
                clear hcode
                generalize (D2.deliver 0).2 = D3 at hdel hdat
                have HDEL := Lib.hid hdel
                have HDAT := Lib.hid hdat
                clear hdel hdat hok
                go_wp2_with fail
                refine HDAT.out.mono ?_
                rintro e v ⟨rfl, S3, hn3, ht3⟩
                have HI3 := Lib.hid (HI2.out.turn hn3 ht3 HDEL.out.1)
                clear hn3 ht3
                go_wp2_with fail
                go_loopw [11] (fun jv wr => ∃ (j : Nat) (S : Nat → Prop) (G' : Nat → List UInt8), j ≤ n ∧ jv = .int .i64 (j : Int) ∧ Fair w' wr n nb gs gg S (D3.upto j) F2 G' ∧ (∀ x, x < n → G' x = if x < j then G x ++ tx (D3.row (x + 1)) else G x)) (fun jv _ => n - (intOf jv).toNat)
                case atStart => exact ⟨0, S3, G, Nat.zero_le _, rfl, by rw [upto_zero]; exact HI3.out, fun x _ => by rw [if_neg (by omega)]⟩
                case round =>
                  obtain ⟨j, S4, G4, hj, rfl, hI4, hG4⟩ := hrel
                  have HI4 := Lib.hid hI4
                  have HG4 := Lib.hid hG4
                  clear hI4 hG4
                  by_cases hjn : j < n
                  · have hjd : decide ((j : Int) < (n : Int)) = true := by simp; omega
                    have hjd2 : decide (j < n) = true := by simpa using hjn
                    have j0 : (0 : Int) ≤ (j : Int) := by omega
                    have j1 : (j : Int) < (n : Int) := by omega
                    have hflt := HDEL.out.2.2 j hjn
                    have hup := upto_receive D3 j (by rw [HDEL.out.1]; exact hjn) (by rw [hflt]; exact Nat.le_trans (List.length_filter_le _ _) (by simp; omega))
                    have hrc := receive_at S4 nb (D3.upto j) (j : Int) wr HI4.out.net
                    rw [hup] at hrc
                    have HJN := Lib.hid hjn
                    clear hup hjn
                    cases hrow : D3.row (j + 1) with
                    | nil =>
                      rw [hrow] at hrc
                      have HRC := Lib.hid hrc
                      have HROW := Lib.hid hrow
                      clear hrc hrow hflt
                      go_wp2_with fail
                      refine HRC.out.mono ?_
                      rintro e v2 ⟨A2, cap2, rfl, hby, hn5, ht5⟩
                      have HI5 := Lib.hid (HI4.out.turn hn5 ht5 HDEL.out.1)
                      clear hby hn5 ht5 HRC
                      go_wp2_with fail
                      go_roundw
                      case rel =>
                        refine ⟨j + 1, S4, G4, HJN.out, num_next j (by have := HN.out; have := HJN.out; omega), HI5.out.grown (World.grownBy_alloc _ _ none), fun x hx => ?_⟩
                        rw [HG4.out x hx]
                        by_cases e : x = j
                        · subst e; rw [if_neg (by omega), if_pos (by omega), HROW.out]; simp [tx]
                        · by_cases h : x < j
                          · rw [if_pos h, if_pos (by omega)]
                          · rw [if_neg h, if_neg (by omega)]
                      case measure => exact meas_next n j HJN.out (by have := HN.out; have := HJN.out; omega)
                    | cons p r =>
                      have hpr : r = [] ∧ p ∈ D2.row 0 := by
                        rw [hrow] at hflt
                        have h1 : (p :: r).length ≤ 1 := by rw [hflt]; exact Nat.le_trans (List.length_filter_le _ _) (by simp; omega)
                        have h2 : p ∈ flt j ((D2.row 0).take 1) := by rw [← hflt]; simp
                        exact ⟨List.eq_nil_of_length_eq_zero (by simp at h1 ⊢; exact h1), List.mem_of_mem_take (List.filter_sublist.subset h2)⟩
                      obtain ⟨rfl, hp⟩ := hpr
                      have hpb : p.b.length ≤ 100 := HB2.out.2.2.2.1 p (List.mem_append.2 (.inr hp))
                      rw [hrow] at hrc
                      have HRC := Lib.hid hrc
                      have HROW := Lib.hid hrow
                      have hgl : (G4 j).length ≤ 101000 := by
                        rw [HG4.out j HJN.out, if_neg (by omega), HB.out.2.2.2 j HJN.out]
                        exact text_small j (fun q hq => HB2.out.2.2.2.1 q (List.mem_append.2 (.inl hq))) (by
                          have h1 := HB2.out.2.2.2.2
                          rw [List.length_append] at h1
                          have := HL.out.1; have := HM.out; have := HLT.out; omega)
                      have hz1 : ¬ 9223372036854775807 < (bs (G4 j)).size + (bs p.b).size := by rw [bs_size, bs_size]; omega
                      have hz2 : ¬ 9223372036854775807 < (bs (G4 j)).size + (bs p.b).size + 1 := by rw [bs_size, bs_size]; omega
                      clear hrc hrow hflt hp hpb hgl
                      go_wp2_with fail
                      refine HRC.out.mono ?_
                      rintro e v2 ⟨A2, cap2, rfl, hby, hn5, ht5⟩
                      have hby : Bytes v2 S4 A2 p.b := hby
                      have HI5 := Lib.hid (HI4.out.turn hn5 ht5 HDEL.out.1)
                      have HBY := Lib.hid hby
                      clear hby hn5 ht5 HRC
                      go_upto_region 19 with fail
                      have hgx := World.grownBy_alloc v2 (.cells #[.int .i64 p.src, .int .i64 p.to, .slice A2 p.b.length cap2] 37) none
                      have hbx := (MapKept.heap_alloc v2 (.cells #[.int .i64 p.src, .int .i64 p.to, .slice A2 p.b.length cap2] 37)).1
                      generalize v2.alloc (.cells #[.int .i64 p.src, .int .i64 p.to, .slice A2 p.b.length cap2] 37) = x at hgx hbx ⊢
                      have hgl2 : v2.heap.size ≠ gg := by
                        have := (Array.getElem?_eq_some_iff.1 HI5.out.got).1
                        omega
                      generalize v2.heap.size = gp at hbx hgl2 ⊢
                      have hI6 := HI5.out.grown (hgx.andThen (drew_grown x none) (fun _ hj => .inr hj))
                      have P2 : Hid (x.drew.cell? ⟨gp, 2, none⟩ = some (.slice A2 p.b.length cap2)) := by
                        have hbx' : x.drew.heap[gp]? = _ := hbx
                        show World.cell? _ _ = _
                        simp only [World.cell?, hbx']; rfl
                      have PB : Hid (Bytes x.drew S4 A2 p.b) := HBY.out.grown (hgx.andThen (drew_grown x none) (fun _ hj => .inr hj))
                      have C4 : Hid (x.drew.cell? ⟨gg, j, none⟩ = some (strV (G4 j)) ∧ x.drew.frozen? ⟨gg, j, none⟩ = false) := hI6.cellG HJN.out
                      have HSET : Hid (∀ u, (x.drew.setCell ⟨gg, j, none⟩ u).cell? ⟨gp, 2, none⟩ = some (.slice A2 p.b.length cap2) ∧ Bytes (x.drew.setCell ⟨gg, j, none⟩ u) S4 A2 p.b) := fun u => ⟨(World.cell?_setCell_other _ _ _ _ (by first | (simp; done) | (simp; omega))).trans P2.out, PB.out.set ⟨_, _, hI6.got⟩ (by decide)⟩
                      have HI6 := Lib.hid hI6
                      clear hI6 hgx hbx hgl2
                      refine wp_region_noPanic ?_
                      refine wp_region_held_drew (S := fun w' => w'.cell? ⟨gp, 2, none⟩ = some (.slice A2 p.b.length cap2) ∧ Bytes w' S4 A2 p.b) (by kernel_rfl) ?hSh (fun hHeld => ?_)
                      case hSh => exact ⟨P2.out, PB.out⟩
                      refine wpAnyH_take (i := 0) (oi := ⟨_, _, _, _, _, _⟩) (v := ?vh0) rfl (by kernel_rfl) (by kernel_rfl) (by kernel_rfl) (fun _ _ _ h => h) (Or.inl ⟨by rfl, ?hyh0⟩) hHeld ?_
                      case hyh0 => (intro wS hSw; (try dsimp only at hSw); go_simp; (first | done | with_reducible rfl))
                      try simp only [Act.put, List.setIfInBounds_toArray, List.set_cons_zero, List.set_cons_succ]
                      refine wpAnyH_take (i := 1) (oi := ⟨_, _, _, _, _, _⟩) (v := ?vh1) rfl (by kernel_rfl) (by kernel_rfl) (by kernel_rfl) (fun _ _ _ h => h) (Or.inl ⟨by rfl, ?hyh1⟩) hHeld ?_
                      case hyh1 => (intro wS hSw; (try dsimp only at hSw); go_simp; (first | done | with_reducible rfl))
                      try simp only [Act.put, List.setIfInBounds_toArray, List.set_cons_zero, List.set_cons_succ]
                      refine wpAnyH_take (i := 2) (oi := ⟨_, _, _, _, _, _⟩) (v := ?vh2) rfl (by kernel_rfl) (by kernel_rfl) (by kernel_rfl) (fun _ _ _ h => h) (Or.inl ⟨by rfl, ?hyh2⟩) hHeld ?_
                      case hyh2 => (intro wS hSw; (try dsimp only at hSw); go_simp; (first | done | with_reducible rfl))
                      try simp only [Act.put, List.setIfInBounds_toArray, List.set_cons_zero, List.set_cons_succ]
                      refine wpAnyH_take (i := 3) (oi := ⟨_, _, _, _, _, _⟩) (v := ?vh3) rfl (by kernel_rfl) (by kernel_rfl) (by kernel_rfl) (fun _ _ _ h => h) (Or.inl ⟨by rfl, ?hyh3⟩) hHeld ?_
                      case hyh3 => (intro wS hSw; (try dsimp only at hSw); go_simp; (first | done | with_reducible rfl))
                      try simp only [Act.put, List.setIfInBounds_toArray, List.set_cons_zero, List.set_cons_succ]
                      refine wpAnyH_take (i := 4) (oi := ⟨_, _, _, _, _, _⟩) (v := ?vh4) rfl (by kernel_rfl) (by kernel_rfl) (by kernel_rfl) (fun _ _ _ h => h) (Or.inl ⟨by rfl, ?hyh4⟩) hHeld ?_
                      case hyh4 => (intro wS hSw; (try dsimp only at hSw); go_simp; (first | done | with_reducible rfl))
                      try simp only [Act.put, List.setIfInBounds_toArray, List.set_cons_zero, List.set_cons_succ]
                      refine wpAnyH_take (i := 6) (oi := ⟨_, _, _, _, _, _⟩) (v := ?vh6) rfl (by kernel_rfl) (by kernel_rfl) (by kernel_rfl) (fun _ _ _ h => h) (Or.inl ⟨by rfl, ?hyh6⟩) hHeld ?_
                      case hyh6 => (intro wS hSw; (try dsimp only at hSw); go_simp; (first | done | with_reducible rfl))
                      try simp only [Act.put, List.setIfInBounds_toArray, List.set_cons_zero, List.set_cons_succ]
                      refine wpAnyH_take (i := 7) (oi := ⟨_, _, _, _, _, _⟩) (v := ?vh7) rfl (by kernel_rfl) (by kernel_rfl) (by kernel_rfl) (fun _ _ _ h => h) (Or.inl ⟨by rfl, ?hyh7⟩) hHeld ?_
                      case hyh7 => (intro wS hSw; (try dsimp only at hSw); go_simp; (first | done | with_reducible rfl))
                      try simp only [Act.put, List.setIfInBounds_toArray, List.set_cons_zero, List.set_cons_succ]
                      refine wpAnyH_take (i := 8) (oi := ⟨_, _, _, _, _, _⟩) (v := strV p.b) rfl (by kernel_rfl) (by kernel_rfl) (by kernel_rfl) (fun _ _ _ h => h) (yields_conv_f (by rfl) (.tmp 131) rfl A2 p.b cap2 rfl (fun w h => h.2)) hHeld ?_
                      try simp only [Act.put, List.setIfInBounds_toArray, List.set_cons_zero, List.set_cons_succ]
                      refine wpAnyH_ready (rs := [5]) (by kernel_rfl) (by simp) ?_
                      refine AllReadyH.cons (o := ⟨_, _, _, _, _, _⟩) rfl (fun K hK => ?_) AllReadyH.nil
                      obtain ⟨c4, c5⟩ := C4.out
                      go_simp
                      clear c4 c5
                      refine hK.out _ _ ?kh5 (fun hNew => ?_)
                      case kh5 => (try dsimp only); exact hHeld
                      clear hK K hHeld
                      have hHeld := hNew
                      clear hNew
                      try simp only [Act.put, List.setIfInBounds_toArray, List.set_cons_zero, List.set_cons_succ]
                      refine wpAnyH_take (i := 9) (oi := ⟨_, _, _, _, _, _⟩) (v := ?vh9) rfl (by kernel_rfl) (by kernel_rfl) (by kernel_rfl) (fun _ _ _ h => h) (Or.inl ⟨by rfl, ?hyh9⟩) hHeld ?_
                      case hyh9 => (intro wS hSw; (try dsimp only at hSw); go_simp; (first | done | with_reducible rfl))
                      try simp only [Act.put, List.setIfInBounds_toArray, List.set_cons_zero, List.set_cons_succ]
                      refine wpAnyH_take (i := 10) (oi := ⟨_, _, _, _, _, _⟩) (v := ?vh10) rfl (by kernel_rfl) (by kernel_rfl) (by kernel_rfl) (fun _ _ _ h => h) (Or.inl ⟨by rfl, ?hyh10⟩) hHeld ?_
                      case hyh10 => (intro wS hSw; (try dsimp only at hSw); go_simp; (first | done | with_reducible rfl))
                      try simp only [Act.put, List.setIfInBounds_toArray, List.set_cons_zero, List.set_cons_succ]
                      refine wpAnyH_take (i := 11) (oi := ⟨_, _, _, _, _, _⟩) (v := ?vh11) rfl (by kernel_rfl) (by kernel_rfl) (by kernel_rfl) (fun _ _ _ h => h) (Or.inl ⟨by rfl, ?hyh11⟩) hHeld ?_
                      case hyh11 => (intro wS hSw; (try dsimp only at hSw); go_simp; (first | done | with_reducible rfl))
                      try simp only [Act.put, List.setIfInBounds_toArray, List.set_cons_zero, List.set_cons_succ]
                      refine wpAnyH_ready (rs := [12]) (by kernel_rfl) (by simp) ?_
                      refine AllReadyH.cons (o := ⟨_, _, _, _, _, _⟩) rfl (fun K hK => ?_) AllReadyH.nil
                      obtain ⟨c4, c5⟩ := C4.out
                      go_simp
                      clear c4 c5
                      refine hK.out _ _ ?kh12 (fun hNew => ?_)
                      case kh12 => (try dsimp only); exact HSET.out _
                      clear hK K hHeld
                      have hHeld := hNew
                      clear hNew
                      try simp only [Act.put, List.setIfInBounds_toArray, List.set_cons_zero, List.set_cons_succ]
                      refine wpAnyH_done (by kernel_rfl) ?_ _
                      refine NoPanic.normal ?_
                      have HI7 := Lib.hid (HI6.out.setG j (G4 j ++ (p.b ++ [59])))
                      obtain ⟨c4, c5⟩ := C4.out
                      clear hHeld
                      go_wp2_with fail
                      go_roundw
                      case rel =>
                        rw [str_more]
                        refine ⟨j + 1, S4, _, HJN.out, num_next j (by have := HN.out; have := HJN.out; omega), HI7.out, fun y hy => ?_⟩
                        unfold upd
                        by_cases e : y = j
                        · subst e; rw [if_pos rfl, if_pos (by omega), HROW.out, HG4.out y hy, if_neg (by omega)]; simp [tx]
                        · rw [if_neg e, HG4.out y hy]
                          by_cases h : y < j
                          · rw [if_pos h, if_pos (by omega)]
                          · rw [if_neg h, if_neg (by omega)]
                      case measure => exact meas_next n j HJN.out (by have := HN.out; have := HJN.out; omega)
                  · have hjd : decide ((j : Int) < (n : Int)) = false := by simp; omega
                    have hjd2 : decide (j < n) = false := by simpa using hjn
                    have HJ : Hid (j = n) := by show _ = _; omega
                    clear hjn
                    go_wp2_with fail
                    go_roundw
                    case rel =>
                      have hj := HJ.out
                      subst hj
                      have hlt := HLT.out
                      have hM4 : M ≤ 400 := by have := HL.out.1; have := HM.out; omega
                      have h1 := HB2.out
                      have h2 := HDEL.out
                      have h3 := HK.out
                      have h4 := HM.out
                      have h5 := HL.out.1
                      have hrow0 : (D3.upto j).row 0 = (D2.row 0).drop 1 := by rw [← h2.2.1]; exact upto_way D3 j
                      have happ : (dn ++ (D2.row 0).take 1) ++ (D2.row 0).drop 1 = dn ++ D2.row 0 := by rw [List.append_assoc, List.take_append_drop]
                      refine ⟨k + 1, (D2.row 0).length - 1, S4, D3.upto j, F2, G4, dn ++ (D2.row 0).take 1, HLT.out, num_next k (by omega), ⟨?_, ?_⟩, HI4.out, fun x hx => upto_box D3 j x hx, ?_, fun x hx => ?_, fun x hx => ?_, ?_, ?_⟩
                      · have := h1.2.1; split at this <;> omega
                      · have := h1.2.1; split at this <;> omega
                      · rw [hrow0]; simp
                      · rw [hrow0, happ]; exact h1.2.2.1 x hx
                      · rw [HG4.out x hx, if_pos hx, h2.2.2 x hx, HB.out.2.2.2 x hx, ← tx_append, ← flt_append]
                      · rw [hrow0, happ]; exact h1.2.2.2.1
                      · rw [hrow0, happ]; exact h1.2.2.2.2
                    case measure => exact meas_next M k HLT.out (by have := HLT.out; have := HL.out.1; have := HM.out; omega)
      · have hkM : decide ((k : Int) < (M : Int)) = false := by simp; omega
        have hkM2 : decide (k < M) = false := by simpa using hlt
        have hr0 : D.row 0 = [] := by
          have := HK.out
          exact List.eq_nil_of_length_eq_zero (by have := HB.out.2.1; omega)
        have heq : ∀ j, j < n → F j = G j := fun j hj => by rw [HB.out.2.2.1 j hj, HB.out.2.2.2 j hj, hr0, List.append_nil]
        have HR0 := Lib.hid hr0
        have HEQ := Lib.hid heq
        clear hlt hr0 heq
        go_wp2_with fail
        go_loopw [14] (fun jv wr => ∃ j : Nat, j ≤ n ∧ jv = .int .i64 (j : Int) ∧ Fair w' wr n nb gs gg S D F G) (fun jv _ => n - (intOf jv).toNat)
        case atStart => exact ⟨0, Nat.zero_le _, rfl, HI.out⟩
        case round =>
          obtain ⟨j, hj, rfl, hI9⟩ := hrel
          have HI9 := Lib.hid hI9
          clear hI9
          by_cases hjn : j < n
          · have hjd : decide ((j : Int) < (n : Int)) = true := by simp; omega
            have hjd2 : decide (j < n) = true := by simpa using hjn
            have j0 : (0 : Int) ≤ (j : Int) := by omega
            have j1 : (j : Int) < (n : Int) := by omega
            have hI10 := HI9.out.grown (drew_grown _ none)
            have hc1 := (hI10.cellS hjn).1
            have hc2 := (hI10.cellG hjn).1
            rw [HEQ.out j hjn] at hc1
            have HC := Lib.hid (And.intro hc1 hc2)
            have HI10 := Lib.hid hI10
            have HJN := Lib.hid hjn
            clear hI10 hc1 hc2 hjn
            go_upto_region 23 with fail
            refine wp_region_noPanic ?_
            refine wp_region_held_drew (S := fun w' => w'.cell? ⟨gs, j, none⟩ = some (strV (G j)) ∧ w'.cell? ⟨gg, j, none⟩ = some (strV (G j))) (by kernel_rfl) ?hSi (fun hHeld => ?_)
            case hSi => exact HC.out
            refine wpAnyH_take (i := 0) (oi := ⟨_, _, _, _, _, _⟩) (v := ?vi0) rfl (by kernel_rfl) (by kernel_rfl) (by kernel_rfl) (fun _ _ _ h => h) (Or.inl ⟨by rfl, ?hyi0⟩) hHeld ?_
            case hyi0 => (intro wS hSw; (try dsimp only at hSw); go_simp; (first | done | with_reducible rfl))
            try simp only [Act.put, List.setIfInBounds_toArray, List.set_cons_zero, List.set_cons_succ]
            refine wpAnyH_take (i := 1) (oi := ⟨_, _, _, _, _, _⟩) (v := ?vi1) rfl (by kernel_rfl) (by kernel_rfl) (by kernel_rfl) (fun _ _ _ h => h) (Or.inl ⟨by rfl, ?hyi1⟩) hHeld ?_
            case hyi1 => (intro wS hSw; (try dsimp only at hSw); go_simp; (first | done | with_reducible rfl))
            try simp only [Act.put, List.setIfInBounds_toArray, List.set_cons_zero, List.set_cons_succ]
            refine wpAnyH_take (i := 2) (oi := ⟨_, _, _, _, _, _⟩) (v := ?vi2) rfl (by kernel_rfl) (by kernel_rfl) (by kernel_rfl) (fun _ _ _ h => h) (Or.inl ⟨by rfl, ?hyi2⟩) hHeld ?_
            case hyi2 => (intro wS hSw; (try dsimp only at hSw); go_simp; (first | done | with_reducible rfl))
            try simp only [Act.put, List.setIfInBounds_toArray, List.set_cons_zero, List.set_cons_succ]
            refine wpAnyH_take (i := 3) (oi := ⟨_, _, _, _, _, _⟩) (v := ?vi3) rfl (by kernel_rfl) (by kernel_rfl) (by kernel_rfl) (fun _ _ _ h => h) (Or.inl ⟨by rfl, ?hyi3⟩) hHeld ?_
            case hyi3 => (intro wS hSw; (try dsimp only at hSw); go_simp; (first | done | with_reducible rfl))
            try simp only [Act.put, List.setIfInBounds_toArray, List.set_cons_zero, List.set_cons_succ]
            refine wpAnyH_take (i := 4) (oi := ⟨_, _, _, _, _, _⟩) (v := ?vi4) rfl (by kernel_rfl) (by kernel_rfl) (by kernel_rfl) (fun _ _ _ h => h) (Or.inl ⟨by rfl, ?hyi4⟩) hHeld ?_
            case hyi4 => (intro wS hSw; (try dsimp only at hSw); go_simp; (first | done | with_reducible rfl))
            try simp only [Act.put, List.setIfInBounds_toArray, List.set_cons_zero, List.set_cons_succ]
            refine wpAnyH_take (i := 5) (oi := ⟨_, _, _, _, _, _⟩) (v := ?vi5) rfl (by kernel_rfl) (by kernel_rfl) (by kernel_rfl) (fun _ _ _ h => h) (Or.inl ⟨by rfl, ?hyi5⟩) hHeld ?_
            case hyi5 => (intro wS hSw; (try dsimp only at hSw); go_simp; (first | done | with_reducible rfl))
            try simp only [Act.put, List.setIfInBounds_toArray, List.set_cons_zero, List.set_cons_succ]
            refine wpAnyH_take (i := 6) (oi := ⟨_, _, _, _, _, _⟩) (v := ?vi6) rfl (by kernel_rfl) (by kernel_rfl) (by kernel_rfl) (fun _ _ _ h => h) (Or.inl ⟨by rfl, ?hyi6⟩) hHeld ?_
            case hyi6 => (intro wS hSw; (try dsimp only at hSw); go_simp; (first | done | with_reducible rfl))
            try simp only [Act.put, List.setIfInBounds_toArray, List.set_cons_zero, List.set_cons_succ]
            refine wpAnyH_take (i := 7) (oi := ⟨_, _, _, _, _, _⟩) (v := ?vi7) rfl (by kernel_rfl) (by kernel_rfl) (by kernel_rfl) (fun _ _ _ h => h) (Or.inl ⟨by rfl, ?hyi7⟩) hHeld ?_
            case hyi7 => (intro wS hSw; (try dsimp only at hSw); go_simp; (first | done | with_reducible rfl))
            try simp only [Act.put, List.setIfInBounds_toArray, List.set_cons_zero, List.set_cons_succ]
            refine wpAnyH_take (i := 8) (oi := ⟨_, _, _, _, _, _⟩) (v := ?vi8) rfl (by kernel_rfl) (by kernel_rfl) (by kernel_rfl) (fun _ _ _ h => h) (Or.inl ⟨by rfl, ?hyi8⟩) hHeld ?_
            case hyi8 => (intro wS hSw; (try dsimp only at hSw); go_simp; (first | done | with_reducible rfl))
            try simp only [Act.put, List.setIfInBounds_toArray, List.set_cons_zero, List.set_cons_succ]
            refine wpAnyH_done (by kernel_rfl) ?_ _
            refine NoPanic.normal ?_
            clear hHeld
            go_wp2_with fail
            go_roundw
            case rel => exact ⟨j + 1, HJN.out, num_next j (by have := HN.out; have := HJN.out; omega), HI10.out⟩
            case measure => exact meas_next n j HJN.out (by have := HN.out; have := HJN.out; omega)
          · have hjd : decide ((j : Int) < (n : Int)) = false := by simp; omega
            have hjd2 : decide (j < n) = false := by simpa using hjn
            clear hjn
            have HWAY := Lib.hid (way_at S nb D _ HI9.out.net)
            go_wp2_with fail
            refine HWAY.out.mono ?_
            rintro e y ⟨v, cs, rfl, hcs, hL, hg⟩
            rw [HR0.out] at hcs
            have hlen : cs.length = 0 := by simpa using congrArg List.length hcs
            obtain ⟨Ay, capy, rfl, _, _, _⟩ := hL.open_
            rw [hlen]
            have HGY := Lib.hid hg
            clear hcs hlen hL hg HWAY
            go_wp2_with fail
            refine (works_at y).mono ?_
            rintro e z ⟨rfl, hg⟩
            have HGZ := Lib.hid hg
            clear hg
            go_wp2_with fail
            go_ret
            exact ⟨rfl, FIN.out _ ((HI9.out.off.trans (Off.of_grown HGY.out (by simp))).trans (Off.of_grown HGZ.out (by simp)))⟩
end Go.Proofs.Ytonfpifikblnjaa.Net
