/- The document's net: one letter more; rows without one; what only looks. -/
import Derived.Maps.AppendAt
import Derived.Test.YtonfpifikblnjaaNetRef
namespace Go.Proofs.Ytonfpifikblnjaa.Net
open Go.RowKit

section
variable {w w1 : World} {T : Nat → Prop} {m xb : Nat} {va v : Value} {V : Nat → Value} {R : Rf}
/-- One letter more. -/
theorem RefIn.more {ps : List Pk} (h : RefIn w T m xb va V R) (hg : w.grownBy w1 va.ownBlock) (hrow : RAll w1 v ps) (hv : v.ownBlock = va.ownBlock ∨ ∀ g, v.ownBlock = some g → w.heap.size ≤ g) :
    RefIn (w1.setCell ⟨m, 0, none⟩ v) (fun b => (T b ∨ w.heap.size ≤ b) ∧ b < (w1.setCell ⟨m, 0, none⟩ v).heap.size) m xb v V ⟨R.n, ps, R.row⟩ ∧ Off T w (w1.setCell ⟨m, 0, none⟩ v) := by
  have hsz : (w1.setCell ⟨m, 0, none⟩ v).heap.size = w1.heap.size := by simp
  have hs := hg.size
  have hT' : ∀ b, T b → (T b ∨ w.heap.size ≤ b) ∧ b < (w1.setCell ⟨m, 0, none⟩ v).heap.size := fun b hb => ⟨.inl hb, by have := h.lt b hb; omega⟩
  have htyp := h.all.typed
  obtain ⟨capx, h1, hcap⟩ := h.net
  obtain ⟨cx, h3, h4⟩ := h.box
  have tm : Typed w m 76 := ⟨_, _, h1⟩
  have tx : Typed w xb 56 := ⟨_, _, h3⟩
  have k1 : w1.heap[m]? = _ := (hg.block m tm.lt (fun e => ((htyp m e.symm).ne tm (by decide)) rfl)).trans h1
  have k3 : w1.heap[xb]? = _ := (hg.block xb tx.lt (fun e => ((htyp xb e.symm).ne tx (by decide)) rfl)).trans h3
  have hset : Off (fun b => b = m) w1 (w1.setCell ⟨m, 0, none⟩ v) := (Off.cells (CellOff.set w1 _ _ _)).mono (fun b _ hb => hb.elim (fun _ e => e.1))
  have hog : Off (fun b => some b = va.ownBlock) w w1 := Off.of_grown hg (fun k e => e.symm)
  have tm1 : Typed w1 m 76 := ⟨_, _, k1⟩
  refine ⟨⟨fun b hb => hb.2, hT' m h.tm, hT' xb h.txb, ⟨capx, ?_, hcap⟩, ⟨cx, (heap_setCell_other w1 ⟨m, 0, none⟩ xb v h.mx.symm).trans k3, h4⟩, h.pos, hrow.off hset (fun g hg' e => ((hrow.typed g hg').ne tm1 (by decide)) e), fun g hg' => ?_, fun i hi => ?_, h.apart⟩, ?_⟩
  · rw [heap_setCell_same w1 m 0 _ _ v k1]
    rfl
  · have hl1 := (hrow.lt g hg').2
    rcases hv with e | e
    · rw [e] at hg'; exact hT' g (h.tall g hg')
    · exact ⟨.inr (e g hg'), by omega⟩
  · have ha1 : IntRow w1 (V i) (R.row i) := (h.rows i hi).1.off hog (fun g hg' e' => (((h.rows i hi).1.typed g hg').ne (htyp g e'.symm) (by decide)) rfl)
    exact ⟨ha1.off hset (fun g hg' e => ((ha1.typed g hg').ne tm1 (by decide)) e), fun g hg' => hT' g ((h.rows i hi).2 g hg')⟩
  · refine ⟨hg.os, hg.tape, hg.output, by omega, fun b hb hn => ?_⟩
    exact (hset.block b (by omega) (fun e => hn (e ▸ h.tm))).trans (hg.block b hb (fun e => hn (h.tall b e.symm)))
end

/-- append of a number. -/
theorem wpList_append_int {ops : Array Oper} {rest : List Oper} {o : Oper} {a : Act} {w : World} {Q : Exit → Act → World → Prop} (hgd : o.guard = none) (s x : Operand) (ho : o.op = .call { callee := .builtin .append, args := #[s, x], argTypes := #[56, 56] })
    (B : Nat) (v : Value) (ns : List Nat) (y : Nat) (hs : a.eval s = v) (hown : w.ownsRow B 3 1 v ns.length (ns.map fun (n : Nat) => Value.int .i64 (n : Int))) (g : Nat) (hx : a.eval x = .slice (some ⟨g, 0, none⟩) 1 1) (hc : w.heap[g]? = some (.cells #[.int .i64 (y : Int)] 3)) (hb : ns.length < 100000) (hB : B ≤ w.heap.size)
    (h : ∀ v' w', w'.ownsRow B 3 1 v' (ns ++ [y]).length ((ns ++ [y]).map fun (n : Nat) => Value.int .i64 (n : Int)) → w.grownBy w' v.ownBlock → (v'.ownBlock = v.ownBlock ∨ v'.ownBlock = some w.heap.size) → wpList Try.prog ops Q rest (a.put o.dst v') w') : wpList Try.prog ops Q (o :: rest) a w := by
  obtain ⟨i0, hi0, he⟩ := Option.map_eq_some_iff.1 info_int
  simp only [Prod.mk.injEq] at he
  obtain ⟨v', w', hrun, hown', hgr, _, hob⟩ := run_append_own_at (P := Try.prog) w B 56 o.type 3 i0 _ 1 8 Try.underlying56 hi0 he.1 he.2.1 he.2.2 rfl (by decide) v ns.length _ hown ⟨g, 0, none⟩ 1 1 [.int .i64 (y : Int)] rfl
    (by
      intro j z hj
      rw [add_flat, Nat.zero_add]
      simp only [World.cell?, hc]
      simpa using hj) (by intro z hz; simp at hz; subst hz; rfl) (by unfold maxLen; omega) (by omega) hB
  refine wpList_plain hgd fun K hK => ?_
  unfold Oper.wp
  simp [execOp, ho, resolve, invoke, builtin, hs, hx, hrun, Result.andThen]
  refine hK _ _ (h v' w' ?_ hgr hob)
  rw [List.length_append, List.map_append]
  exact hown'
theorem IntRow.of_base {w : World} {B : Nat} {v : Value} {ns : List Nat} (h : w.ownsRow B 3 1 v ns.length (ns.map fun (n : Nat) => Value.int .i64 (n : Int))) : IntRow w v ns := by
  refine ⟨h.1, ?_⟩
  rcases h.2 with h2 | ⟨g, cap, cur, e, h3, h4⟩
  · exact .inl h2
  · exact .inr ⟨g, cap, cur, e, Nat.zero_le _, h4⟩
theorem erase_step (ns : List Nat) (z k y : Nat) (hy : ns[k]? = some y) : (ns.take (k + 1)).eraseIdx z = (ns.take k).eraseIdx z ++ (if k = z then [] else [y]) := by
  have hk : k < ns.length := (List.getElem?_eq_some_iff.1 hy).1
  have hlen : (ns.take k).length = k := by simp; omega
  rw [List.take_add_one, hy]
  show (ns.take k ++ [y]).eraseIdx z = _
  by_cases h : z < k
  · rw [List.eraseIdx_append_of_lt_length (by omega), if_neg (by omega)]
  · have e0 : (ns.take k).eraseIdx z = ns.take k := List.eraseIdx_of_length_le (by omega)
    rw [List.eraseIdx_append_of_length_le (by omega), hlen, e0]
    by_cases e : k = z
    · rw [if_pos e, e, Nat.sub_self]; rfl
    · rw [if_neg e, List.eraseIdx_of_length_le (by simp; omega)]

set_option maxRecDepth 100000 in
set_option maxHeartbeats 4000000 in
theorem without_at (v : Value) (ns : List Nat) (z : Nat) (w : World) (h : IntRow w v ns) (hl : ns.length ≤ 1000) :
    Calls Try.prog 48 #[v, .int .i64 (z : Int)] w fun e w' => ∃ v', e = .returned v' ∧ IntRow w' v' (ns.eraseIdx z) ∧ w.grownBy w' none ∧ ∀ g, v'.ownBlock = some g → w.heap.size ≤ g := by
  obtain ⟨A, cap, rfl, hcell⟩ := int_row h
  have HC := Lib.hid hcell
  have HL := Lib.hid hl
  clear h hcell hl
  go_enter Try.func48, Try.ntmps48
  go_wp2_with fail
  go_loopw [5, 6] (fun lv iv wr => ∃ k : Nat, k ≤ ns.length ∧ iv = .int .i64 (k : Int) ∧ wr.ownsRow w.heap.size 3 1 lv ((ns.take k).eraseIdx z).length (((ns.take k).eraseIdx z).map fun (n : Nat) => Value.int .i64 (n : Int)) ∧ w.grownBy wr none) (fun _ iv _ => ns.length - (intOf iv).toNat)
  case atStart => exact ⟨0, Nat.zero_le _, rfl, World.ownsRow_nil _ _ _ _, World.grownBy.refl _ _⟩
  case round =>
    obtain ⟨k, hk, rfl, hrow, hg⟩ := hrel
    have HROW := Lib.hid hrow
    have HG := Lib.hid hg
    clear hrow hg
    by_cases hlt : k < ns.length
    · have hkd : decide ((k : Int) < (ns.length : Int)) = true := by simp; omega
      have hkd2 : decide (k < ns.length) = true := by simpa using hlt
      have k0 : (0 : Int) ≤ (k : Int) := by omega
      have k1 : (k : Int) < (ns.length : Int) := by omega
      obtain ⟨y, hy⟩ : ∃ y, ns[k]? = some y := ⟨_, List.getElem?_eq_getElem hlt⟩
      have hst := erase_step ns z k y hy
      obtain ⟨gi, rfl, hci⟩ := HC.out k y hy
      have hc := HG.out.cell hci (by simp)
      have HLT := Lib.hid hlt
      clear hlt hy hci
      obtain ⟨ki, hki⟩ : ∃ ki : Int, ki = (k : Int) := ⟨_, rfl⟩
      by_cases hkz : k = z
      · rw [if_pos hkz, List.append_nil] at hst
        have hb : ((k : Int) != (z : Int)) = false := by simp [hkz]
        have HST := Lib.hid hst
        clear hst hkz
        go_wp2_with fail
        go_roundw
        case rel => exact ⟨k + 1, HLT.out, nxt_num k (by have := HLT.out; have := HL.out; omega), by rw [HST.out]; exact HROW.out, HG.out⟩
        case measure => exact nxt_meas _ k HLT.out (by have := HLT.out; have := HL.out; omega)
      · rw [if_neg hkz] at hst
        have hb : ((k : Int) != (z : Int)) = true := by simp; omega
        have HST := Lib.hid hst
        have hgB := World.grownBy_alloc wr (.cells #[.int .i64 (y : Int)] 3) none
        have hbB := (MapKept.heap_alloc wr (.cells #[.int .i64 (y : Int)] 3)).1
        have HROW2 := Lib.hid (row_grown HROW.out hgB)
        have HBB := Lib.hid hbB
        have HGB := Lib.hid hgB
        have HFEW : Hid (((ns.take k).eraseIdx z).length < 100000) := by
          show _ < _
          have h1 := List.length_eraseIdx_le (ns.take k) z
          have h2 : (ns.take k).length ≤ ns.length := by simp; omega
          have := HL.out
          omega
        have HBS : Hid (w.heap.size ≤ (wr.alloc (.cells #[.int .i64 (y : Int)] 3)).heap.size) := Nat.le_trans HG.out.size hgB.size
        clear hst hkz hgB hbB
        go_wp2_with (first
          | (at_builtin; refine wpList_append_int rfl (.tmp 16) (.tmp 21) rfl w.heap.size u5 ((ns.take k).eraseIdx z) y rfl HROW2.out wr.heap.size rfl HBB.out HFEW.out HBS.out ?_; intro v3 w3 hr3 hg3 hob3; go_frame)
          | fail)
        go_roundw
        case rel =>
          refine ⟨k + 1, HLT.out, nxt_num k (by have := HLT.out; have := HL.out; omega), by rw [HST.out]; exact hr3, ?_⟩
          have s1 := HG.out.size
          have s2 := HGB.out.size
          refine ⟨hg3.os.trans (HGB.out.os.trans HG.out.os), hg3.tape.trans (HGB.out.tape.trans HG.out.tape), hg3.output.trans (HGB.out.output.trans HG.out.output), Nat.le_trans s1 (Nat.le_trans s2 hg3.size), fun b hb _ => ?_⟩
          have hne : some b ≠ u5.ownBlock := by
            intro e
            have := (HROW.out.lt b e.symm).1
            omega
          exact (hg3.block b (by omega) hne).trans ((HGB.out.block b (by omega) (by simp)).trans (HG.out.block b hb (by simp)))
        case measure => exact nxt_meas _ k HLT.out (by have := HLT.out; have := HL.out; omega)
    · have hkd : decide ((k : Int) < (ns.length : Int)) = false := by simp; omega
      have hkd2 : decide (k < ns.length) = false := by simpa using hlt
      have hrow := HROW.out
      rw [List.take_of_length_le (by omega)] at hrow
      have HR := Lib.hid hrow
      clear hlt hrow
      go_wp2_with fail
      go_ret
      exact ⟨u5, rfl, IntRow.of_base HR.out, HG.out, fun g hg => (HR.out.lt g hg).1⟩

def Rf.is (R : Rf) (i : Int) : Bool := decide (0 ≤ i) && decide (i < (R.n : Int))
def Rf.there (R : Rf) (i : Int) : Bool := decide (0 ≤ i) && decide (i < ((R.row 0).length : Int))
def Rf.waits (R : Rf) (i : Int) : Int := if R.is i = true then ((R.row (i.toNat + 1)).length : Int) else 0
theorem Rf.is_nat {R : Rf} {i : Int} (h : R.is i = true) : ∃ k : Nat, i = (k : Int) ∧ k < R.n := by
  unfold Rf.is at h
  rw [Bool.and_eq_true, decide_eq_true_eq, decide_eq_true_eq] at h
  exact ⟨i.toNat, by omega, by omega⟩
theorem Rf.there_nat {R : Rf} {i : Int} (h : R.there i = true) : ∃ k : Nat, i = (k : Int) ∧ k < (R.row 0).length := by
  unfold Rf.there at h
  rw [Bool.and_eq_true, decide_eq_true_eq, decide_eq_true_eq] at h
  exact ⟨i.toNat, by omega, by omega⟩
set_option maxHeartbeats 1000000 in
theorem rthere_at (T : Nat → Prop) (m : Nat) (R : Rf) (i : Int) (w : World) (h : RefAt w T m R) :
    Calls Try.prog 46 #[.pointer (some ⟨m, 0, none⟩), .int .i64 i] w fun e w' => e = .returned (.bool (R.there i)) ∧ w' = w := by
  obtain ⟨xb, va, V, h⟩ := h
  have c1 := (h.cell (j := 0) (Nat.zero_le _)).1
  obtain ⟨A, cap, hv, _⟩ := int_row (h.rows 0 (Nat.zero_le _)).1
  rw [hv] at c1
  simp only [rb, ro] at c1
  have HD : Hid (R.there i = (decide (0 ≤ i) && decide (i < ((R.row 0).length : Int)))) := rfl
  clear h hv
  generalize (R.row 0).length = len at c1 HD
  by_cases h0 : 0 ≤ i
  · have hd : decide (0 ≤ i) = true := decide_eq_true h0
    go_enter Try.func46, Try.ntmps46
    go_wp2_with fail
    go_ret
    rw [HD.out, hd]
    exact ⟨rfl, rfl⟩
  · have hd : decide (0 ≤ i) = false := decide_eq_false h0
    go_enter Try.func46, Try.ntmps46
    go_wp2_with fail
    go_ret
    rw [HD.out, hd]
    exact ⟨rfl, rfl⟩
set_option maxHeartbeats 1000000 in
theorem ris_at (T : Nat → Prop) (m : Nat) (R : Rf) (i : Int) (w : World) (h : RefAt w T m R) :
    Calls Try.prog 49 #[.pointer (some ⟨m, 0, none⟩), .int .i64 i] w fun e w' => e = .returned (.bool (R.is i)) ∧ w' = w := by
  obtain ⟨xb, va, V, h⟩ := h
  obtain ⟨capx, hnet, _⟩ := h.net
  have c2 : w.cell? ⟨m, 2, none⟩ = some (.slice (some ⟨xb, 0, none⟩) R.n capx) := by simp only [World.cell?, hnet]; rfl
  have HD : Hid (R.is i = (decide (0 ≤ i) && decide (i < (R.n : Int)))) := rfl
  clear h hnet
  by_cases h0 : 0 ≤ i
  · have hd : decide (0 ≤ i) = true := decide_eq_true h0
    go_enter Try.func49, Try.ntmps49
    go_wp2_with fail
    go_ret
    rw [HD.out, hd]
    exact ⟨rfl, rfl⟩
  · have hd : decide (0 ≤ i) = false := decide_eq_false h0
    go_enter Try.func49, Try.ntmps49
    go_wp2_with fail
    go_ret
    rw [HD.out, hd]
    exact ⟨rfl, rfl⟩
set_option maxHeartbeats 1000000 in
theorem rwaits_at (T : Nat → Prop) (m : Nat) (R : Rf) (i : Int) (w : World) (h : RefAt w T m R) :
    Calls Try.prog 41 #[.pointer (some ⟨m, 0, none⟩), .int .i64 i] w fun e w' => e = .returned (.int .i64 (R.waits i)) ∧ w' = w := by
  have HE := Lib.hid (ris_at T m R i w h)
  obtain ⟨xb, va, V, h⟩ := h
  obtain ⟨b, hb⟩ : ∃ b, b = R.is i := ⟨_, rfl⟩
  rw [← hb] at HE
  cases b with
  | true =>
    obtain ⟨k, rfl, hk⟩ := Rf.is_nat hb.symm
    have hw : R.waits (k : Int) = ((R.row (k + 1)).length : Int) := by
      unfold Rf.waits
      rw [if_pos hb.symm]
      rfl
    rw [hw]
    obtain ⟨capx, hnet, hcx⟩ := h.net
    have c2 : w.cell? ⟨m, 2, none⟩ = some (.slice (some ⟨xb, 0, none⟩) R.n capx) := by simp only [World.cell?, hnet]; rfl
    have cn := (h.cell (j := k + 1) hk).1
    obtain ⟨A, cap, hv, _⟩ := int_row (h.rows (k + 1) hk).1
    rw [hv] at cn
    simp only [rb, ro] at cn
    have k0 : (0 : Int) ≤ (k : Int) := by omega
    have k1 : (k : Int) < (R.n : Int) := by omega
    clear h hnet hv hw hb
    go_enter Try.func41, Try.ntmps41
    go_wp2_with fail
    refine HE.out.mono ?_
    rintro e w' ⟨rfl, hw⟩
    have hw := hw.symm
    subst hw
    go_wp2_with fail
    go_ret
    exact ⟨rfl, rfl⟩
  | false =>
    have hw : R.waits i = 0 := by
      unfold Rf.waits
      rw [if_neg (by rw [← hb]; decide)]
    rw [hw]
    clear h hw hb
    go_enter Try.func41, Try.ntmps41
    go_wp2_with fail
    refine HE.out.mono ?_
    rintro e w' ⟨rfl, hw⟩
    have hw := hw.symm
    subst hw
    go_wp2_with fail
    go_ret
    exact ⟨rfl, rfl⟩
end Go.Proofs.Ytonfpifikblnjaa.Net
