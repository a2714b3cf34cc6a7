/- The document's net: New. -/
import Derived.Test.YtonfpifikblnjaaNetRefClear
namespace Go.Proofs.Ytonfpifikblnjaa.Net
open Go.RowKit

def rfresh (n : Nat) : Rf := ⟨n, [], fun _ => []⟩
theorem info_ints : (Try.prog.info? 56).map (fun i => (i.zero, i.size, i.bytes)) = some (some (.slice none 0 0), 1, 24) := by kernel_rfl
theorem wpList_append_nil {ops : Array Oper} {rest : List Oper} {o : Oper} {a : Act} {w : World} {Q : Exit → Act → World → Prop} (hgd : o.guard = none) (s x : Operand) (ho : o.op = .call { callee := .builtin .append, args := #[s, x], argTypes := #[74, 74] })
    (B : Nat) (v : Value) (k : Nat) (hs : a.eval s = v) (hown : w.ownsRow B 56 1 v k (List.replicate k (.slice none 0 0))) (g : Nat) (hx : a.eval x = .slice (some ⟨g, 0, none⟩) 1 1) (hc : w.heap[g]? = some (.cells #[.slice none 0 0] 56)) (hb : k < 100000) (hB : B ≤ w.heap.size)
    (h : ∀ v' w', w'.ownsRow B 56 1 v' (k + 1) (List.replicate (k + 1) (.slice none 0 0)) → w.grownBy w' v.ownBlock → (v'.ownBlock = v.ownBlock ∨ v'.ownBlock = some w.heap.size) → wpList Try.prog ops Q rest (a.put o.dst v') w') : wpList Try.prog ops Q (o :: rest) a w := by
  obtain ⟨i0, hi0, he⟩ := Option.map_eq_some_iff.1 info_ints
  simp only [Prod.mk.injEq] at he
  obtain ⟨v', w', hrun, hown', hgr, _, hob⟩ := run_append_own_at (P := Try.prog) w B 74 o.type 56 i0 _ 1 24 Try.underlying74 hi0 he.1 he.2.1 he.2.2 rfl (by decide) v k _ hown ⟨g, 0, none⟩ 1 1 [.slice none 0 0] rfl
    (by
      intro j z hj
      rw [add_flat, Nat.zero_add]
      simp only [World.cell?, hc]
      simpa using hj) (by intro z hz; simp at hz; subst hz; rfl) (by unfold maxLen; omega) (by omega) hB
  refine wpList_plain hgd fun K hK => ?_
  unfold Oper.wp
  simp [execOp, ho, resolve, invoke, builtin, hs, hx, hrun, Result.andThen]
  refine hK _ _ (h v' w' ?_ hgr hob)
  rw [List.replicate_succ']
  exact hown'
set_option maxRecDepth 100000 in
set_option maxHeartbeats 4000000 in
theorem rnew_at (i : Int) (w : World) :
    Calls Try.prog 17 #[.int .i64 i] w fun e w' => ∃ m, e = .returned (.pointer (some ⟨m, 0, none⟩)) ∧ RefAt w' (fun b => w.heap.size ≤ b ∧ b < w'.heap.size) m (rfresh (max 1 (min 64 i)).toNat) ∧ w.grownBy w' none := by
  obtain ⟨n, hn⟩ : ∃ n : Nat, (n : Int) = max 1 (min 64 i) := ⟨(max 1 (min 64 i)).toNat, by omega⟩
  obtain ⟨mm, hm⟩ : ∃ m : Int, m = min 64 i := ⟨_, rfl⟩
  have hmn : ∀ (w : World) (ts : Array TypeId) (t : TypeId), (Builtin.min_ ts t #[.int .i64 i, .int .i64 64]).run Try.prog w = .ok (.int .i64 mm) w := fun w ts t => by
    rw [run_min_int2]
    congr 2
    split <;> omega
  have hmx : ∀ (w : World) (ts : Array TypeId) (t : TypeId), (Builtin.max_ ts t #[.int .i64 1, .int .i64 mm]).run Try.prog w = .ok (.int .i64 (n : Int)) w := fun w ts t => by
    rw [run_max_int2]
    congr 2
    split <;> omega
  have hn1 : 1 ≤ n := by omega
  have hn2 : n ≤ 64 := by omega
  rw [← hn, Int.toNat_natCast]
  have HN := Lib.hid (And.intro hn1 hn2)
  have hg0 := World.grownBy_alloc w (.cells #[.slice none 0 0, .slice none 0 0, .slice none 0 0] 76) none
  have hb0 := (MapKept.heap_alloc w (.cells #[.slice none 0 0, .slice none 0 0, .slice none 0 0] 76)).1
  have HG0 := Lib.hid hg0
  have HB0 := Lib.hid hb0
  clear hn hm hn1 hn2 hg0 hb0
  go_enter Try.func17, Try.ntmps17
  go_wp2_with fail
  go_loopw [4] (fun iv wr => ∃ (k : Nat) (vb : Value), k ≤ n ∧ iv = .int .i64 (k : Int) ∧ wr.heap[w.heap.size]? = some (.cells #[.slice none 0 0, .slice none 0 0, vb] 76) ∧ wr.ownsRow w.heap.size 56 1 vb k (List.replicate k (.slice none 0 0)) ∧ w.grownBy wr none) (fun iv _ => n - (intOf iv).toNat)
  case atStart => exact ⟨0, .slice none 0 0, Nat.zero_le _, rfl, HB0.out, World.ownsRow_nil _ _ _ _, HG0.out⟩
  case round =>
    obtain ⟨k, vb, hk, rfl, hbm, hrow, hg⟩ := hrel
    have HBM := Lib.hid hbm
    have HROW := Lib.hid hrow
    have HG := Lib.hid hg
    by_cases hlt : k < n
    · have hkd : decide ((k : Int) < (n : Int)) = true := by simp; omega
      have hkd2 : decide (k < n) = true := by simpa using hlt
      obtain ⟨Ab, kb, capb, rfl⟩ := row_any hrow
      have c2 : wr.cell? ⟨w.heap.size, 2, none⟩ = some (.slice Ab kb capb) := by simp only [World.cell?, hbm]; rfl
      have hgA := World.grownBy_alloc wr (.cells #[.slice none 0 0] 56) none
      have hbA := (MapKept.heap_alloc wr (.cells #[.slice none 0 0] 56)).1
      have HROWA := Lib.hid (row_grown hrow hgA)
      have HBA := Lib.hid hbA
      have HGA := Lib.hid hgA
      have HFEW : Hid (k < 100000) := by have := HN.out; show _ < _; omega
      have HBS : Hid (w.heap.size ≤ (wr.alloc (.cells #[.slice none 0 0] 56)).heap.size) := Nat.le_trans hg.size hgA.size
      have HLT := Lib.hid hlt
      have HTM : Hid (Typed wr w.heap.size 76) := ⟨_, _, hbm⟩
      have HTB : Hid (∀ g, (Value.slice Ab kb capb).ownBlock = some g → Typed wr g 56 ∧ w.heap.size ≤ g) := by
        intro g hgb
        refine ⟨?_, (hrow.lt g hgb).1⟩
        rcases hrow.2 with ⟨e, _⟩ | ⟨g', cap, cur, e, _, hb, _⟩
        · rw [e] at hgb; simp [Value.ownBlock] at hgb
        · rw [e] at hgb
          simp only [Value.ownBlock, Option.some.injEq] at hgb
          subst hgb
          exact ⟨_, _, hb⟩
      clear hbm hrow hg hlt hgA hbA
      go_wp2_with (first
        | (at_builtin; refine wpList_append_nil rfl (.tmp 18) (.tmp 19) rfl w.heap.size (.slice Ab kb capb) k rfl HROWA.out wr.heap.size rfl HBA.out HFEW.out HBS.out ?_; intro v3 w3 hr3 hg3 hob3; have hne : some w.heap.size ≠ (Value.slice Ab kb capb).ownBlock := (fun e => ((HTB.out _ e.symm).1.ne HTM.out (by decide)) rfl); have b3 := (hg3.block _ (Nat.lt_of_lt_of_le HTM.out.lt HGA.out.size) hne).trans ((HGA.out.block _ HTM.out.lt (by simp)).trans HBM.out); have c3 := (show w3.cell? ⟨w.heap.size, 2, none⟩ = some (.slice Ab kb capb) by simp only [World.cell?, b3]; rfl); have z3 := (show w3.frozen? ⟨w.heap.size, 2, none⟩ = false by simp only [World.frozen?, b3]; simp); have HB3 := Lib.hid b3; have HR3 := Lib.hid hr3; have HG3 := Lib.hid hg3; have HOB3 := Lib.hid hob3; obtain ⟨A4, k4, cap4, rfl⟩ := row_any hr3; clear b3 hr3 hg3 hob3; go_frame)
        | fail)
      go_roundw
      case rel =>
        have hs3 : Off (fun b => b = w.heap.size) w3 (w3.setCell ⟨w.heap.size, 2, none⟩ (.slice A4 k4 cap4)) := (Off.cells (CellOff.set w3 _ _ _)).mono (fun b _ hb => hb.elim (fun _ e => e.1))
        have hg := HG.out
        have hgA := HGA.out
        have hg3 := HG3.out
        refine ⟨k + 1, .slice A4 k4 cap4, HLT.out, nxt_num k (by have := HLT.out; have := HN.out; omega), ?_, ?_, ⟨hg3.os.trans (hgA.os.trans hg.os), hg3.tape.trans (hgA.tape.trans hg.tape), hg3.output.trans (hgA.output.trans hg.output), ?_, fun b hb _ => ?_⟩⟩
        · rw [heap_setCell_same w3 w.heap.size 2 _ _ _ HB3.out]
          rfl
        · refine ⟨HR3.out.1, ?_⟩
          rcases HR3.out.2 with e | ⟨g, cap, cur, e, h3, hb, h4⟩
          · exact .inl e
          · have hgm : g ≠ w.heap.size := by
              rintro rfl
              rw [HB3.out] at hb
              cases hb
            exact .inr ⟨g, cap, cur, e, h3, (hs3.block g (Array.getElem?_eq_some_iff.1 hb).1 hgm).trans hb, h4⟩
        · have h1 := hg.size; have h2 := hgA.size; have h3 := hg3.size
          have : (w3.setCell ⟨w.heap.size, 2, none⟩ (.slice A4 k4 cap4)).heap.size = w3.heap.size := by simp
          omega
        · have h1 := hg.size; have h2 := hgA.size; have h3 := hg3.size
          refine (hs3.block b (by omega) (by omega)).trans ((hg3.block b (by omega) (fun e => by have := (HTB.out b e.symm).2; omega)).trans ((hgA.block b (by omega) (by simp)).trans (hg.block b hb (by simp))))
      case measure => exact nxt_meas _ k HLT.out (by have := HLT.out; have := HN.out; omega)
    · have hkd : decide ((k : Int) < (n : Int)) = false := by simp; omega
      have hkd2 : decide (k < n) = false := by simpa using hlt
      obtain rfl : k = n := by omega
      have HFIN : Hid (RefAt wr (fun b => w.heap.size ≤ b ∧ b < wr.heap.size) w.heap.size (rfresh k)) := by
        rcases hrow.2 with ⟨_, e⟩ | ⟨g, cap, cur, rfl, hB, hb, h1, _, _, ht⟩
        · have := HN.out; omega
        · refine ⟨g, .slice none 0 0, fun _ => .slice none 0 0, fun b hb => hb.2, ⟨Nat.le_refl _, (Array.getElem?_eq_some_iff.1 hbm).1⟩, ⟨hB, (Array.getElem?_eq_some_iff.1 hb).1⟩, ⟨cap, hbm, h1⟩, ⟨cur, hb, fun j hj => ?_⟩, ⟨HN.out.1, HN.out.2⟩, ⟨rfl, .inl ⟨rfl, rfl⟩⟩, by simp [Value.ownBlock], fun j _ => ⟨⟨rfl, .inl ⟨rfl, rfl⟩⟩, by simp [Value.ownBlock]⟩, by simp [Value.ownBlock]⟩
          have hj : j < k := hj
          have h2 : (List.replicate k (Value.slice none 0 0))[j]? = some (.slice none 0 0) := by simp [hj]
          rw [← ht, Nat.mul_one, List.getElem?_take, if_pos hj] at h2
          simpa using h2
      clear hlt hbm hrow hg
      go_wp2_with fail
      go_ret
      exact ⟨_, rfl, HFIN.out, HG.out⟩
end Go.Proofs.Ytonfpifikblnjaa.Net
