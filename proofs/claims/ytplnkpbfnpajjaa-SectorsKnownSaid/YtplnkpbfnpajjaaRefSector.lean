/- The document's disk: sector; New. -/
import Derived.Lib.AppendStr
import Derived.Test.YtplnkpbfnpajjaaRefRead
namespace Go.Proofs.Ytplnkpbfnpajjaa.Sec
open Go.RowKit Go.Maps

/-- A row of bytes of one's own. -/
def BRow (w : World) (B : Nat) (v : Value) (l : List UInt8) : Prop := w.ownsRow B 5 1 v l.length (u8s l)
def lenOf : Value → Nat
  | .slice _ n _ => n
  | _ => 0
theorem strCells_bs (l : List UInt8) : Lib.strCells (bs l) = u8s l := by simp [Lib.strCells, bs, u8s]
theorem bs_size (l : List UInt8) : (bs l).size = l.length := by simp [bs, ByteArray.size]
theorem brow_slice {w : World} {B : Nat} {v : Value} {l : List UInt8} (h : BRow w B v l) : ∃ A cap, v = .slice A l.length cap ∧ (l = [] ∨ ∃ g, A = some ⟨g, 0, none⟩ ∧ B ≤ g ∧ g < w.heap.size ∧ w.rangeAt g 0 (u8s l)) := by
  obtain ⟨_, ⟨rfl, e⟩ | ⟨g, cap, cur, rfl, hB, hb, hc, _, _, ht⟩⟩ := h
  · exact ⟨none, 0, by rw [e], .inl (List.eq_nil_of_length_eq_zero e)⟩
  · refine ⟨_, cap, rfl, .inr ⟨g, rfl, hB, (Array.getElem?_eq_some_iff.1 hb).1, fun j u hj => ?_⟩⟩
    rw [← ht, List.getElem?_take] at hj
    rw [cell_blk hb, Nat.zero_add]
    split at hj
    · simpa using hj
    · cases hj
theorem wpList_append_u8 {ops : Array Oper} {rest : List Oper} {o : Oper} {a : Act} {w : World} {Q : Exit → Act → World → Prop} (hgd : o.guard = none) (s x : Operand) (ho : o.op = .call { callee := .builtin .append, args := #[s, x], argTypes := #[29, 29] })
    (B : Nat) (v : Value) (l : List UInt8) (y : UInt8) (hs : a.eval s = v) (hown : BRow w B v l) (g : Nat) (hx : a.eval x = .slice (some ⟨g, 0, none⟩) 1 1) (hc : w.cell? ⟨g, 0, none⟩ = some (.int .u8 (y.toNat : Int))) (hb : l.length < 100000) (hbase : B ≤ w.heap.size)
    (h : ∀ v' w', BRow w' B v' (l ++ [y]) → w.grownBy w' v.ownBlock → wpList Try.prog ops Q rest (a.put o.dst v') w') : wpList Try.prog ops Q (o :: rest) a w := by
  obtain ⟨i0, hi0, he⟩ := Option.map_eq_some_iff.1 info_u8
  simp only [Prod.mk.injEq] at he
  refine wpList_append_own _ hgd s x 29 ho B 5 i0 _ 1 1 Try.underlying29 hi0 he.1 he.2.1 he.2.2 rfl (by decide) v l.length _ hs hown ⟨g, 0, none⟩ 1 1 [.int .u8 (y.toNat : Int)] hx rfl ?_ ?_ (by unfold maxLen; omega) (by omega) hbase ?_
  · intro j z hj
    match j, hj with
    | 0, hj =>
      simp at hj
      subst hj
      simpa [Addr.add] using hc
  · intro z hz
    simp at hz
    subst hz
    rfl
  · intro v' w' h1 h2 _
    refine h v' w' ?_ h2
    unfold BRow u8s
    rw [List.length_append, List.map_append]
    exact h1
theorem wpList_append_s {ops : Array Oper} {rest : List Oper} {o : Oper} {a : Act} {w : World} {Q : Exit → Act → World → Prop} (hgd : o.guard = none) (s x : Operand) (ho : o.op = .call { callee := .builtin .append, args := #[s, x], argTypes := #[29, 9] })
    (B : Nat) (l : List UInt8) (hs : a.eval s = .slice none 0 0) (hx : a.eval x = strV l) (hb : l.length < 100000) (hbase : B ≤ w.heap.size)
    (h : ∀ v' w', BRow w' B v' l → w.grownBy w' none → wpList Try.prog ops Q rest (a.put o.dst v') w') : wpList Try.prog ops Q (o :: rest) a w := by
  obtain ⟨i0, hi0, he⟩ := Option.map_eq_some_iff.1 info_u8
  simp only [Prod.mk.injEq] at he
  refine Lib.wpList_append_own_string _ hgd s x 29 9 ho B 5 i0 Try.underlying29 Try.underlying9 hi0 he.1 he.2.1 he.2.2 (.slice none 0 0) 0 [] hs (World.ownsRow_nil _ _ _ _) (bs l) hx (by rw [bs_size]; unfold maxLen; omega) (by rw [bs_size]; omega) hbase ?_
  intro v' w' h1 h2 _
  rw [strCells_bs, bs_size, Nat.zero_add, List.nil_append] at h1
  exact h v' w' h1 h2

set_option maxRecDepth 100000 in
set_option maxHeartbeats 4000000 in
theorem rsector_at (l : List UInt8) (hl : l.length ≤ 128) (w : World) :
    Calls Try.prog 29 #[strV l] w fun e w' => e = .returned (strV (pad l)) ∧ Off (fun _ => False) w w' := by
  have HL := Lib.hid hl
  have HLT : Hid (l.length < 100000) := by show _ < _; omega
  clear hl
  go_enter Try.func29, Try.ntmps29
  go_wp2_with (first
    | (at_builtin; refine wpList_append_s rfl (.tmp 4) (.tmp 5) rfl w.heap.size l rfl rfl HLT.out (Nat.le_refl _) ?_; intro v0 w0 hrow0 hg0; go_frame)
    | go_in)
  go_loopw [3] (fun lv wr => ∃ t : Nat, l.length + t ≤ 128 ∧ BRow wr w.heap.size lv (l ++ List.replicate t 0) ∧ Off (fun b => w.heap.size ≤ b) w wr) (fun lv _ => 128 - lenOf lv)
  case atStart => exact ⟨0, by have := HL.out; omega, by simpa using hrow0, Off.of_grown hg0 (by simp)⟩
  case round =>
    obtain ⟨t, ht, hrow, hoff⟩ := hrel
    obtain ⟨A, cap, hu, hA⟩ := brow_slice hrow
    have hlen : (l ++ List.replicate t (0 : UInt8)).length = l.length + t := by simp
    rw [hlen] at hu
    subst hu
    have HROW := Lib.hid hrow
    have HOFF := Lib.hid hoff
    have HA := Lib.hid hA
    clear hrow hoff hA hrow0 hg0
    by_cases hlt : l.length + t < 128
    · have hd : decide (((l.length + t : Nat) : Int) < 128) = true := by simp; omega
      have hd2 : decide ((l.length : Int) + (t : Int) < 128) = true := by simp; omega
      have HR2 : Hid (BRow (wr.alloc (.cells #[.int .u8 0] 5)) w.heap.size (.slice A (l.length + t) cap) (l ++ List.replicate t 0)) := HROW.out.alloc _
      have HCN := Lib.hid (cell_new wr #[.int .u8 0] 5 0)
      have HLEN : Hid ((l ++ List.replicate t (0 : UInt8)).length < 100000) := by show _ < _; omega
      have HBB : Hid (w.heap.size ≤ (wr.alloc (.cells #[.int .u8 0] 5)).heap.size) := by have := HOFF.out.size; show _ ≤ _; rw [World.size_alloc]; omega
      clear hlen
      go_wp2_with (first
        | (at_builtin; refine wpList_append_u8 rfl (.tmp 10) (.tmp 11) rfl w.heap.size _ (l ++ List.replicate t 0) 0 rfl HR2.out wr.heap.size rfl HCN.out HLEN.out HBB.out ?_; intro v1 w1 hrow1 hg1; go_frame)
        | go_in)
      have hown : ∀ g, (Value.slice A (l.length + t) cap).ownBlock = some g → w.heap.size ≤ g := fun g hg => (HROW.out.lt g hg).1
      have hrow2 : BRow w1 w.heap.size v1 (l ++ List.replicate (t + 1) 0) := by
        rw [List.replicate_succ', ← List.append_assoc]
        exact hrow1
      obtain ⟨A1, cap1, hu1, _⟩ := brow_slice hrow2
      subst hu1
      go_roundw
      case rel => exact ⟨t + 1, by omega, hrow2, (HOFF.out.trans (Off.of_grown (World.grownBy_alloc wr _ none) (by simp))).trans (Off.of_grown hg1 hown)⟩
      case measure => simp [lenOf]; omega
    · have hd : decide (((l.length + t : Nat) : Int) < 128) = false := by simp; omega
      have hd2 : decide ((l.length : Int) + (t : Int) < 128) = false := by simp; omega
      have ht2 : t = 128 - l.length := by omega
      have hpad : l ++ List.replicate t 0 = pad l := by rw [ht2]; rfl
      have HA2 := HA.out
      rw [hpad] at HA2
      have hpl := pad_length l HL.out
      rcases HA2 with e | ⟨g, rfl, _, _, hr⟩
      · rw [e] at hpl; simp at hpl
      · have hcv := run_string wr g 0 (pad l) cap hr
        rw [hpl] at hcv
        have h128 : l.length + t = 128 := by omega
        rw [h128]
        clear hpad HA hpl hd hd2 ht2 h128 hlt ht hlen HROW hr
        go_wp2
        go_ret
        exact ⟨rfl, HOFF.out.mono (fun k hk h => by omega)⟩
end Go.Proofs.Ytplnkpbfnpajjaa.Sec
