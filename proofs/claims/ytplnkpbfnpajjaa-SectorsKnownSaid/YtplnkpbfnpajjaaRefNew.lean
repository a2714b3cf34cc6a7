/- The document's disk: New. -/
import Derived.Test.YtplnkpbfnpajjaaRefSector
namespace Go.Proofs.Ytplnkpbfnpajjaa.Sec
open Go.RowKit Go.Maps

theorem row_base {w : World} {B n sz : Nat} {e : TypeId} {v : Value} {xs : List Value} (h : w.ownsRow B e sz v n xs) : w.ownsRow 0 e sz v n xs := by
  refine ⟨h.1, ?_⟩
  rcases h.2 with h2 | ⟨g, cap, cur, e, h3, h4⟩
  · exact .inl h2
  · exact .inr ⟨g, cap, cur, e, Nat.zero_le _, h4⟩
/-- A row's own block is none of another type. -/
theorem row_blk {w : World} {B n sz g : Nat} {e : TypeId} {v : Value} {xs : List Value} (h : w.ownsRow B e sz v n xs) (hg : v.ownBlock = some g) : ∃ cur, w.heap[g]? = some (.cells cur e) := by
  obtain ⟨_, ⟨rfl, _⟩ | ⟨g', cap, cur, rfl, _, hb, _⟩⟩ := h
  · cases hg
  · cases hg
    exact ⟨cur, hb⟩
theorem rows_apart {w : World} {B1 B2 n1 n2 s1 s2 g : Nat} {e1 e2 : TypeId} {v1 v2 : Value} {xs ys : List Value} (h1 : w.ownsRow B1 e1 s1 v1 n1 xs) (h2 : w.ownsRow B2 e2 s2 v2 n2 ys) (hne : e1 ≠ e2) (hg1 : v1.ownBlock = some g) (hg2 : v2.ownBlock = some g) : False := by
  obtain ⟨c1, hc1⟩ := row_blk h1 hg1
  obtain ⟨c2, hc2⟩ := row_blk h2 hg2
  rw [hc1] at hc2
  injection hc2 with hc2
  injection hc2 with _ hc2
  exact hne hc2
theorem row_shape' {w : World} {B n sz : Nat} {e : TypeId} {v : Value} {xs : List Value} (h : w.ownsRow B e sz v n xs) : ∃ A nn cap, v = .slice A nn cap := by
  obtain ⟨_, ⟨rfl, _⟩ | ⟨g, cap, cur, rfl, _⟩⟩ := h
  · exact ⟨_, _, _, rfl⟩
  · exact ⟨_, _, _, rfl⟩
/-- A field takes a row that has grown. -/
theorem fld_push {w w4 w5 : World} {m j B B2 n n2 sz : Nat} {C : Array Value} {e : TypeId} {v v2 : Value} {xs ys : List Value} (hm : w.heap[m]? = some (.cells C 61)) (hrow : w.ownsRow B e sz v n xs) (hne : 61 ≠ e)
    (hg4 : w.grownBy w4 none) (hown : w5.ownsRow B2 e sz v2 n2 ys) (hg5 : w4.grownBy w5 v.ownBlock) :
    w5.heap[m]? = some (.cells C 61) ∧ (w5.setCell ⟨m, j, none⟩ v2).heap[m]? = some (.cells (C.setIfInBounds j v2) 61) ∧ (w5.setCell ⟨m, j, none⟩ v2).ownsRow B2 e sz v2 n2 ys ∧
    ∀ S : Nat → Prop, S m → (∀ g, v.ownBlock = some g → S g) → Off S w (w5.setCell ⟨m, j, none⟩ v2) := by
  have hmlt := (Array.getElem?_eq_some_iff.1 hm).1
  have hm4 := (hg4.block m hmlt (by simp)).trans hm
  have hvm : some m ≠ v.ownBlock := by
    intro e'
    obtain ⟨cur, hc⟩ := row_blk hrow e'.symm
    rw [hm] at hc
    injection hc with hc
    injection hc with _ hc
    exact hne hc
  have hm5 := (hg5.block m (by have := hg4.size; omega) hvm).trans hm4
  have hg6 := grown_set w5 m j v2
  refine ⟨hm5, heap_setCell_same w5 m j _ _ v2 hm5, ?_, fun S hS hv => ((Off.of_grown hg4 (by simp)).trans (Off.of_grown hg5 hv)).trans (grown_off hg6 hS)⟩
  refine row_off hown (S := fun b => b = m) (Off.of_grown hg6 (fun k e => by cases e; rfl)) ?_
  rintro g hg rfl
  obtain ⟨cur, hc⟩ := row_blk hown hg
  rw [hm5] at hc
  injection hc with hc
  injection hc with _ hc
  exact hne hc

set_option maxRecDepth 100000 in
set_option maxHeartbeats 4000000 in
theorem rnew_at (i : Int) (w : World) :
    Calls Try.prog 15 #[.int .i64 i] w fun e w' => ∃ m, e = .returned (.pointer (some ⟨m, 0, none⟩)) ∧ RefAt w' (fun b => w.heap.size ≤ b) m (freshDisk (max 0 (min 16384 i)).toNat) ∧ Off (fun _ => False) w w' := by
  obtain ⟨n, hn⟩ : ∃ n : Nat, (n : Int) = max 0 (min 16384 i) := ⟨(max 0 (min 16384 i)).toNat, by omega⟩
  rw [← hn, Int.toNat_natCast]
  have hn2 : n ≤ 16384 := by omega
  have HN := Lib.hid hn
  have hb0 := (MapKept.heap_alloc w (.cells #[.slice none 0 0, .slice none 0 0, .bool false, .int .i64 0, .bool false] 61)).1
  have hga := World.grownBy_alloc w (.cells #[.slice none 0 0, .slice none 0 0, .bool false, .int .i64 0, .bool false] 61) none
  have hsa : (w.alloc (.cells #[.slice none 0 0, .slice none 0 0, .bool false, .int .i64 0, .bool false] 61)).heap.size = w.heap.size + 1 := World.size_alloc ..
  have HB0 := Lib.hid (And.intro hb0 (And.intro hga hsa))
  have HSEC := Lib.hid (fun w => rsector_at [] (by simp) w)
  clear hn hb0 hga hsa
  go_enter Try.func15, Try.ntmps15
  go_wp2_with fail
  refine (HSEC.out _).mono ?_
  rintro e w2 ⟨rfl, ho2⟩
  obtain ⟨hb0, hga, hsa⟩ := HB0.out
  have hm2 := (ho2.none.block w.heap.size (by omega) (by simp)).trans hb0
  have hz : pad [] = noughts := rfl
  rw [hz]
  have HM2 := Lib.hid hm2
  have HO2 := Lib.hid ((Off.of_grown (S := fun b => w.heap.size ≤ b) hga (by simp)).trans (ho2.mono (fun _ _ h => h.elim)))
  have HS2 : Hid (w.heap.size < w2.heap.size) := by have := ho2.size; show _ < _; omega
  obtain ⟨m, hmq⟩ : ∃ m, m = w.heap.size := ⟨_, rfl⟩
  have HMQ := Lib.hid hmq
  rw [← hmq] at HM2 HS2 ⊢
  clear hb0 hga hsa hm2 ho2 HSEC hz hmq HB0
  go_wp2_with fail
  go_loopw [5] (fun iv wr => ∃ (k : Nat) (sb : Value), k ≤ n ∧ iv = .int .i64 (k : Int) ∧ wr.heap[m]? = some (.cells #[sb, .slice none 0 0, .bool false, .int .i64 0, .bool false] 61) ∧ StrRow wr w.heap.size sb (tellV (fun _ => noughts) k) ∧ Off (fun b => w.heap.size ≤ b) w wr) (fun iv _ => n - (intOf iv).toNat)
  case atStart => exact ⟨0, _, Nat.zero_le _, rfl, HM2.out, World.ownsRow_nil _ _ _ _, HO2.out⟩
  case round =>
    obtain ⟨k, sb, hk, rfl, hm, hrow, hoff⟩ := hrel
    have HM := Lib.hid hm
    have HROW := Lib.hid hrow
    have HOFF := Lib.hid hoff
    have hnn := HN.out
    by_cases hlt : k < n
    · have hd1 : decide ((k : Int) < i) = true := by simp; omega
      have hd2 : decide ((k : Int) < 16384) = true := by simp; omega
      obtain ⟨A, cap, hsb, _⟩ := str_slice hrow
      have c0 : wr.cell? ⟨m, 0, none⟩ = some sb := cell_blk hm 0
      have hgA := World.grownBy_alloc wr (.cells #[strV noughts] 9) none
      have HR2 : Hid (StrRow (wr.alloc (.cells #[strV noughts] 9)) w.heap.size sb (tellV (fun _ => noughts) k)) := hrow.alloc _
      have HCN := Lib.hid (cell_new wr #[strV noughts] 9 0)
      have HLEN : Hid ((tellV (fun _ => noughts) k).length < 100000) := by show _ < _; rw [tellV_length]; omega
      have HBB : Hid (w.heap.size ≤ (wr.alloc (.cells #[strV noughts] 9)).heap.size) := by have := HOFF.out.size; show _ ≤ _; rw [World.size_alloc]; omega
      have HPUSH : Hid (∀ v2 w5, StrRow w5 w.heap.size v2 (tellV (fun _ => noughts) k ++ [strV noughts]) → (wr.alloc (.cells #[strV noughts] 9)).grownBy w5 sb.ownBlock → _) := fun v2 w5 h5 hg5 => fld_push (j := 0) (v2 := v2) HM.out HROW.out (by decide) hgA h5 hg5
      have HSB := Lib.hid hsb
      clear hm hrow hoff hgA hsb hnn
      go_wp2_with (first
        | (at_builtin; refine wpList_append_str rfl (.tmp 22) (.tmp 24) rfl w.heap.size sb _ (strV noughts) rfl rfl HR2.out wr.heap.size rfl HCN.out HLEN.out HBB.out ?_; intro v2 w5 h5 hg5; (obtain ⟨A2, nn2, cap2, hv2⟩ := row_shape' h5); subst hv2; (have hp := HPUSH.out _ w5 h5 hg5); (have z0 := frozen_blk hp.1 0); (have e0 := cell_blk hp.1 0); (have HP := Lib.hid hp); clear hp; go_frame)
        | go_in)
      obtain ⟨_, hm6, hr6, ho6⟩ := HP.out
      go_roundw
      case rel =>
        refine ⟨k + 1, _, hlt, by go_num, hm6, by rw [tellV_succ]; exact hr6, HOFF.out.trans (ho6 _ (by have := HMQ.out; show w.heap.size ≤ m; omega) (fun g hg => (HROW.out.lt g hg).1))⟩
      case measure => simp [intOf]; omega
    · obtain rfl : k = n := by omega
      have HEND : Hid (RefAt wr (fun b => w.heap.size ≤ b) m (freshDisk k)) :=
        ⟨hn2, by show (0 : Nat) < _; omega, sb, .slice none 0 0, 0, hm, by have := HMQ.out; show w.heap.size ≤ m; omega, row_base hrow, fun g hg => (hrow.lt g hg).1, World.ownsRow_nil _ _ _ _, by simp [Value.ownBlock], fun k hk => by cases hk⟩
      clear hm hrow hoff
      by_cases hki : (k : Int) < i
      · have hd1 : decide ((k : Int) < i) = true := by simp; omega
        have hd2 : decide ((k : Int) < 16384) = false := by simp; omega
        clear hlt hki hnn
        go_wp2_with fail
        go_ret
        exact ⟨m, rfl, HEND.out, HOFF.out.mono (fun k hk h => by omega)⟩
      · have hd1 : decide ((k : Int) < i) = false := by simp; omega
        clear hlt hki hnn
        go_wp2_with fail
        go_ret
        exact ⟨m, rfl, HEND.out, HOFF.out.mono (fun k hk h => by omega)⟩
end Go.Proofs.Ytplnkpbfnpajjaa.Sec
