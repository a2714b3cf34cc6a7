/- NetCount: how many letters there are more, or less; rows of numbers. No function in sight. -/
import Derived.Test.YtonfpifikblnjaaNetCountData
namespace Go.Proofs.Ytonfpifikblnjaa.Net
open Go.RowKit

theorem all_way (D : Nt) (l : List Pk) : ((D.set 0 l).all : Int) = (D.all : Int) - ((D.row 0).length : Int) + (l.length : Int) := by
  have h1 : inbox (D.set 0 l) (D.set 0 l).n = inbox D D.n := inbox_congr _ (fun x _ => by rw [Nt.set_ne _ _ (by omega)])
  unfold Nt.all
  rw [h1, Nt.set_same]
  omega
theorem all_box (D : Nt) (k : Nat) (hk : k < D.n) (l : List Pk) : ((D.set (k + 1) l).all : Int) = (D.all : Int) - ((D.row (k + 1)).length : Int) + (l.length : Int) := by
  have h1 := inbox_one (D := D) (E := D.set (k + 1) l) (k := k) D.n (fun x _ hne => by rw [Nt.set_ne _ _ (by omega)]) hk
  have h2 : (D.set (k + 1) l).row 0 = D.row 0 := Nt.set_ne _ _ (by omega)
  unfold Nt.all
  rw [h2]
  rw [Nt.set_same] at h1
  show ((_ + inbox (D.set (k + 1) l) D.n : Nat) : Int) = _
  omega
/-- All boxes but that of own hold as many as before. -/
def Same (D D' : Nt) (own : Int) : Prop := ∀ j, j < D.n → (j : Int) ≠ own → (D'.row (j + 1)).length = (D.row (j + 1)).length
theorem same_way (D : Nt) (l : List Pk) (own : Int) : Same D (D.set 0 l) own := fun j _ _ => by rw [Nt.set_ne _ _ (by omega)]
theorem same_box (D : Nt) (k : Nat) (l : List Pk) : Same D (D.set (k + 1) l) (k : Int) := fun j _ hne => by rw [Nt.set_ne _ _ (by omega)]
theorem Same.trans {D E G : Nt} {own : Int} (h : Same D E own) (k : Same E G own) (hn : E.n = D.n) : Same D G own := fun j hj hne => (k j (by omega) hne).trans (h j hj hne)
theorem all_less (D : Nt) (z : Nat) (hz : z < (D.row 0).length) : ((D.less 0 z).all : Int) = (D.all : Int) - 1 := by
  have := all_way D ((D.row 0).eraseIdx z)
  rw [List.length_eraseIdx_of_lt hz] at this
  show ((D.set 0 _).all : Int) = _
  omega
theorem all_more (D : Nt) (k : Pk) : ((D.more 0 k).all : Int) = (D.all : Int) + 1 := by
  have := all_way D (D.row 0 ++ [k])
  rw [List.length_append, List.length_singleton] at this
  show ((D.set 0 _).all : Int) = _
  omega

theorem send_cases' (D : Nt) (p : Pk) : ((D.send p).1 = 0 ∧ (D.send p).2 = D.more 0 p) ∨ ((D.send p).1 ≠ 0 ∧ (D.send p).2 = D) := by
  unfold Nt.send
  split
  · split
    · exact .inr ⟨show ¬ (3 : Int) = 0 by decide, rfl⟩
    · exact .inl ⟨rfl, rfl⟩
  · exact .inr ⟨show ¬ (2 : Int) = 0 by decide, rfl⟩
section
variable (D : Nt) (hok : D.OK) (c : ActV)
/-- A Send. -/
theorem cnt_send (hk : c.k.toNat % 8 = 0 ∨ c.k.toNat % 8 = 1) : ((D.does c).2.all : Int) = (D.all : Int) + (if (D.does c).1.1 = 0 then 1 else 0) ∧ Same D (D.does c).2 (-1) := by
  rw [does_0 D c hk]
  rcases send_cases' D ⟨c.i, c.to, c.b⟩ with ⟨h1, h2⟩ | ⟨h1, h2⟩
  · dsimp only
    rw [h1, h2, if_pos rfl]
    exact ⟨all_more D _, same_way D _ _⟩
  · dsimp only
    rw [h2, if_neg h1]
    exact ⟨by omega, fun _ _ _ => rfl⟩
theorem cnt_double (hk : c.k.toNat % 8 = 4) : ((D.does c).2.all : Int) = (D.all : Int) + (if (D.does c).1.1 = 0 then 1 else 0) ∧ Same D (D.does c).2 (-1) := by
  rw [does_4 D c hk]
  dsimp only
  unfold Nt.double
  by_cases h0 : D.there c.i = 0
  · rw [if_pos h0]
    by_cases hf : 256 ≤ (D.row 0).length
    · rw [if_pos hf]
      refine ⟨?_, fun _ _ _ => rfl⟩
      show (D.all : Int) = (D.all : Int) + (if (3 : Int) = 0 then 1 else 0)
      rw [if_neg (by decide)]
      omega
    · rw [if_neg hf, if_pos rfl]
      exact ⟨all_more D _, same_way D _ _⟩
  · rw [if_neg h0]
    dsimp only
    rw [if_neg h0]
    exact ⟨by omega, fun _ _ _ => rfl⟩
theorem cnt_drop (hk : c.k.toNat % 8 = 3) : ((D.does c).2.all : Int) = (D.all : Int) + (if (D.does c).1.1 = 0 then -1 else 0) ∧ Same D (D.does c).2 (-1) := by
  rw [does_3 D c hk]
  dsimp only
  unfold Nt.drop
  dsimp only
  by_cases h0 : D.there c.i = 0
  · obtain ⟨z, hz, hzl⟩ := Nt.there_in h0
    rw [if_pos h0, if_pos h0, hz, Int.toNat_natCast]
    exact ⟨by rw [all_less D z hzl]; omega, same_way D _ _⟩
  · rw [if_neg h0, if_neg h0]
    exact ⟨by omega, fun _ _ _ => rfl⟩
theorem cnt_delay (hk : c.k.toNat % 8 = 5) : ((D.does c).2.all : Int) = (D.all : Int) ∧ Same D (D.does c).2 (-1) := by
  rw [does_5 D c hk]
  dsimp only
  unfold Nt.delay
  dsimp only
  by_cases h0 : D.there c.i = 0
  · obtain ⟨z, hz, hzl⟩ := Nt.there_in h0
    rw [if_pos h0, hz, Int.toNat_natCast]
    exact ⟨by rw [all_more, all_less D z hzl]; omega, (same_way D _ _).trans (same_way (D.less 0 z) _ _) rfl⟩
  · rw [if_neg h0]
    exact ⟨rfl, fun _ _ _ => rfl⟩
include hok in
/-- A Deliver of the letter z, to the box kt. -/
theorem cnt_deliver (hk : c.k.toNat % 8 = 2) (z : Nat) (hi : c.i = (z : Int)) (hz : z < (D.row 0).length) : ∃ kt : Nat, (D.nth 0 z).to = (kt : Int) ∧ kt < D.n ∧ (D.does c).1.1 = 0 ∧
    ((D.does c).2.all : Int) = (D.all : Int) + (if (D.row (kt + 1)).length = 32 then -1 else 0) ∧ Same D (D.does c).2 (kt : Int) := by
  have h0 : D.there c.i = 0 := by rw [hi]; exact there_nat D z hz
  have hto := hok.to_ _ (Nt.nth_mem hz)
  obtain ⟨kt, hkt⟩ : ∃ kt : Nat, (D.nth 0 z).to = (kt : Int) := ⟨(D.nth 0 z).to.toNat, by omega⟩
  have hktn : kt < D.n := by omega
  refine ⟨kt, hkt, hktn, ?_⟩
  rw [does_2 D c hk]
  dsimp only
  unfold Nt.deliver
  dsimp only
  rw [if_pos h0, h0, hi, Int.toNat_natCast]
  have hrow : ((D.less 0 z).row (kt + 1)) = D.row (kt + 1) := Nt.set_ne _ _ (by omega)
  have hbox := hok.box kt hktn
  unfold Nt.boxed
  rw [hkt, Int.toNat_natCast, hrow]
  refine ⟨rfl, ?_⟩
  by_cases hf : (D.row (kt + 1)).length < 32
  · rw [if_pos hf, if_neg (by omega)]
    refine ⟨?_, (same_way D _ _).trans (same_box (D.less 0 z) kt _) rfl⟩
    have h1 := all_box (D.less 0 z) kt hktn ((D.less 0 z).row (kt + 1) ++ [D.nth 0 z])
    have h2 := all_less D z hz
    rw [List.length_append, List.length_singleton] at h1
    show ((Nt.set _ _ _).all : Int) = _
    omega
  · rw [if_neg hf, if_pos (by omega)]
    exact ⟨by rw [all_less D z hz]; omega, same_way D _ _⟩
theorem cnt_deliver_not (hk : c.k.toNat % 8 = 2) (h0 : D.there c.i ≠ 0) : (D.does c).1.1 ≠ 0 ∧ (D.does c).2 = D := by
  rw [does_2 D c hk]
  dsimp only
  unfold Nt.deliver
  dsimp only
  rw [if_neg h0]
  exact ⟨h0, rfl⟩
theorem cnt_receive (hk : c.k.toNat % 8 = 6) : ((D.does c).2.all : Int) = (D.all : Int) + (if (D.does c).1.2.isSome = true then -1 else 0) ∧ Same D (D.does c).2 c.to := by
  rw [does_6 D c hk]
  dsimp only
  unfold Nt.receive
  by_cases h0 : D.waits c.to = 0
  · rw [if_pos h0]
    exact ⟨by simp, fun _ _ _ => rfl⟩
  · rw [if_neg h0]
    have his : D.is c.to = true := by
      unfold Nt.waits at h0
      split at h0
      · assumption
      · exact absurd rfl h0
    obtain ⟨k, hkk, hkn⟩ := Nt.is_nat his
    have hpos : 0 < (D.row (k + 1)).length := by
      rw [hkk, waits_nat D k hkn] at h0
      omega
    rw [hkk, Int.toNat_natCast]
    refine ⟨?_, same_box D k _⟩
    have h1 := all_box D k hkn ((D.row (k + 1)).eraseIdx 0)
    rw [List.length_eraseIdx_of_lt hpos] at h1
    dsimp only [Option.isSome]
    rw [if_pos rfl]
    show ((D.set (k + 1) _).all : Int) = _
    omega
theorem cnt_clear (hk : c.k.toNat % 8 = 7) : ((D.does c).2.all : Int) = (D.all : Int) - (if D.is c.to = true then ((D.row (c.to.toNat + 1)).length : Int) else 0) ∧ Same D (D.does c).2 c.to := by
  rw [does_7 D c hk]
  dsimp only
  unfold Nt.clear
  by_cases h0 : D.is c.to = true
  · rw [if_pos h0, if_pos h0]
    obtain ⟨k, hkk, hkn⟩ := Nt.is_nat h0
    rw [hkk, Int.toNat_natCast]
    refine ⟨?_, same_box D k _⟩
    have h1 := all_box D k hkn []
    simp only [List.length_nil] at h1
    omega
  · rw [if_neg h0, if_neg h0]
    exact ⟨by omega, fun _ _ _ => rfl⟩
end

/-- A row of numbers. -/
def ints (n : Nat) (G : Nat → Int) : List Value := (List.range n).map fun j => .int .i64 (G j)
def updI (f : Nat → Int) (i : Nat) (x : Int) : Nat → Int := fun j => if j = i then x else f j
theorem ints_get (n : Nat) (G : Nat → Int) (j : Nat) (h : j < n) : (ints n G).toArray[j]? = some (.int .i64 (G j)) := by simp [ints, h]
theorem ints_congr {n : Nat} {F G : Nat → Int} (h : ∀ j, j < n → F j = G j) : ints n F = ints n G := by
  unfold ints
  apply List.map_congr_left
  intro j hj
  rw [h j (by simpa using hj)]
theorem ints_set (n : Nat) (G : Nat → Int) (j : Nat) (x : Int) : (ints n G).toArray.setIfInBounds j (.int .i64 x) = (ints n (updI G j x)).toArray := by
  simp only [List.setIfInBounds_toArray]
  congr 1
  apply List.ext_getElem?
  intro i
  rw [List.getElem?_set]
  simp only [ints, List.length_map, List.length_range, List.getElem?_map]
  by_cases hi : i < n
  · rw [List.getElem?_range hi]
    by_cases e : j = i
    · subst e
      simp [hi, updI]
    · have e2 : ¬ i = j := fun h => e h.symm
      simp [e, updI, e2]
  · have : (List.range n)[i]? = none := by simp; omega
    rw [this]
    by_cases e : j = i
    · subst e; simp [hi]
    · simp [e]
theorem info_int : (Try.prog.info? 3).map (fun i => (i.zero, i.size, i.bytes)) = some (some (.int .i64 0), 1, 8) := by kernel_rfl
theorem made_ints (n : Nat) : madeCells #[Value.int .i64 0] n = (ints n (fun _ => 0)).toArray := by
  apply Array.ext_getElem?
  intro i
  unfold madeCells ints
  simp only [Array.getElem?_map, List.getElem?_toArray, List.getElem?_map]
  by_cases h : i < n
  · rw [Array.getElem?_eq_getElem (by simpa using h), List.getElem?_range h]
    simp only [Array.getElem_range, Option.map_some, show #[Value.int .i64 0].size = 1 from rfl, Nat.mod_one]
    rfl
  · rw [Array.getElem?_eq_none (by simpa using h), List.getElem?_eq_none (by simpa using h)]
    rfl
/-- make([]int, n). -/
theorem run_make_ints (w : World) (n : Nat) (hn : n ≤ 64) : ∃ w', (Instr.makeSlice 56 (.int .i64 (n : Int)) (.int .i64 (n : Int))).run Try.prog w = .ok (.slice (some ⟨w.heap.size, 0, none⟩) n n) w' ∧ w'.heap[w.heap.size]? = some (.cells (ints n (fun _ => 0)).toArray 3) ∧ w.grownBy w' none := by
  obtain ⟨i0, hi0, he⟩ := Option.map_eq_some_iff.1 info_int
  simp only [Prod.mk.injEq] at he
  obtain ⟨w1, hrun, hown, hgr⟩ := run_make_full (P := Try.prog) w w.heap.size 56 3 i0 _ 1 Try.underlying56 hi0 he.1 he.2.1 .i64 .i64 n (by rw [he.2.2]; omega) (by unfold maxLen; omega) (Nat.le_refl _)
  refine ⟨w1, hrun, ?_, hgr⟩
  obtain ⟨_, ⟨e, _⟩ | ⟨g, cap, cur, e, hB, hb, _, _, hcs, ht⟩⟩ := hown
  · cases e
  cases e
  have hcur : cur = madeCells #[.int .i64 0] n := by
    apply Array.toList_inj.1
    rw [Nat.mul_one] at ht
    exact (List.take_of_length_le (by rw [Array.length_toList, hcs]; omega)).symm.trans ht
  rw [hb, hcur, made_ints]
end Go.Proofs.Ytonfpifikblnjaa.Net
