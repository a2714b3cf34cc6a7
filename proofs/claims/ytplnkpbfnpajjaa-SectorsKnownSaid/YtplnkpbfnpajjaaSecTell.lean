/- The law's helpers tell and like. -/
import Derived.Laws.BytesArg
import Derived.Test.YtplnkpbfnpajjaaSecArgs
namespace Go.Proofs.Ytplnkpbfnpajjaa.Sec
open Go.RowKit Go.Maps

/-- Bytes as a Go string. (A plain name: the walk does not look into it.) -/
def bs (l : List UInt8) : ByteArray := ⟨l.toArray⟩
theorem bs_inj {a b : List UInt8} (h : bs a = bs b) : a = b := by
  unfold bs at h
  injection h with h
  simpa using h
abbrev strV (l : List UInt8) : Value := .string (bs l)
theorem run_string (w : World) (g off : Nat) (l : List UInt8) (cap : Nat) (h : w.rangeAt g off (u8s l)) : (convert 29 9 (.slice (some ⟨g, off, none⟩) l.length cap)).run Try.prog w = .ok (strV l) w := by
  have := run_convert_bytes_arg (P := Try.prog) w 29 5 Try.underlying29 Try.underlying5 g off l.length cap (l.map fun c => (c.toNat : Int)) (by simp) (fun i hi => by
    refine h i _ ?_
    simp [u8s, hi]) 9 Try.underlying9
  rw [this]
  congr 2
  unfold strOfNums bs
  congr 2
  rw [List.map_map]
  conv => rhs; rw [← List.map_id l]
  refine List.map_congr_left fun c _ => ?_
  simp
theorem info_str : (Try.prog.info? 9).map (fun i => (i.zero, i.size, i.bytes)) = some (some (.string ByteArray.empty), 1, 16) := by kernel_rfl

/-- A row of strings of one's own. -/
def StrRow (w : World) (B : Nat) (v : Value) (xs : List Value) : Prop := w.ownsRow B 9 1 v xs.length xs
theorem wpList_append_str {ops : Array Oper} {rest : List Oper} {o : Oper} {a : Act} {w : World} {Q : Exit → Act → World → Prop} (hgd : o.guard = none) (s x : Operand) (ho : o.op = .call { callee := .builtin .append, args := #[s, x], argTypes := #[32, 32] })
    (B : Nat) (v : Value) (xs : List Value) (y : Value) (hy : y.oneCell' = true) (hs : a.eval s = v) (hown : StrRow w B v xs) (g : Nat) (hx : a.eval x = .slice (some ⟨g, 0, none⟩) 1 1) (hc : w.cell? ⟨g, 0, none⟩ = some y) (hb : xs.length < 100000) (hbase : B ≤ w.heap.size)
    (h : ∀ v' w', StrRow w' B v' (xs ++ [y]) → w.grownBy w' v.ownBlock → wpList Try.prog ops Q rest (a.put o.dst v') w') : wpList Try.prog ops Q (o :: rest) a w := by
  obtain ⟨i0, hi0, he⟩ := Option.map_eq_some_iff.1 info_str
  simp only [Prod.mk.injEq] at he
  refine wpList_append_own _ hgd s x 32 ho B 9 i0 _ 1 16 Try.underlying32 hi0 he.1 he.2.1 he.2.2 rfl (by decide) v xs.length _ hs hown ⟨g, 0, none⟩ 1 1 [y] hx rfl ?_ ?_ (by unfold maxLen; omega) (by omega) hbase ?_
  · intro j z hj
    match j, hj with
    | 0, hj =>
      simp at hj
      subst hj
      simpa [Addr.add] using hc
  · intro z hz
    simp at hz
    subst hz
    exact hy
  · intro v' w' h1 h2 _
    refine h v' w' ?_ h2
    unfold StrRow
    rw [List.length_append]
    exact h1
def tellV (f : Nat → List UInt8) (n : Nat) : List Value := (List.range n).map fun i => strV (f i)
theorem tellV_length (f : Nat → List UInt8) (n : Nat) : (tellV f n).length = n := by simp [tellV]
theorem tellV_succ (f : Nat → List UInt8) (n : Nat) : tellV f (n + 1) = tellV f n ++ [strV (f n)] := by simp [tellV, List.range_succ]

set_option maxRecDepth 100000 in
set_option maxHeartbeats 4000000 in
theorem tell_at (S : Nat → Prop) (d : Nat) (D : Dsk) (w : World) (h : DiskAt w S d D) (ho : D.off = false) :
    Calls Try.prog 11 #[.pointer (some ⟨d, 0, none⟩)] w fun e w' => ∃ v, e = .returned v ∧ StrRow w' w.heap.size v (tellV D.now D.n) ∧ Off (fun _ => False) w w' := by
  have h16 : D.n ≤ 16384 := h.1
  have HD := Lib.hid (h.mono (T := fun b => b < w.heap.size) (fun k hk _ => hk))
  have HSEC : Hid (∀ wr : World, DiskAt wr (fun b => b < w.heap.size) d D → _) := fun wr hd => sectors_at (fun b => b < w.heap.size) d D wr hd
  have HRD : Hid (∀ (wr : World) (i : Nat), DiskAt wr (fun b => b < w.heap.size) d D → i < D.n → _) := fun wr i hd hi => read_told (fun b => b < w.heap.size) d i D wr hd hi ho
  clear h
  go_enter Try.func11, Try.ntmps11
  go_wp2
  go_loopw [3, 4] (fun lv iv wr => ∃ k : Nat, k ≤ D.n ∧ iv = .int .i64 (k : Int) ∧ StrRow wr w.heap.size lv (tellV D.now k) ∧ Off (fun b => w.heap.size ≤ b) w wr) (fun _ iv _ => D.n - (intOf iv).toNat)
  case atStart => exact ⟨0, Nat.zero_le _, rfl, World.ownsRow_nil _ _ _ _, Off.refl _ _⟩
  case round =>
    obtain ⟨k, hk, rfl, hrow, hoff⟩ := hrel
    have HROW := Lib.hid hrow
    have HOFF := Lib.hid hoff
    have HDR := Lib.hid (HD.out.off hoff (fun k _ h => by omega))
    have hsz := hoff.size
    clear hrow hoff
    go_wp2_with fail
    refine (HSEC.out wr HDR.out).mono ?_
    rintro e w' ⟨rfl, rfl⟩
    by_cases hlt : k < D.n
    · have hkd : decide ((k : Int) < (D.n : Int)) = true := by simp; omega
      go_wp2_with fail
      refine (HRD.out wr k HDR.out hlt).mono ?_
      rintro e w2 ⟨rfl, hl, hr2, hs2, hg2, _⟩
      have hcv := run_string w2 wr.heap.size 0 (D.now k) 128 hr2
      rw [hl] at hcv
      have HG2 := Lib.hid hg2
      have hrow2 : StrRow w2 w.heap.size u3 (tellV D.now k) := by
        refine ⟨HROW.out.1, ?_⟩
        rcases HROW.out.2 with h2 | ⟨g, cap, cur, e, h3, hb, h4⟩
        · exact .inl h2
        · exact .inr ⟨g, cap, cur, e, h3, (hg2.block g (Array.getElem?_eq_some_iff.1 hb).1 (by simp)).trans hb, h4⟩
      have hrow3 : StrRow (w2.alloc (.cells #[strV (D.now k)] 9)) w.heap.size u3 (tellV D.now k) := hrow2.alloc _
      have HROW3 := Lib.hid hrow3
      have hc3 := cell_new w2 #[strV (D.now k)] 9 0
      have HC3 := Lib.hid hc3
      have HS2 := Lib.hid hs2
      have HSZ := Lib.hid hsz
      clear hl hr2 hs2 hg2 hrow2 hrow3 hc3 hsz
      have hlen := tellV_length D.now k
      have HLEN : Hid ((tellV D.now k).length < 100000) := by show _ < _; omega
      have HBS : Hid (w.heap.size ≤ (w2.alloc (.cells #[strV (D.now k)] 9)).heap.size) := by
        have := HS2.out; have := HSZ.out
        show _ ≤ _
        rw [World.size_alloc]; omega
      clear hlen
      go_wp2_with (first
        | (at_builtin; refine wpList_append_str rfl (.tmp 21) (.tmp 24) rfl w.heap.size u3 (tellV D.now k) (strV (D.now k)) rfl rfl HROW3.out w2.heap.size rfl HC3.out HLEN.out HBS.out ?_; intro v' w4 hrow4 hg4; go_frame)
        | go_in)
      go_roundw
      case rel =>
        refine ⟨k + 1, hlt, by go_num, by rw [tellV_succ]; exact hrow4, ?_⟩
        have o1 : Off (fun b => w.heap.size ≤ b) wr w2 := Off.of_grown HG2.out (by simp)
        have o2 : Off (fun b => w.heap.size ≤ b) w2 (w2.alloc (.cells #[strV (D.now k)] 9)) := Off.of_grown (World.grownBy_alloc w2 _ none) (by simp)
        have o3 : Off (fun b => w.heap.size ≤ b) (w2.alloc (.cells #[strV (D.now k)] 9)) w4 := Off.of_grown hg4 (fun g hg => (HROW.out.lt g hg).1)
        exact ((HOFF.out.trans o1).trans o2).trans o3
      case measure => simp [intOf]; omega
    · have hkd : decide ((k : Int) < (D.n : Int)) = false := by simp; omega
      obtain rfl : k = D.n := by omega
      clear hlt hk
      go_wp2_with fail
      go_ret
      exact ⟨u3, rfl, HROW.out, HOFF.out.mono (fun k hk h => by omega)⟩
end Go.Proofs.Ytplnkpbfnpajjaa.Sec
