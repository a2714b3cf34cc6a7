/- Disks and rows beside one another; what plain writes do. -/
import Derived.Laws.BitsLemmas
import Derived.Test.YtplnkpbfnpajjaaSecWorks
namespace Go.Proofs.Ytplnkpbfnpajjaa.Sec
open Go.RowKit Go.Maps

/-- A number's three lowest bits. -/
def low3 (x : Int) : Nat := (bits .and .i64 x 7).toNat
theorem low3_both (x : Int) : bits .and .i64 x 7 = (low3 x : Int) ∧ low3 x < 8 := by
  have h : (BitVec.ofInt 64 x &&& BitVec.ofInt 64 7).toNat < 8 := by
    rw [BitVec.toNat_and]
    exact Nat.lt_of_le_of_lt Nat.and_le_right (by decide)
  have e : bits .and .i64 x 7 = ((BitVec.ofInt 64 x &&& BitVec.ofInt 64 7).toNat : Int) := by
    show IntKind.i64.wrap _ = _
    rw [IntKind.wrap_i64]
    show ((((BitVec.ofInt 64 x &&& BitVec.ofInt 64 7).toNat : Nat) : Int) + _) % _ - _ = _
    omega
  unfold low3
  rw [e]
  exact ⟨by simp, by simpa using h⟩

theorem DiskAt.next {w w2 : World} {S T : Nat → Prop} {d : Nat} {D : Dsk} (h : DiskAt w S d D) (ho : Off T w w2) (hST : ∀ k, k < w.heap.size → S k → ¬ T k) : DiskAt w2 (Beside S w.heap.size w2.heap.size) d D :=
  ((h.mono (T := fun b => S b ∧ b < w.heap.size) (fun _ hk hs => ⟨hs, hk⟩)).off ho (fun k hk hs => hST k hk hs.1)).mono (fun _ _ hs => .inl hs)
/-- A row keeps what it has while other blocks turn. -/
theorem row_off {w w' : World} {S : Nat → Prop} {B n sz : Nat} {e : TypeId} {v : Value} {xs : List Value} (h : w.ownsRow B e sz v n xs) (ho : Off S w w') (hv : ∀ g, v.ownBlock = some g → ¬ S g) : w'.ownsRow B e sz v n xs := by
  refine ⟨h.1, ?_⟩
  rcases h.2 with h2 | ⟨g, cap, cur, rfl, h3, hb, h4⟩
  · exact .inl h2
  · exact .inr ⟨g, cap, cur, rfl, h3, (ho.block g (Array.getElem?_eq_some_iff.1 hb).1 (hv g rfl)).trans hb, h4⟩
theorem info_int : (Try.prog.info? 3).map (fun i => (i.zero, i.size, i.bytes)) = some (some (.int .i64 0), 1, 8) := by kernel_rfl
/-- A row of places. -/
def IntRow (w : World) (v : Value) (ns : List Nat) : Prop := w.ownsRow 0 3 1 v ns.length (ns.map fun (n : Nat) => Value.int .i64 (n : Int))
theorem wpList_append_int {ops : Array Oper} {rest : List Oper} {o : Oper} {a : Act} {w : World} {Q : Exit → Act → World → Prop} (hgd : o.guard = none) (s x : Operand) (ho : o.op = .call { callee := .builtin .append, args := #[s, x], argTypes := #[34, 34] })
    (v : Value) (ns : List Nat) (y : Nat) (hs : a.eval s = v) (hown : IntRow w v ns) (g : Nat) (hx : a.eval x = .slice (some ⟨g, 0, none⟩) 1 1) (hc : w.cell? ⟨g, 0, none⟩ = some (.int .i64 (y : Int))) (hb : ns.length < 100000)
    (h : ∀ v' w', IntRow w' v' (ns ++ [y]) → w.grownBy w' v.ownBlock → (v'.ownBlock = v.ownBlock ∨ v'.ownBlock = some w.heap.size) → wpList Try.prog ops Q rest (a.put o.dst v') w') : wpList Try.prog ops Q (o :: rest) a w := by
  obtain ⟨i0, hi0, he⟩ := Option.map_eq_some_iff.1 info_int
  simp only [Prod.mk.injEq] at he
  obtain ⟨v', w', hrun, hown', hgr, _, hob⟩ := run_append_own_at (P := Try.prog) w 0 34 o.type 3 i0 _ 1 8 Try.underlying34 hi0 he.1 he.2.1 he.2.2 rfl (by decide) v ns.length _ hown ⟨g, 0, none⟩ 1 1 [.int .i64 (y : Int)] rfl
    (by
      intro j z hj
      match j, hj with
      | 0, hj =>
        simp at hj
        subst hj
        simpa [Addr.add] using hc) (by intro z hz; simp at hz; subst hz; rfl) (by unfold maxLen; omega) (by omega) (Nat.zero_le _)
  refine wpList_plain hgd fun K hK => ?_
  unfold Oper.wp
  simp [execOp, ho, resolve, invoke, builtin, hs, hx, hrun, Result.andThen]
  refine hK _ _ (h v' w' ?_ hgr hob)
  unfold IntRow
  rw [List.length_append, List.map_append]
  exact hown'
theorem int_row {w : World} {v : Value} {ns : List Nat} (h : IntRow w v ns) : ∃ A cap, v = .slice A ns.length cap ∧ ∀ (k y : Nat), ns[k]? = some y → ∃ g, A = some ⟨g, 0, none⟩ ∧ g < w.heap.size ∧ w.cell? ⟨g, k, none⟩ = some (.int .i64 (y : Int)) := by
  obtain ⟨_, ⟨rfl, e⟩ | ⟨g, cap, cur, rfl, hB, hb, _, _, _, ht⟩⟩ := h
  · refine ⟨none, 0, by rw [e], fun k y hk => ?_⟩
    rw [List.eq_nil_of_length_eq_zero e] at hk
    simp at hk
  · refine ⟨_, cap, rfl, fun k y hk => ⟨g, rfl, (Array.getElem?_eq_some_iff.1 hb).1, ?_⟩⟩
    have h1 : (ns.map fun (n : Nat) => Value.int .i64 (n : Int))[k]? = some (.int .i64 (y : Int)) := by simp [hk]
    rw [← ht, List.getElem?_take] at h1
    rw [cell_blk hb]
    split at h1
    · simpa using h1
    · cases h1

/-- A disk of 8 sectors that is on and not armed. -/
structure Good (D : Dsk) : Prop where
  n : D.n = 8
  armed : D.armed = none
  off : D.off = false
  now : D.now = behind D.base D.wr
theorem Good.push {D : Dsk} (h : Good D) (i : Nat) (l : List UInt8) : Good (D.push i l) :=
  ⟨h.n, h.armed, h.off, by show upd D.now i l = behind D.base (D.wr ++ [(i, l)]); rw [behind_snoc, ← h.now]⟩
theorem Good.wrote {D : Dsk} (h : Good D) {z : Nat} (hz : z < 8) (b : List UInt8) : wrote D (z : Int) b = if 128 < b.length then (3, D) else (0, D.push z (pad b)) := by
  unfold Sec.wrote
  have hask : askedN D (z : Int) = 0 := by
    unfold askedN
    rw [if_neg (by rw [h.off]; decide), if_neg (by rw [h.n]; omega)]
  rw [if_neg (by simpa using hask), h.armed]
  simp
theorem Good.settle {D : Dsk} (h : Good D) : Good { D with base := D.now, wr := [] } := ⟨h.n, h.armed, h.off, rfl⟩
theorem good_fresh : Good (freshDisk 8) := ⟨rfl, rfl, rfl, rfl⟩
end Go.Proofs.Ytplnkpbfnpajjaa.Sec
