/- SectorsKnown: the walk. -/
import Derived.Deep.OwnRows
import Derived.Test.YtplnkpbfnpajjaaSecNil
namespace Go.Proofs.Ytplnkpbfnpajjaa.Sec
open Go.RowKit Go.Maps

/-- A literal's bytes: the world behind it by a letter. -/
theorem wpList_bytes_const {ops : Array Oper} {rest : List Oper} {op : Oper} {a : Act} {w : World} {Q : Exit → Act → World → Prop} (hgd : op.guard = none) (x : Operand) (ho : op.op = .convert 29 29 x)
    (w0 : World) (C : Array Value) (n c : Nat) (hw : w = w0.alloc (.cells C 5)) (hx : a.eval x = .slice (some ⟨w0.heap.size, 0, none⟩) n c)
    (h : ∀ w', Hid (w0.grownBy w' none ∧ w'.heap.size = w0.heap.size + 1 ∧ w'.rangeAt w0.heap.size 0 C.toList) → wpList Try.prog ops Q rest (a.put op.dst (.slice (some ⟨w0.heap.size, 0, none⟩) n c)) w') : wpList Try.prog ops Q (op :: rest) a w := by
  subst hw
  refine wpList_plain hgd fun K hK => ?_
  have hrun := Lib.run_convert_bytes_const (P := Try.prog) w0 29 5 C n c Try.underlying29 Try.underlying5
  unfold Oper.wp execOp
  simp only [ho, hx, Sem.run_bind, hrun, Result.andThen_ok]
  refine hK _ _ (h _ ⟨World.grownBy_alloc w0 _ none, World.size_alloc .., fun j v hv => ?_⟩)
  have hb : (w0.alloc (.cells C 5 (C.size, C.size + 1))).heap[w0.heap.size]? = some (.cells C 5 (C.size, C.size + 1)) := (MapKept.heap_alloc w0 _).1
  simp only [World.cell?, hb, Nat.zero_add]
  simpa using hv

theorem made_long : madeCells #[.int .u8 0] 129 = (u8s (List.replicate 129 0)).toArray := by kernel_rfl
theorem wpList_make_long {ops : Array Oper} {rest : List Oper} {op : Oper} {a : Act} {w : World} {Q : Exit → Act → World → Prop} (hgd : op.guard = none) (ho : op.op = .makeSlice 29 (.const (.int .i64 129)) (.const (.int .i64 129)))
    (h : ∀ w', Hid (w.grownBy w' none ∧ w'.heap.size = w.heap.size + 1 ∧ w'.rangeAt w.heap.size 0 (u8s (List.replicate 129 0))) → wpList Try.prog ops Q rest (a.put op.dst (.slice (some ⟨w.heap.size, 0, none⟩) 129 129)) w') : wpList Try.prog ops Q (op :: rest) a w := by
  refine wpList_plain hgd fun K hK => ?_
  have hrun := run_make_row' (P := Try.prog) 29 5 (.int .u8 0) 1 Try.underlying29 info_u8 rfl .i64 .i64 129 (by decide) (by decide) w
  rw [made_long] at hrun
  unfold Oper.wp execOp
  have hrun' : (Instr.makeSlice 29 (.int .i64 129) (.int .i64 129)).run Try.prog w = .ok (.slice (some ⟨w.heap.size, 0, none⟩) 129 129) (w.alloc (.cells (u8s (List.replicate 129 0)).toArray 5)) := hrun
  simp only [ho, Act.eval, Sem.run_bind, hrun', Result.andThen_ok]
  refine hK _ _ (h _ ⟨World.grownBy_alloc w _ none, World.size_alloc .., fun j v hv => ?_⟩)
  rw [Nat.zero_add, cell_new]
  simpa using hv
/-- Rows of bytes that have been laid. -/
def Rows (w0 w : World) (L : List (Nat × List Value)) : Prop := w0.grownBy w none ∧ ∀ p ∈ L, p.1 < w.heap.size ∧ w.rangeAt p.1 0 p.2
theorem Rows.start (w : World) : Rows w w [] := ⟨⟨rfl, rfl, rfl, Nat.le_refl _, fun _ _ _ => rfl⟩, fun _ h => by cases h⟩
theorem Rows.grown {w0 w w' : World} {L : List (Nat × List Value)} (h : Rows w0 w L) (hg : w.grownBy w' none) : Rows w0 w' L :=
  ⟨h.1.andThen hg (fun _ hj => .inr hj), fun p hp => ⟨Nat.lt_of_lt_of_le (h.2 p hp).1 hg.size, fun j v hv => hg.cell ((h.2 p hp).2 j v hv) (by simp)⟩⟩
theorem Rows.add {w0 w w' : World} {L : List (Nat × List Value)} {cs : List Value} (h : Rows w0 w L) (hn : w.grownBy w' none ∧ w'.heap.size = w.heap.size + 1 ∧ w'.rangeAt w.heap.size 0 cs) : Rows w0 w' ((w.heap.size, cs) :: L) := by
  obtain ⟨hg, hs, hr⟩ := hn
  have := h.grown hg
  refine ⟨this.1, fun p hp => ?_⟩
  rcases List.mem_cons.1 hp with rfl | hp
  · exact ⟨by rw [hs]; exact Nat.lt_succ_self _, hr⟩
  · exact this.2 p hp
theorem lay {wl W : World} {C : Array Value} {t : TypeId} (h : wl.alloc (.cells C t) = W) : W.heap[wl.heap.size]? = some (.cells C t) ∧ wl.grownBy W none ∧ W.heap.size = wl.heap.size + 1 := by
  subst h
  exact ⟨(MapKept.heap_alloc wl _).1, World.grownBy_alloc wl _ none, World.size_alloc ..⟩
/-- Calls, one behind the other. -/
def CallsList (w : World) (S : Nat → Prop) (g : Nat) : Nat → List CallV → Prop
  | _, [] => True
  | o, c :: r => CallAt w S g o c ∧ CallsList w S g (o + 3) r
theorem CallsList.get {w : World} {S : Nat → Prop} {g : Nat} : ∀ {l : List CallV} {o : Nat}, CallsList w S g o l → ∀ j c, l[j]? = some c → CallAt w S g (o + j * 3) c
  | [], _, _, j, c, h => by simp at h
  | c' :: r, o, h, 0, c, hj => by
    simp at hj
    subst hj
    simpa using h.1
  | c' :: r, o, h, j + 1, c, hj => by
    have := h.2.get j c (by simpa using hj)
    rwa [show o + 3 + j * 3 = o + (j + 1) * 3 by omega] at this
theorem row_of {w0 w : World} {L : List (Nat × List Value)} (h : Rows w0 w L) {S : Nat → Prop} (hS : ∀ b, b < w.heap.size → ¬ S b) {g : Nat} {cs : List Value} (hm : (g, cs) ∈ L) {l : List UInt8} (hl : cs = u8s l) : RowB w S (some ⟨g, 0, none⟩) l := by
  subst hl
  exact .inr ⟨g, 0, rfl, hS g (h.2 _ hm).1, (h.2 _ hm).2⟩
theorem row_of1 {w0 w : World} {L : List (Nat × List Value)} (h : Rows w0 w L) {S : Nat → Prop} (hS : ∀ b, b < w.heap.size → ¬ S b) {g : Nat} {cs : List Value} (hm : (g, cs) ∈ L) {l : List UInt8} (hl : cs = u8s (0 :: l)) : RowB w S (some ⟨g, 1, none⟩) l := by
  subst hl
  refine .inr ⟨g, 1, rfl, hS g (h.2 _ hm).1, fun j v hv => ?_⟩
  have := (h.2 _ hm).2 (j + 1) v (by simpa [u8s] using hv)
  rwa [show 0 + (j + 1) = 1 + j by omega] at this
def knownCalls : List CallV := [⟨0, 0, [97, 98]⟩, ⟨1, 1, List.replicate 129 0⟩, ⟨2, 1, List.replicate 128 0⟩, ⟨0, -1, []⟩, ⟨0, 3, []⟩, ⟨9, 1, [120]⟩, ⟨3, 2, [99]⟩, ⟨5, 1, []⟩, ⟨0, 0, [100]⟩, ⟨0, 0, [101]⟩, ⟨0, 0, [102]⟩, ⟨4, 0, []⟩, ⟨27, 0, []⟩, ⟨7, 0, []⟩, ⟨0, 0, []⟩, ⟨8, 0, []⟩, ⟨9, -4, [121]⟩, ⟨0, 1, [103]⟩, ⟨9, 99, []⟩, ⟨5, -1, []⟩, ⟨6, 0, []⟩, ⟨9, 5, [122]⟩]

set_option maxRecDepth 100000 in
set_option maxHeartbeats 8000000 in
theorem known_walk (w : World) : Calls Try.prog 5 #[] w fun e w' => e = .returned (.bool true) ∧ Below w.heap.size w w' := by
  have FIN : Hid (∀ w' : World, Off (fun _ => False) w w' → Below w.heap.size w w') := fun w' h => h.below (Nat.le_refl _) (fun k hk h => h)
  go_enter Try.func5, Try.ntmps5
  go_wp2_with fail
  refine (nil_fail 1 w).mono ?_
  rintro e w0 ⟨rfl, hg0⟩
  have HG0 := Lib.hid hg0
  clear hg0
  go_wp2_with fail
  refine (nil_crash w0).mono ?_
  rintro e w' ⟨rfl, rfl⟩
  go_wp2_with fail
  refine (nil_on w0).mono ?_
  rintro e w' ⟨rfl, rfl⟩
  go_wp2_with fail
  refine (nil_settle w0).mono ?_
  rintro e w' ⟨rfl, rfl⟩
  go_wp2_with fail
  refine (nil_read 0 w0).mono ?_
  rintro e w' ⟨rfl, rfl⟩
  go_wp2_with fail
  refine (nil_off w0).mono ?_
  rintro e w' ⟨rfl, rfl⟩
  go_wp2_with fail
  refine (nil_write 0 _ w0).mono ?_
  rintro e w' ⟨rfl, rfl⟩
  go_wp2_with fail
  refine (nil_sectors w0).mono ?_
  rintro e w' ⟨rfl, rfl⟩
  go_wp2_with fail
  refine (nil_writes w0).mono ?_
  rintro e w' ⟨rfl, rfl⟩
  go_wp2_with fail
  refine (nil_cut 1 w0).mono ?_
  rintro e w' ⟨rfl, rfl⟩
  go_wp2_with fail
  refine (new_at 20000 w0).mono ?_
  rintro e w1 ⟨d1, rfl, hd1, ho1⟩
  have HO1 := Lib.hid ho1
  have hs1 := sectors_at _ d1 _ w1 hd1
  have HS1 := Lib.hid hs1
  clear ho1 hs1 hd1
  go_wp2_with fail
  refine HS1.out.mono ?_
  rintro e w' ⟨rfl, rfl⟩
  have e1 : (((freshDisk (max 0 (min 16384 20000) : Int).toNat).n : Nat) : Int) = 16384 := by decide
  rw [e1]
  clear e1 HS1
  go_wp2_with fail
  refine (new_at (-1) w1).mono ?_
  rintro e w2 ⟨d2, rfl, hd2, ho2⟩
  have HO2 := Lib.hid ho2
  have hs2 := sectors_at _ d2 _ w2 hd2
  have HS2 := Lib.hid hs2
  clear ho2 hs2 hd2
  go_wp2_with fail
  refine HS2.out.mono ?_
  rintro e w' ⟨rfl, rfl⟩
  have e1 : (((freshDisk (max 0 (min 16384 (-1)) : Int).toNat).n : Nat) : Int) = 0 := by decide
  rw [e1]
  clear e1 HS2
  have G := Lib.hid (Rows.start w2)
  go_wp2_with (first
    | (at_make; refine wpList_make_long rfl rfl ?_; intro wn Hn; (have G := Lib.hid (G.out.add Hn.out)); clear Hn; go_frame)
    | (with_reducible show Go.wpList _ _ _ ((⟨_, .convert _ _ _, _, _, _, _⟩ : Oper) :: _) _ _; refine wpList_bytes_const rfl _ rfl _ _ _ _ rfl rfl ?_; intro wn Hn; (have G := Lib.hid (G.out.add Hn.out)); clear Hn; go_frame)
    | fail)
  generalize hW : World.alloc wn _ = W
  obtain ⟨hb, hgW, hsW⟩ := lay hW
  have hG := G.out.grown hgW
  clear hW
  have hcalls : CallsAt W (fun b => W.heap.size ≤ b) (some ⟨wn.heap.size, 0, none⟩) knownCalls := by
    refine ⟨by decide +kernel, .inr ⟨wn.heap.size, 0, rfl, by omega, ?_⟩⟩
    have hl : CallsList W (fun b => W.heap.size ≤ b) wn.heap.size 0 knownCalls := by
      have hS : ∀ b, b < W.heap.size → ¬ (W.heap.size ≤ b) := fun b h h' => by omega
      unfold knownCalls
      refine ⟨?_, ?_, ?_, ?_, ?_, ?_, ?_, ?_, ?_, ?_, ?_, ?_, ?_, ?_, ?_, ?_, ?_, ?_, ?_, ?_, ?_, ?_, trivial⟩
      all_goals refine ⟨(cell_blk hb _).trans rfl, (cell_blk hb _).trans rfl, _, _, (cell_blk hb _).trans rfl, ?_, ?_, ?_⟩
      all_goals first
        | exact .inl rfl
        | decide
        | exact row_of hG hS (List.Mem.head _) rfl
        | exact row_of hG hS (List.Mem.tail _ (List.Mem.head _)) rfl
        | exact row_of hG hS (List.Mem.tail _ (List.Mem.tail _ (List.Mem.head _))) rfl
        | exact row_of hG hS (List.Mem.tail _ (List.Mem.tail _ (List.Mem.tail _ (List.Mem.head _)))) rfl
        | exact row_of hG hS (List.Mem.tail _ (List.Mem.tail _ (List.Mem.tail _ (List.Mem.tail _ (List.Mem.head _))))) rfl
        | exact row_of hG hS (List.Mem.tail _ (List.Mem.tail _ (List.Mem.tail _ (List.Mem.tail _ (List.Mem.tail _ (List.Mem.head _)))))) rfl
        | exact row_of hG hS (List.Mem.tail _ (List.Mem.tail _ (List.Mem.tail _ (List.Mem.tail _ (List.Mem.tail _ (List.Mem.tail _ (List.Mem.head _))))))) rfl
        | exact row_of hG hS (List.Mem.tail _ (List.Mem.tail _ (List.Mem.tail _ (List.Mem.tail _ (List.Mem.tail _ (List.Mem.tail _ (List.Mem.tail _ (List.Mem.head _)))))))) rfl
        | exact row_of hG hS (List.Mem.tail _ (List.Mem.tail _ (List.Mem.tail _ (List.Mem.tail _ (List.Mem.tail _ (List.Mem.tail _ (List.Mem.tail _ (List.Mem.tail _ (List.Mem.head _))))))))) rfl
        | exact row_of hG hS (List.Mem.tail _ (List.Mem.tail _ (List.Mem.tail _ (List.Mem.tail _ (List.Mem.tail _ (List.Mem.tail _ (List.Mem.tail _ (List.Mem.tail _ (List.Mem.tail _ (List.Mem.head _)))))))))) rfl
        | exact row_of1 hG hS (List.Mem.tail _ (List.Mem.tail _ (List.Mem.tail _ (List.Mem.tail _ (List.Mem.tail _ (List.Mem.tail _ (List.Mem.tail _ (List.Mem.tail _ (List.Mem.tail _ (List.Mem.head _)))))))))) rfl
    exact fun j c hj => hl.get j c hj
  have HALL : Hid (Off (fun _ => False) w W) := (((Off.of_grown HG0.out (by simp)).trans HO1.out).trans HO2.out).trans (Off.of_grown hG.1 (by simp))
  have HCALLS := Lib.hid hcalls
  generalize wn.heap.size = gl at HCALLS ⊢
  clear hb hgW hsW hG hcalls
  have next : ∀ (n : Nat) (V V' : World), Below V.heap.size V V' → CallsAt V (fun b => V.heap.size ≤ b) (some ⟨gl, 0, none⟩) knownCalls → CallsAt V' (fun b => V'.heap.size ≤ b) (some ⟨gl, 0, none⟩) knownCalls := by
    intro _ V V' hb hc
    have ho : Off (fun b => V.heap.size ≤ b) V V' := ⟨hb.os, hb.tape, hb.output, hb.size, fun k hk _ => hb.block k hk⟩
    exact (hc.off ho).mono (fun b _ h => Nat.le_trans hb.size h)
  have NEXT := Lib.hid next
  clear next
  refine (plays_walk 3 _ knownCalls 22 W HCALLS.out (by decide) (by decide)).mono ?_
  rintro e W1 ⟨rfl, hb1⟩
  have HC1 := Lib.hid (NEXT.out 0 _ _ hb1 HCALLS.out)
  have HB1 := Lib.hid hb1
  clear hb1
  go_wp2_with fail
  refine (plays_walk 0 _ knownCalls 22 W1 HC1.out (by decide) (by decide)).mono ?_
  rintro e W2 ⟨rfl, hb2⟩
  have HC2 := Lib.hid (NEXT.out 0 _ _ hb2 HC1.out)
  have HB2 := Lib.hid hb2
  clear hb2
  go_wp2_with fail
  refine (cuts_walk _ _ knownCalls knownCalls 22 22 W2 HC2.out HC2.out (by decide) (by decide) (by decide) (by decide)).mono ?_
  rintro e W3 ⟨rfl, hb3⟩
  have HB3 := Lib.hid hb3
  clear hb3
  go_wp2_with fail
  refine (works_at W3).mono ?_
  rintro e W4 ⟨rfl, ho4⟩
  have HO4 := Lib.hid ho4
  clear ho4
  go_wp2_with fail
  go_ret
  have tob : ∀ {V V' : World}, Below V.heap.size V V' → Off (fun _ => False) V V' := fun hb => ⟨hb.os, hb.tape, hb.output, hb.size, fun k hk _ => hb.block k hk⟩
  exact ⟨rfl, FIN.out _ ((((HALL.out.trans (tob HB1.out)).trans (tob HB2.out)).trans (tob HB3.out)).trans HO4.out)⟩
end Go.Proofs.Ytplnkpbfnpajjaa.Sec
