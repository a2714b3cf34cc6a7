/- The letters on the way: Way. -/
import Derived.Maps.AppendAt
import Derived.Test.YtonfpifikblnjaaNetNew
namespace Go.Proofs.Ytonfpifikblnjaa.Net
open Go.RowKit

theorem info_pk : (Try.prog.info? 37).map (fun i => (i.zero, i.size, i.bytes)) = some (some (.agg #[.int .i64 0, .int .i64 0, .slice none 0 0]), 3, 40) := by kernel_rfl
/-- A letter's cells. -/
def pcells (c : Pk × Option Addr × Nat) : List Value := [.int .i64 c.1.src, .int .i64 c.1.to, .slice c.2.1 c.1.b.length c.2.2]
/-- A row of letters in new memory, each with bytes of its own. -/
structure Letters (w : World) (B : Nat) (v : Value) (cs : List (Pk × Option Addr × Nat)) : Prop where
  row : w.ownsRow B 37 3 v cs.length (cs.flatMap pcells)
  bytes : ∀ c ∈ cs, Bytes w (fun b => B ≤ b) c.2.1 c.1.b ∧ Own w B c.2.1 c.2.2
  apart : cs.Pairwise (fun c d => ∀ g, c.2.1 = some ⟨g, 0, none⟩ → d.2.1 ≠ some ⟨g, 0, none⟩)
theorem Letters.nil (w : World) (B : Nat) : Letters w B (.slice none 0 0) [] := ⟨⟨rfl, .inl ⟨rfl, rfl⟩⟩, fun _ h => by simp at h, List.Pairwise.nil⟩
theorem Own.grown {w w' : World} {B : Nat} {A : Option Addr} {cap : Nat} (h : Own w B A cap) (hg : w.grownBy w' none) : Own w' B A cap := by
  rcases h with h | ⟨g, e, hB, hT, hf⟩
  · exact .inl h
  · exact .inr ⟨g, e, hB, hT.grown hg, fun o => (frozen_grown hT.lt hg).trans (hf o)⟩
theorem row_grown {w w' : World} {B n sz : Nat} {e : TypeId} {v : Value} {xs : List Value} (h : w.ownsRow B e sz v n xs) (hg : w.grownBy w' none) : w'.ownsRow B e sz v n xs := by
  refine ⟨h.1, ?_⟩
  rcases h.2 with h2 | ⟨g, cap, cur, rfl, h3, hb, h4⟩
  · exact .inl h2
  · exact .inr ⟨g, cap, cur, rfl, h3, (hg.block g (Array.getElem?_eq_some_iff.1 hb).1 (by simp)).trans hb, h4⟩
theorem Letters.grown {w w' : World} {B : Nat} {v : Value} {cs : List (Pk × Option Addr × Nat)} (h : Letters w B v cs) (hg : w.grownBy w' none) : Letters w' B v cs :=
  ⟨row_grown h.row hg, fun c hc => ⟨(h.bytes c hc).1.grown hg, (h.bytes c hc).2.grown hg⟩, h.apart⟩
def lenOf : Value → Nat
  | .slice _ n _ => n
  | _ => 0
theorem Letters.len {w : World} {B : Nat} {v : Value} {cs : List (Pk × Option Addr × Nat)} (h : Letters w B v cs) : lenOf v = cs.length := by
  rcases h.row.2 with ⟨rfl, e⟩ | ⟨g, cap, cur, rfl, _⟩
  · exact e.symm
  · rfl
/-- One letter more. -/
theorem Letters.snoc {w w' : World} {B : Nat} {v v' : Value} {cs : List (Pk × Option Addr × Nat)} {c : Pk × Option Addr × Nat} {n0 : Nat} (h : Letters w B v cs) (hrow : w'.ownsRow B 37 3 v' (cs.length + 1) ((cs ++ [c]).flatMap pcells)) (hg : w.grownBy w' v.ownBlock)
    (hby : Bytes w (fun b => n0 ≤ b) c.2.1 c.1.b) (how : Own w n0 c.2.1 c.2.2) (hB : B ≤ n0) (hlt : ∀ d ∈ cs, ∀ g, d.2.1 = some ⟨g, 0, none⟩ → g < n0) : Letters w' B v' (cs ++ [c]) := by
  have hty : ∀ g, v.ownBlock = some g → Typed w g 37 := by
    intro g hg
    rcases h.row.2 with ⟨rfl, _⟩ | ⟨g', cap, cur, rfl, _, hb, _⟩
    · simp [Value.ownBlock] at hg
    · simp only [Value.ownBlock, Option.some.injEq] at hg
      subst hg
      exact ⟨_, _, hb⟩
  have hblk : ∀ g, Typed w g 5 → w'.heap[g]? = w.heap[g]? := fun g hT => hg.block g hT.lt (fun e => (hT.ne (hty g e.symm) (by decide)) rfl)
  have hb : ∀ (S : Nat → Prop) A (l : List UInt8), Bytes w S A l → Bytes w' S A l := by
    rintro S A l (e | ⟨g, off, e, hS, hT, hr⟩)
    · exact .inl e
    · exact .inr ⟨g, off, e, hS, let ⟨C, fr, hC⟩ := hT; ⟨C, fr, (hblk g hT).trans hC⟩, fun j u hj => (World.cell?_of_block (a := ⟨g, off + j, none⟩) (hblk g hT)).trans (hr j u hj)⟩
  have ho : ∀ n A cap, Own w n A cap → Own w' n A cap := by
    rintro n A cap (e | ⟨g, e, hB, hT, hf⟩)
    · exact .inl e
    · exact .inr ⟨g, e, hB, let ⟨C, fr, hC⟩ := hT; ⟨C, fr, (hblk g hT).trans hC⟩, fun o => (World.frozen?_of_block (a := ⟨g, o, none⟩) (hblk g hT)).trans (hf o)⟩
  refine ⟨by rw [List.length_append]; exact hrow, fun d hd => ?_, ?_⟩
  · rcases List.mem_append.1 hd with hd | hd
    · exact ⟨hb _ _ _ (h.bytes d hd).1, ho _ _ _ (h.bytes d hd).2⟩
    · simp at hd
      subst hd
      refine ⟨(hb _ _ _ hby).mono (fun b _ hs => Nat.le_trans hB hs), ?_⟩
      rcases ho _ _ _ how with e | ⟨g, e, h1, h2⟩
      · exact .inl e
      · exact .inr ⟨g, e, Nat.le_trans hB h1, h2⟩
  · refine List.pairwise_append.2 ⟨h.apart, List.pairwise_singleton _ _, fun a ha b hb' g e => ?_⟩
    simp at hb'
    subst hb'
    have h1 := hlt a ha g e
    rcases how with ⟨e2, _⟩ | ⟨g2, e2, h2, _⟩
    · rw [e2]; simp
    · rw [e2]
      intro e3
      cases e3
      omega
theorem Letters.lt {w : World} {B : Nat} {v : Value} {cs : List (Pk × Option Addr × Nat)} (h : Letters w B v cs) : ∀ d ∈ cs, ∀ g, d.2.1 = some ⟨g, 0, none⟩ → g < w.heap.size := by
  intro d hd g e
  rcases (h.bytes d hd).2 with ⟨e2, _⟩ | ⟨g2, e2, _, hT, _⟩
  · rw [e2] at e; cases e
  · rw [e2] at e
    cases e
    exact hT.lt

theorem wpList_append_pk {ops : Array Oper} {rest : List Oper} {o : Oper} {a : Act} {w : World} {Q : Exit → Act → World → Prop} (hgd : o.guard = none) (s x : Operand) (ho : o.op = .call { callee := .builtin .append, args := #[s, x], argTypes := #[40, 40] })
    (B : Nat) (v : Value) (cs : List (Pk × Option Addr × Nat)) (c : Pk × Option Addr × Nat) (hs : a.eval s = v) (hown : w.ownsRow B 37 3 v cs.length (cs.flatMap pcells)) (g : Nat) (hx : a.eval x = .slice (some ⟨g, 0, none⟩) 1 1)
    (hc : w.heap[g]? = some (.cells (pcells c).toArray 37)) (hb : cs.length < 100000) (hB : B ≤ w.heap.size)
    (h : ∀ v' w', w'.ownsRow B 37 3 v' (cs.length + 1) ((cs ++ [c]).flatMap pcells) → w.grownBy w' v.ownBlock → wpList Try.prog ops Q rest (a.put o.dst v') w') : wpList Try.prog ops Q (o :: rest) a w := by
  obtain ⟨i0, hi0, he⟩ := Option.map_eq_some_iff.1 info_pk
  simp only [Prod.mk.injEq] at he
  obtain ⟨v', w', hrun, hown', hgr, _, hob⟩ := run_append_own_at (P := Try.prog) w B 40 o.type 37 i0 _ 3 40 Try.underlying40 hi0 he.1 he.2.1 he.2.2 rfl (by decide) v cs.length _ hown ⟨g, 0, none⟩ 1 1 (pcells c) rfl
    (by
      intro j z hj
      rw [add_flat, Nat.zero_add]
      simp only [World.cell?, hc]
      simpa using hj) (by intro z hz; simp only [pcells, List.mem_cons, List.not_mem_nil, or_false] at hz; rcases hz with rfl | rfl | rfl <;> rfl) (by unfold maxLen; omega) (by omega) hB
  refine wpList_plain hgd fun K hK => ?_
  unfold Oper.wp
  simp [execOp, ho, resolve, invoke, builtin, hs, hx, hrun, Result.andThen]
  refine hK _ _ (h v' w' ?_ hgr)
  rw [List.flatMap_append]
  simpa using hown'

set_option maxHeartbeats 4000000 in
theorem way_at (S : Nat → Prop) (nb : Nat) (D : Nt) (w : World) (h : NetAt w S nb D) :
    Calls Try.prog 16 #[.pointer (some ⟨nb, 0, none⟩)] w fun e w' => ∃ v cs, e = .returned v ∧ cs.map (·.1) = D.row 0 ∧ Letters w' w.heap.size v cs ∧ w.grownBy w' none := by
  obtain ⟨bb, L, hn⟩ := h
  obtain ⟨hr, hrow⟩ := hn.rows 0 (Nat.zero_le _)
  have c0 : w.cell? ⟨nb, 0, none⟩ = some (.pointer (nxt (L 0))) := hr.first
  have hlen : (L 0).length ≤ 256 := by
    have := hn.ok.way
    rw [hrow, List.length_map] at this
    exact this
  have HC := Lib.hid hr.chain
  have HSM : Hid (∀ p ∈ L 0, p.2.b.length ≤ 1000) := fun p hp => hn.ok.small 0 p.2 (by rw [hrow]; exact List.mem_map.2 ⟨p, hp, rfl⟩)
  rw [hrow]
  clear hn hr hrow
  generalize L 0 = l at c0 hlen HC HSM ⊢
  go_enter Try.func16, Try.ntmps16
  go_wp2_with fail
  go_loopw [3, 4] (fun v x wr => ∃ (k : Nat) (cs : List (Pk × Option Addr × Nat)), k ≤ l.length ∧ cs.map (·.1) = (l.take k).map (·.2) ∧ x = .pointer (nxt (l.drop k)) ∧ Letters wr w.heap.size v cs ∧ w.grownBy wr none) (fun v _ _ => l.length - lenOf v)
  case atStart => exact ⟨0, [], Nat.zero_le _, by simp, rfl, Letters.nil _ _, World.grownBy.refl _ _⟩
  case round =>
    obtain ⟨k, cs, hk, hcs, rfl, hL, hg⟩ := hrel
    have hcl : cs.length = k := by
      have := congrArg List.length hcs
      simpa [hk] using this
    have HL := Lib.hid hL
    have HG := Lib.hid hg
    have HCS := Lib.hid hcs
    have HCL := Lib.hid hcl
    clear hL hg hcs hcl
    by_cases hlt : k < l.length
    · obtain ⟨p, hp⟩ : ∃ p, l[k]? = some p := ⟨_, List.getElem?_eq_getElem hlt⟩
      have hnx := drop_nxt (l := l) (i := k) (g := p.1) (k := p.2) hp
      obtain ⟨hlS, hlT, e0, e1, ⟨A, cap, e2, hby⟩, e3, _⟩ := link_get HC.out (show l[k]? = some (p.1, p.2) from hp)
      have d0 := HG.out.cell e0 (by simp)
      have d1 := HG.out.cell e1 (by simp)
      have d2 := HG.out.cell e2 (by simp)
      have HD3 := Lib.hid (HG.out.cell e3 (by simp))
      have HCP := Lib.hid (copied_at p.2 A cap wr ((RowR.of_bytes cap hby).grown HG.out) (by have := HSM.out p (List.mem_of_getElem? hp); omega))
      rw [hnx]
      have HP := Lib.hid hp
      have HLT := Lib.hid hlt
      clear hlt hp hnx hlS hlT e0 e1 e2 e3 hby
      go_wp2_with fail
      refine HCP.out.mono ?_
      rintro e w2 ⟨A', cap', rfl, hby2, how2, hg2⟩
      have HBY2 := Lib.hid hby2
      have HOW2 := Lib.hid how2
      have HG2 := Lib.hid hg2
      have d3 := hg2.cell HD3.out (by simp)
      clear hby2 how2 hg2 d0 d1 d2
      have hgB := World.grownBy_alloc w2 (.cells #[.int .i64 p.2.src, .int .i64 p.2.to, .slice A' p.2.b.length cap'] 37) none
      have hbB := (MapKept.heap_alloc w2 (.cells #[.int .i64 p.2.src, .int .i64 p.2.to, .slice A' p.2.b.length cap'] 37)).1
      have HROW : Hid ((w2.alloc (.cells #[.int .i64 p.2.src, .int .i64 p.2.to, .slice A' p.2.b.length cap'] 37)).ownsRow w.heap.size 37 3 u3 cs.length (cs.flatMap pcells)) := row_grown (row_grown HL.out.row HG2.out) hgB
      have HGB := Lib.hid hgB
      have HBB := Lib.hid hbB
      have HFEW : Hid (cs.length < 100000) := by show _ < _; have := HCL.out; omega
      have HBS : Hid (w.heap.size ≤ (w2.alloc (.cells #[.int .i64 p.2.src, .int .i64 p.2.to, .slice A' p.2.b.length cap'] 37)).heap.size) := Nat.le_trans HG.out.size (Nat.le_trans HG2.out.size hgB.size)
      have HD33 := Lib.hid (hgB.cell d3 (by simp))
      have HNE : Hid (u3.ownBlock ≠ some p.1) := by
        intro e
        rcases HROW.out.2 with ⟨e2, _⟩ | ⟨g', cap, cur, e2, _, hb, _⟩
        · rw [e2] at e; simp [Value.ownBlock] at e
        · rw [e2] at e
          simp only [Value.ownBlock, Option.some.injEq] at e
          subst e
          obtain ⟨hT, _⟩ := HC.out.link p (List.mem_of_getElem? HP.out)
          exact ((((hT.grown HG.out).grown HG2.out).grown hgB).ne ⟨_, _, hb⟩ (by decide)) rfl
      clear hgB hbB d3
      go_wp2_with (first
        | (at_builtin; refine wpList_append_pk rfl (.tmp 18) (.tmp 24) rfl w.heap.size u3 cs (p.2, A', cap') rfl HROW.out w2.heap.size rfl HBB.out HFEW.out HBS.out ?_; intro v' w3 hr3 hg3; have d9 := hg3.cell HD33.out (fun e => HNE.out (by first | exact e | exact e.symm)); go_frame)
        | fail)
      go_roundw
      case rel =>
        have hlt := HLT.out
        refine ⟨k + 1, cs ++ [(p.2, A', cap')], hlt, ?_, rfl, ?_, ?_⟩
        · rw [List.map_append, HCS.out, List.take_add_one, HP.out]
          simp
        · exact ((HL.out.grown HG2.out).grown HGB.out).snoc (n0 := wr.heap.size) hr3 hg3 (HBY2.out.grown HGB.out) (HOW2.out.grown HGB.out) HG.out.size HL.out.lt
        · refine ⟨hg3.os.trans (HGB.out.os.trans (HG2.out.os.trans HG.out.os)), hg3.tape.trans (HGB.out.tape.trans (HG2.out.tape.trans HG.out.tape)), hg3.output.trans (HGB.out.output.trans (HG2.out.output.trans HG.out.output)), Nat.le_trans HG.out.size (Nat.le_trans HG2.out.size (Nat.le_trans HGB.out.size hg3.size)), fun b hb _ => ?_⟩
          have s1 := HG.out.size
          have s2 := HG2.out.size
          have s3 := HGB.out.size
          have hne : some b ≠ u3.ownBlock := by
            intro e
            have := (HL.out.row.lt b e.symm).1
            omega
          exact (hg3.block b (by omega) (by first | exact hne | exact hne.symm)).trans ((HGB.out.block b (by omega) (by simp)).trans ((HG2.out.block b (by omega) (by simp)).trans (HG.out.block b hb (by simp))))
      case measure =>
        have hlt := HLT.out
        have h1 := HCL.out
        have h2 := HL.out.len
        have h3 : lenOf v' = cs.length + 1 := by
          rcases hr3.2 with ⟨_, e⟩ | ⟨g, cap, cur, rfl, _⟩
          · omega
          · rfl
        show l.length - lenOf v' < l.length - lenOf u3
        omega
    · have hkl : l.drop k = [] := List.drop_eq_nil_of_le (by omega)
      have hcs := HCS.out
      rw [List.take_of_length_le (by omega)] at hcs
      have HF := Lib.hid hcs
      rw [hkl]
      clear hlt hkl hcs HCS
      have hnx : nxt ([] : List (Nat × Pk)) = none := rfl
      rw [hnx]
      go_wp2_with fail
      go_ret
      exact ⟨u3, cs, rfl, HF.out, HL.out, HG.out⟩
end Go.Proofs.Ytonfpifikblnjaa.Net
