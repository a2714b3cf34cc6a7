/- The law's helper works. -/
import Derived.Lib.SlBytesConst
import Derived.Deep.Cut
import Derived.Test.YtonfpifikblnjaaNetArgs
namespace Go.Proofs.Ytonfpifikblnjaa.Net
open Go.RowKit

theorem flat_get (cs : List (Pk × Option Addr × Nat)) (i : Nat) (c : Pk × Option Addr × Nat) (h : cs[i]? = some c) : (cs.flatMap pcells)[i * 3]? = some (.int .i64 c.1.src) ∧ (cs.flatMap pcells)[i * 3 + 1]? = some (.int .i64 c.1.to) ∧ (cs.flatMap pcells)[i * 3 + 2]? = some (.slice c.2.1 c.1.b.length c.2.2) := by
  induction cs generalizing i with
  | nil => simp at h
  | cons d cs ih =>
    cases i with
    | zero =>
      simp at h
      subst h
      exact ⟨rfl, rfl, rfl⟩
    | succ i =>
      have := ih i (by simpa using h)
      rw [List.flatMap_cons, show (i + 1) * 3 = i * 3 + 3 by omega]
      exact this
theorem Letters.open_ {w : World} {B : Nat} {v : Value} {cs : List (Pk × Option Addr × Nat)} (h : Letters w B v cs) : ∃ A cap, v = .slice A cs.length cap ∧ cs.length ≤ cap ∧ cap ≤ maxLen ∧ ∀ i c, cs[i]? = some c → ∃ g, A = some ⟨g, 0, none⟩ ∧ B ≤ g ∧ Typed w g 37 ∧
    w.cell? ⟨g, i * 3, none⟩ = some (.int .i64 c.1.src) ∧ w.cell? ⟨g, i * 3 + 1, none⟩ = some (.int .i64 c.1.to) ∧ w.cell? ⟨g, i * 3 + 2, none⟩ = some (.slice c.2.1 c.1.b.length c.2.2) := by
  obtain ⟨_, ⟨rfl, e⟩ | ⟨g, cap, cur, rfl, hB, hb, h1, h2, h3, ht⟩⟩ := h.row
  · refine ⟨none, 0, by rw [e], by omega, by unfold maxLen; omega, fun i c hc => ?_⟩
    rw [List.eq_nil_of_length_eq_zero e] at hc
    simp at hc
  · refine ⟨_, cap, rfl, h1, h2, fun i c hc => ⟨g, rfl, hB, ⟨_, _, hb⟩, ?_⟩⟩
    have hk : ∀ j u, (cs.flatMap pcells)[j]? = some u → w.cell? ⟨g, j, none⟩ = some u := by
      intro j u hu
      rw [← ht, List.getElem?_take] at hu
      simp only [World.cell?, hb]
      split at hu
      · simpa using hu
      · cases hu
    obtain ⟨k0, k1, k2⟩ := flat_get cs i c hc
    exact ⟨hk _ _ k0, hk _ _ k1, hk _ _ k2⟩
theorem Letters.off {w w' : World} {B : Nat} {v : Value} {cs : List (Pk × Option Addr × Nat)} {S : Nat → Prop} (h : Letters w B v cs) (ho : Off S w w') (hS : ∀ b, S b → b < B) : Letters w' B v cs := by
  have hk : ∀ b, B ≤ b → b < w.heap.size → w'.heap[b]? = w.heap[b]? := fun b hb hlt => ho.block b hlt (fun hs => by have := hS b hs; omega)
  refine ⟨⟨h.row.1, ?_⟩, fun c hc => ⟨?_, ?_⟩, h.apart⟩
  · rcases h.row.2 with h2 | ⟨g, cap, cur, rfl, h3, hb, h4⟩
    · exact .inl h2
    · exact .inr ⟨g, cap, cur, rfl, h3, (hk g h3 (Array.getElem?_eq_some_iff.1 hb).1).trans hb, h4⟩
  · rcases (h.bytes c hc).1 with e | ⟨g, off, e, hB, hT, hr⟩
    · exact .inl e
    · have hg := hk g hB hT.lt
      exact .inr ⟨g, off, e, hB, let ⟨C, fr, hC⟩ := hT; ⟨C, fr, hg.trans hC⟩, fun j u hj => (World.cell?_of_block (a := ⟨g, off + j, none⟩) hg).trans (hr j u hj)⟩
  · rcases (h.bytes c hc).2 with e | ⟨g, e, hB, hT, hf⟩
    · exact .inl e
    · have hg := hk g hB hT.lt
      exact .inr ⟨g, e, hB, let ⟨C, fr, hC⟩ := hT; ⟨C, fr, hg.trans hC⟩, fun o => (World.frozen?_of_block (a := ⟨g, o, none⟩) hg).trans (hf o)⟩

theorem Turn.more {S S' : Nat → Prop} {a b c : World} (h : Turn S S' a b) (hg : b.grownBy c none) : Turn S S' a c := h.trans ⟨OffU.of_grown hg, fun _ hb => .inl hb, fun x hx => Nat.lt_of_lt_of_le (h.lt x hx) hg.size⟩
theorem Turn.begin_ {S : Nat → Prop} {a b : World} (hl : ∀ x, S x → x < a.heap.size) (hg : a.grownBy b none) : Turn S S a b := ⟨OffU.of_grown hg, fun _ hb => .inl hb, fun x hx => Nat.lt_of_lt_of_le (hl x hx) hg.size⟩
def ka : Pk := ⟨0, 1, [97]⟩
def kb : Pk := ⟨0, 1, [98]⟩
theorem works_data : ∃ D1 D2 D3 D4 D5 D6 D7 : Nt, (fresh 2).send ka = (0, D1) ∧ D1.send kb = (0, D2) ∧ D2.double 0 = (0, D3) ∧ D3.row 0 = [ka, kb, ka] ∧ D3.deliver 1 = (0, D4) ∧ D4.deliver 0 = (0, D5) ∧ D5.receive 1 = (some kb, D6) ∧ D6.receive 1 = (some ka, D7) ∧ D7.row 0 = [ka] :=
  ⟨_, _, _, _, _, _, _, rfl, rfl, rfl, rfl, rfl, rfl, rfl, rfl, rfl⟩

theorem row_one (w : World) (S : Nat → Prop) (c : UInt8) (fr : Nat × Nat) (hS : S w.heap.size) : Bytes (w.alloc (.cells #[.int .u8 (c.toNat : Int)] 5 fr)) S (some ⟨w.heap.size, 0, none⟩) [c] := by
  have hb := (MapKept.heap_alloc w (.cells #[.int .u8 (c.toNat : Int)] 5 fr)).1
  refine .inr ⟨_, 0, rfl, hS, ⟨_, _, hb⟩, fun j u hj => ?_⟩
  simp only [World.cell?, hb, Nat.zero_add]
  simp [u8s] at hj ⊢
  match j, hj with
  | 0, hj => simpa using hj

set_option maxRecDepth 100000 in
set_option maxHeartbeats 8000000 in
theorem works_at (w : World) : Calls Try.prog 10 #[] w fun e w' => e = .returned (.bool true) ∧ w.grownBy w' none := by
  obtain ⟨D1, D2, D3, D4, D5, D6, D7, e1, e2, e3, r3, e4, e5, e6, e7, r7⟩ := works_data
  have E1 := Lib.hid e1
  have E2 := Lib.hid e2
  have E3 := Lib.hid e3
  have E4 := Lib.hid e4
  have E5 := Lib.hid e5
  have E6 := Lib.hid e6
  have E7 := Lib.hid e7
  have R3 := Lib.hid r3
  have R7 := Lib.hid r7
  clear e1 e2 e3 e4 e5 e6 e7 r3 r7
  have kc := fun (w : World) (C : Array Value) (n c : Nat) => Lib.run_convert_bytes_const (P := Try.prog) w 34 5 C n c Try.underlying34 Try.underlying5
  go_enter Try.func10, Try.ntmps10
  go_wp2_with fail
  refine (new_at 2 w).mono ?_
  rintro e w0 ⟨nb, rfl, hn, hg⟩
  have hn : NetAt w0 (fun b => w.heap.size ≤ b ∧ b < w0.heap.size) nb (fresh 2) := hn
  have HG0 := Lib.hid hg
  have hnA := hn.grown (World.grownBy_alloc w0 (.cells #[.int .u8 97] 5 (1, 2)) none)
  have hs1 := send_at _ nb (fresh 2) ka (some ⟨w0.heap.size, 0, none⟩) 1 _ hnA (RowR.of_bytes 1 (row_one w0 (fun _ => True) 97 (1, 2) trivial)) (by decide)
  rw [E1.out] at hs1
  have HS1 := Lib.hid hs1
  clear hn hg hnA hs1
  go_wp2_with fail
  refine HS1.out.mono ?_
  rintro e w1 ⟨rfl, S1, hn, ht⟩
  have hnA := hn.grown (World.grownBy_alloc w1 (.cells #[.int .u8 98] 5 (1, 2)) none)
  have hs2 := send_at _ nb D1 kb (some ⟨w1.heap.size, 0, none⟩) 1 _ hnA (RowR.of_bytes 1 (row_one w1 (fun _ => True) 98 (1, 2) trivial)) (by decide)
  rw [E2.out] at hs2
  have HT1 := Lib.hid ((Turn.begin_ (fun x hx => hx.2) (World.grownBy_alloc w0 (.cells #[.int .u8 97] 5 (1, 2)) none)).trans ht)
  have HS2 := Lib.hid hs2
  clear hn ht hnA hs2 HS1
  go_wp2_with fail
  refine HS2.out.mono ?_
  rintro e w2 ⟨rfl, S2, hn, ht⟩
  have hs3 := double_at _ nb D2 0 _ hn
  rw [E3.out] at hs3
  have HT2 := Lib.hid ((HT1.out.more (World.grownBy_alloc w1 (.cells #[.int .u8 98] 5 (1, 2)) none)).trans ht)
  have HS3 := Lib.hid hs3
  clear hn ht hs3 HS2
  go_wp2_with fail
  refine HS3.out.mono ?_
  rintro e w3 ⟨rfl, S3, hn, ht⟩
  have HT3 := Lib.hid (HT2.out.trans ht)
  have HN3 := Lib.hid hn
  have HS4 := Lib.hid (way_at _ nb D3 _ hn)
  clear hn ht HS3
  go_wp2_with fail
  refine HS4.out.mono ?_
  rintro e w4 ⟨v, cs, rfl, hcs, hL, hg⟩
  rw [R3.out] at hcs
  have hn := HN3.out.grown hg
  have hs5 := deliver_at _ nb D3 1 _ hn
  rw [E4.out] at hs5
  have HL := Lib.hid hL
  have HCS := Lib.hid hcs
  have HG4 := Lib.hid hg
  have HS5 := Lib.hid hs5
  clear hcs hL hg hn hs5 HS4
  go_wp2_with fail
  refine HS5.out.mono ?_
  rintro e w5 ⟨rfl, S5, hn, ht⟩
  have hs6 := deliver_at _ nb D4 0 _ hn
  rw [E5.out] at hs6
  have HT5 := Lib.hid ht
  have HS6 := Lib.hid hs6
  clear hn ht hs6 HS5
  go_wp2_with fail
  refine HS6.out.mono ?_
  rintro e w6 ⟨rfl, S6, hn, ht⟩
  have hs7 := receive_at _ nb D5 1 _ hn
  rw [E6.out] at hs7
  have HT6 := Lib.hid ht
  have HS7 := Lib.hid hs7
  clear hn ht hs7 HS6
  go_wp2_with fail
  refine HS7.out.mono ?_
  rintro e w7 ⟨A7, cap7, rfl, hb7, hn, ht⟩
  have hb7 : Bytes w7 S6 A7 [98] := hb7
  have HT7 := Lib.hid ht
  have HN7 := Lib.hid hn
  have HB7 := Lib.hid hb7
  clear hn ht hb7 HS7
  go_wp2_with fail
  have hg8 := World.grownBy_alloc w7 (.cells #[.int .i64 kb.src, .int .i64 kb.to, .slice A7 kb.b.length cap7] 37) none
  have hb8 := (MapKept.heap_alloc w7 (.cells #[.int .i64 kb.src, .int .i64 kb.to, .slice A7 kb.b.length cap7] 37)).1
  generalize w7.alloc (.cells #[.int .i64 kb.src, .int .i64 kb.to, .slice A7 kb.b.length cap7] 37) = w8 at hg8 hb8 ⊢
  have hn := HN7.out.grown hg8
  have hs9 := receive_at _ nb D6 1 _ hn
  rw [E7.out] at hs9
  have HG8 := Lib.hid hg8
  have HB8 := Lib.hid hb8
  have HS9 := Lib.hid hs9
  clear hg8 hb8 hn hs9
  have HNS8 : Hid (¬ S6 w7.heap.size) := fun hs => Nat.lt_irrefl _ (HN7.out.lt _ hs)
  generalize w7.heap.size = g8 at HB8 HNS8 ⊢
  refine HS9.out.mono ?_
  rintro e w9 ⟨A9, cap9, rfl, hb9, hn, ht⟩
  have hb9 : Bytes w9 S6 A9 [97] := hb9
  have HT9 := Lib.hid ht
  have HN9 := Lib.hid hn
  have HB9 := Lib.hid hb9
  clear hn ht hb9 HS9
  go_upto_region 7 with fail
  -- the world ahead of the last test
  have hgx := World.grownBy_alloc w9 (.cells #[.int .i64 ka.src, .int .i64 ka.to, .slice A9 ka.b.length cap9] 37) none
  have hbx := (MapKept.heap_alloc w9 (.cells #[.int .i64 ka.src, .int .i64 ka.to, .slice A9 ka.b.length cap9] 37)).1
  generalize w9.alloc (.cells #[.int .i64 ka.src, .int .i64 ka.to, .slice A9 ka.b.length cap9] 37) = x at hgx hbx ⊢
  generalize w9.heap.size = g9 at hbx ⊢
  -- from the net's way on, nothing but the net has turned
  have t1 : Turn S3 S6 w4 w7 := (HT5.out.trans HT6.out).trans HT7.out
  have t4 : Turn S3 S6 w4 x := ((t1.more HG8.out).trans HT9.out).more hgx
  have hLx := HL.out.off t4.off.toOff HN3.out.lt
  obtain ⟨c0, c1, c2, rfl, f0, f1, f2⟩ : ∃ c0 c1 c2, cs = [c0, c1, c2] ∧ c0.1 = ka ∧ c1.1 = kb ∧ c2.1 = ka := by
    have hcs := HCS.out
    match cs, hcs with
    | [c0, c1, c2], h =>
      simp only [List.map_cons, List.map_nil, List.cons.injEq, and_true] at h
      exact ⟨c0, c1, c2, rfl, h.1, h.2.1, h.2.2⟩
    | [], h => simp at h
    | [_], h => simp at h
    | [_, _], h => simp at h
    | _ :: _ :: _ :: _ :: _, h => simp at h
  obtain ⟨Av, capv, rfl, hcap1, hcap2, hcell⟩ := hLx.open_
  obtain ⟨gv, rfl, _, _, _, _, hv2⟩ := hcell 2 c2 rfl
  have hby2 := (hLx.bytes c2 (by simp)).1
  rw [f2] at hv2 hby2
  have hr2 := run_str hby2 c2.2.2
  have hv2 : x.cell? ⟨gv, 8, none⟩ = some (.slice c2.2.1 ka.b.length c2.2.2) := hv2
  have h8lt := (Array.getElem?_eq_some_iff.1 HB8.out).1
  have hb8x : x.heap[g8]? = _ := (hgx.block g8 (Nat.lt_of_lt_of_le h8lt HT9.out.off.size) (by simp)).trans ((HT9.out.off.block g8 h8lt HNS8.out).trans HB8.out)
  have p2 : x.cell? ⟨g8, 2, none⟩ = some (.slice A7 kb.b.length cap7) := by simp only [World.cell?, hb8x]; rfl
  have q1 : x.cell? ⟨g9, 1, none⟩ = some (.int .i64 ka.to) := by simp only [World.cell?, hbx]; rfl
  have q2 : x.cell? ⟨g9, 2, none⟩ = some (.slice A9 ka.b.length cap9) := by simp only [World.cell?, hbx]; rfl
  have hr7 := run_str (l := kb.b) (((HB7.out.grown HG8.out).turn HT9.out.off).grown hgx) cap7
  have hr9 := run_str (l := ka.b) (HB9.out.grown hgx) cap9
  rw [show ka.to = 1 from rfl] at q1
  rw [show strV ka.b = Value.string ⟨#[97]⟩ from rfl] at hr2 hr9
  rw [show strV kb.b = Value.string ⟨#[98]⟩ from rfl] at hr7
  have HW := Lib.hid (way_at _ nb D7 x (HN9.out.grown hgx))
  have HT4 := Lib.hid t4
  have hl3 : (3 : Nat) ≤ capv := hcap1
  rw [show [c0, c1, c2].length = 3 from rfl]
  clear hgx hbx t1 t4 hLx hcell hby2 hb8x h8lt hcap1 f0 f1 f2 kc
  go_wp2_with fail
  refine HW.out.mono ?_
  rintro e y ⟨v', cs', rfl, hcs', hL', hg'⟩
  rw [R7.out] at hcs'
  have hlen : cs'.length = 1 := by simpa using congrArg List.length hcs'
  obtain ⟨A', cap', rfl, _, _, _⟩ := hL'.open_
  rw [hlen]
  have HGY := Lib.hid hg'
  clear hcs' hL' hlen hg'
  go_wp2_with fail
  go_ret
  refine ⟨rfl, ?_⟩
  have h1 := HT3.out.off
  have h2 := HT4.out.off
  refine ⟨HGY.out.os.trans (h2.os.trans (HG4.out.os.trans (h1.os.trans HG0.out.os))), HGY.out.tape.trans (h2.tape.trans (HG4.out.tape.trans (h1.tape.trans HG0.out.tape))), HGY.out.output.trans (h2.output.trans (HG4.out.output.trans (h1.output.trans HG0.out.output))), Nat.le_trans HG0.out.size (Nat.le_trans h1.size (Nat.le_trans HG4.out.size (Nat.le_trans h2.size HGY.out.size))), fun b hb _ => ?_⟩
  have s0 := HG0.out.size
  have s1 := h1.size
  have s2 := HG4.out.size
  have s3 := h2.size
  refine (HGY.out.block b (by omega) (by simp)).trans ((h2.block b (by omega) (fun hs => ?_)).trans ((HG4.out.block b (by omega) (by simp)).trans ((h1.block b (by omega) (fun hs => by have := hs.1; omega)).trans (HG0.out.block b hb (by simp)))))
  rcases HT3.out.sub b hs with e | e
  · have := e.1; omega
  · omega
end Go.Proofs.Ytonfpifikblnjaa.Net
