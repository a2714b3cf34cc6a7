/- Rows of calls in memory; the law's helper large. Disks beside one another. -/
import Derived.Test.YtplnkpbfnpajjaaSecCut
namespace Go.Proofs.Ytplnkpbfnpajjaa.Sec
open Go.RowKit Go.Maps

theorem DiskAt.mono {w : World} {S T : Nat → Prop} {d : Nat} {D : Dsk} (h : DiskAt w S d D) (hs : ∀ k, k < w.heap.size → S k → T k) : DiskAt w T d D := by
  obtain ⟨h1, h2, mb, mn, sv, pa, hd, hB, hmb, hmn, hne, hsb, hsn, hrow, hos, ha⟩ := h
  refine ⟨h1, h2, mb, mn, sv, pa, hd, hs d (Array.getElem?_eq_some_iff.1 hd).1 hB, hs mb hsb.lt hmb, hs mn hsn.lt hmn, hne, hsb, hsn, hrow, fun g hg => hs g (hrow.lt g hg).2 (hos g hg), ?_⟩
  cases hk : D.armed with
  | none => rw [hk] at ha; exact ha
  | some k =>
    rw [hk] at ha
    obtain ⟨b, e, hB, hb, hk⟩ := ha
    exact ⟨b, e, hs b (Array.getElem?_eq_some_iff.1 hb).1 hB, hb, hk⟩
/-- A disk stands while other blocks turn. -/
theorem DiskAt.off {w w' : World} {S T : Nat → Prop} {d : Nat} {D : Dsk} (h : DiskAt w S d D) (ho : Off T w w') (hST : ∀ k, k < w.heap.size → S k → ¬ T k) : DiskAt w' S d D := by
  obtain ⟨h1, h2, mb, mn, sv, pa, hd, hB, hmb, hmn, hne, hsb, hsn, hrow, hos, ha⟩ := h
  have kp : ∀ k, k < w.heap.size → S k → w'.heap[k]? = w.heap[k]? := fun k hk hs => ho.block k hk (hST k hk hs)
  have hmap : ∀ m f, SecMap w m D.n f → S m → SecMap w' m D.n f := fun m f hm hs => by
    obtain ⟨n, E, hn, ⟨es, clock, hb, F⟩, hk⟩ := id hm
    exact ⟨n, E, hn, ⟨es, clock, (kp m hm.lt hs).trans hb, F⟩, hk⟩
  refine ⟨h1, h2, mb, mn, sv, pa, (kp d (Array.getElem?_eq_some_iff.1 hd).1 hB).trans hd, hB, hmb, hmn, hne, hmap _ _ hsb hmb, hmap _ _ hsn hmn, ?_, hos, ?_⟩
  · refine ⟨hrow.1, ?_⟩
    rcases hrow.2 with h2 | ⟨g, cap, cur, e, h3, hb, h4⟩
    · exact .inl h2
    · exact .inr ⟨g, cap, cur, e, h3, (kp g (Array.getElem?_eq_some_iff.1 hb).1 (hos g (by rw [e]; rfl))).trans hb, h4⟩
  · cases hk : D.armed with
    | none => rw [hk] at ha; exact ha
    | some k =>
      rw [hk] at ha
      obtain ⟨b, e, hB, hb, hk⟩ := ha
      exact ⟨b, e, hB, (kp b (Array.getElem?_eq_some_iff.1 hb).1 hB).trans hb, hk⟩

/-- A call, as data. -/
structure CallV where
  k : UInt8
  i : Int
  b : List UInt8
/-- A call lies from place o of block g on; what it leads to, and it, in no block of S. -/
def CallAt (w : World) (S : Nat → Prop) (g o : Nat) (c : CallV) : Prop :=
  w.cell? ⟨g, o, none⟩ = some (.int .u8 (c.k.toNat : Int)) ∧ w.cell? ⟨g, o + 1, none⟩ = some (.int .i64 c.i) ∧ ∃ A cap, w.cell? ⟨g, o + 2, none⟩ = some (.slice A c.b.length cap) ∧ RowB w S A c.b ∧ c.b.length ≤ cap ∧ cap ≤ maxLen
def CallsAt (w : World) (S : Nat → Prop) (A : Option Addr) (l : List CallV) : Prop :=
  (∀ c ∈ l, (Lit.int .i64 c.i).wf = true ∧ c.b.length ≤ maxLen) ∧ (l = [] ∨ ∃ g off, A = some ⟨g, off, none⟩ ∧ ¬ S g ∧ ∀ j c, l[j]? = some c → CallAt w S g (off + j * 3) c)
theorem cell_off {w w' : World} {S : Nat → Prop} (ho : Off S w w') {g o : Nat} {v : Value} (hg : ¬ S g) (h : w.cell? ⟨g, o, none⟩ = some v) : w'.cell? ⟨g, o, none⟩ = some v :=
  (World.cell?_of_block (a := ⟨g, o, none⟩) (ho.block g (World.block_lt_of_cell? w _ h) hg)).trans h
theorem CallsAt.off {w w' : World} {S : Nat → Prop} {A : Option Addr} {l : List CallV} (h : CallsAt w S A l) (ho : Off S w w') : CallsAt w' S A l := by
  refine ⟨h.1, ?_⟩
  rcases h.2 with e | ⟨g, off, e, hg, hc⟩
  · exact .inl e
  · refine .inr ⟨g, off, e, hg, fun j c hj => ?_⟩
    obtain ⟨c1, c2, B, cap, c3, hr, h1⟩ := hc j c hj
    exact ⟨cell_off ho hg c1, cell_off ho hg c2, B, cap, cell_off ho hg c3, hr.off ho, h1⟩
theorem RowB.mono {w : World} {S T : Nat → Prop} {A : Option Addr} {l : List UInt8} (h : RowB w S A l) (hs : ∀ k, k < w.heap.size → T k → S k) : RowB w T A l := by
  rcases h with e | ⟨b, off, e, hS, hr⟩
  · exact .inl e
  · by_cases h0 : l = []
    · exact .inl h0
    · refine .inr ⟨b, off, e, fun x => hS (hs b ?_ x), hr⟩
      cases l with
      | nil => exact absurd rfl h0
      | cons c r => exact World.block_lt_of_cell? w _ (hr 0 _ rfl)
theorem CallsAt.mono {w : World} {S T : Nat → Prop} {A : Option Addr} {l : List CallV} (h : CallsAt w S A l) (hs : ∀ k, k < w.heap.size → T k → S k) : CallsAt w T A l := by
  refine ⟨h.1, ?_⟩
  rcases h.2 with e | ⟨g, off, e, hg, hc⟩
  · exact .inl e
  · by_cases h0 : l = []
    · exact .inl h0
    · refine .inr ⟨g, off, e, fun x => hg (hs g ?_ x), fun j c hj => ?_⟩
      · cases l with
        | nil => exact absurd rfl h0
        | cons c r => exact World.block_lt_of_cell? w _ (hc 0 c rfl).1
      · obtain ⟨c1, c2, B, cap, c3, hr, h1⟩ := hc j c hj
        exact ⟨c1, c2, B, cap, c3, hr.mono hs, h1⟩
theorem CallsAt.at_ {w : World} {S : Nat → Prop} {A : Option Addr} {l : List CallV} {j : Nat} (h : CallsAt w S A l) (hj : j < l.length) : ∃ g off c, A = some ⟨g, off, none⟩ ∧ l[j]? = some c ∧ CallAt w S g (off + j * 3) c := by
  rcases h.2 with rfl | ⟨g, off, e, hg, hc⟩
  · simp at hj
  · exact ⟨g, off, l[j], e, List.getElem?_eq_getElem hj, hc j _ (List.getElem?_eq_getElem hj)⟩

/-- How many bytes. -/
def totalB (l : List CallV) : Nat := (l.map fun c => c.b.length).sum
theorem totalB_succ (l : List CallV) (k : Nat) (c : CallV) (h : l[k]? = some c) : totalB (l.take (k + 1)) = totalB (l.take k) + c.b.length := by
  obtain ⟨hk, e⟩ := List.getElem?_eq_some_iff.1 h
  rw [List.take_succ_eq_append_getElem hk, e]
  simp [totalB]
theorem totalB_le (l : List CallV) (k : Nat) : totalB (l.take k) ≤ totalB l := by
  have h : totalB (l.take k ++ l.drop k) = totalB (l.take k) + totalB (l.drop k) := by unfold totalB; rw [List.map_append, List.sum_append]
  rw [List.take_append_drop] at h
  omega
def big (l : List CallV) : Bool := decide (60 < l.length ∨ 5000 < totalB l)

set_option maxRecDepth 100000 in
set_option maxHeartbeats 4000000 in
theorem large_at (S : Nat → Prop) (A : Option Addr) (l : List CallV) (cap : Nat) (w : World) (h : CallsAt w S A l) (hlc : l.length ≤ cap) (hcap : cap ≤ maxLen) :
    Calls Try.prog 6 #[.slice A l.length cap] w fun e w' => e = .returned (.bool (big l)) ∧ w = w' := by
  obtain ⟨r, hr⟩ : ∃ r, r = big l := ⟨_, rfl⟩
  rw [← hr]
  unfold big at hr
  have HR := Lib.hid hr
  clear hr
  unfold maxLen at hcap
  by_cases h60 : 60 < l.length
  · have hd : decide ((60 : Int) < (l.length : Int)) = true := by simp; omega
    have HR2 : Hid (r = true) := HR.out.trans (decide_eq_true (Or.inl h60))
    clear h60
    go_enter Try.func6, Try.ntmps6
    go_wp2
    go_ret
    exact ⟨by rw [HR2.out]; rfl, rfl⟩
  · have hd : decide ((60 : Int) < (l.length : Int)) = false := by simp; omega
    have HH := Lib.hid h
    clear h
    go_enter Try.func6, Try.ntmps6
    go_wp2
    go_loopw [3, 4] (fun n i wr => ∃ k : Nat, k ≤ l.length ∧ i = .int .i64 k ∧ n = .int .i64 (totalB (l.take k) : Int) ∧ totalB (l.take k) ≤ 5000 ∧ wr = w) (fun _ i _ => l.length - (intOf i).toNat)
    case atStart => exact ⟨0, Nat.zero_le _, rfl, rfl, by simp [totalB], rfl⟩
    case round =>
      obtain ⟨k, hk, rfl, rfl, hn, rfl⟩ := hrel
      by_cases hlt : k < l.length
      · have hkd : decide ((k : Int) < (l.length : Int)) = true := by simp; omega
        obtain ⟨g, off, c, rfl, hc, hat⟩ := HH.out.at_ hlt
        obtain ⟨_, _, Ab, capb, c3, _, hb1, hb2⟩ := hat
        have hsucc := totalB_succ l k c hc
        have k0 : (0 : Int) ≤ (k : Int) := by omega
        have k1 : (k : Int) < (l.length : Int) := by omega
        unfold maxLen at hb2
        have hw1 : wrap64 (5000 - (totalB (l.take k) : Int)) = 5000 - (totalB (l.take k) : Int) := by unfold wrap64; omega
        have HB := Lib.hid (And.intro hn (And.intro hb1 hb2))
        by_cases hov : 5000 < totalB (l.take (k + 1))
        · have hd2 : decide (5000 - (totalB (l.take k) : Int) < (c.b.length : Int)) = true := by simp; omega
          have hbig : decide (60 < l.length ∨ 5000 < totalB l) = true := decide_eq_true (Or.inr (by have := totalB_le l (k + 1); omega))
          have HR2 : Hid (r = true) := HR.out.trans hbig
          clear hbig hsucc hov hn hb1 hb2
          go_wp2
          go_ret
          exact ⟨by rw [HR2.out]; rfl, rfl⟩
        · have hd2 : decide (5000 - (totalB (l.take k) : Int) < (c.b.length : Int)) = false := by simp; omega
          have hw2 : wrap64 ((totalB (l.take k) : Int) + (c.b.length : Int)) = (totalB (l.take (k + 1)) : Int) := by unfold wrap64; omega
          have HOV := Lib.hid hov
          clear hov
          go_wp2
          go_roundw
          case rel => exact ⟨k + 1, by omega, by go_num, by first | exact congrArg _ hw2 | simp [hw2], by have := HOV.out; omega, trivial⟩
          case measure => simp [intOf]; omega
      · have hkd : decide ((k : Int) < (l.length : Int)) = false := by simp; omega
        obtain rfl : k = l.length := by omega
        have HR2 : Hid (r = false) := HR.out.trans (decide_eq_false (by rw [List.take_length] at hn; omega))
        clear hlt hk
        go_wp2
        go_ret
        exact ⟨by rw [HR2.out]; rfl, rfl⟩
end Go.Proofs.Ytplnkpbfnpajjaa.Sec
