/- Rows of things to be done, in memory; strings; the law's helper few. -/
import Derived.Laws.BytesArg
import Derived.Laws.IdiomStrings
import Derived.Test.YtonfpifikblnjaaNetWay
namespace Go.Proofs.Ytonfpifikblnjaa.Net
open Go.RowKit

/-- Bytes as a Go string. (A plain name: the walk does not look into it.) -/
def bs (l : List UInt8) : ByteArray := ⟨l.toArray⟩
theorem bs_inj {a b : List UInt8} (h : bs a = bs b) : a = b := by
  unfold bs at h
  injection h with h
  simpa using h
theorem bs_size (l : List UInt8) : (bs l).size = l.length := by simp [bs, ByteArray.size]
theorem bs_of (s : ByteArray) : s = bs s.data.toList := by cases s; simp [bs]
abbrev strV (l : List UInt8) : Value := .string (bs l)
theorem run_string (w : World) (g off : Nat) (l : List UInt8) (cap : Nat) (h : w.rangeAt g off (u8s l)) : (convert 34 9 (.slice (some ⟨g, off, none⟩) l.length cap)).run Try.prog w = .ok (strV l) w := by
  have := run_convert_bytes_arg (P := Try.prog) w 34 5 Try.underlying34 Try.underlying5 g off l.length cap (l.map fun c => (c.toNat : Int)) (by simp) (fun i hi => by
    refine h i _ ?_
    simp [u8s, hi]) 9 Try.underlying9
  rw [this]
  congr 2
  unfold strOfNums bs
  congr 2
  rw [List.map_map]
  conv => rhs; rw [← List.map_id l]
  refine List.map_congr_left fun c _ => ?_
  simp
theorem run_str {w : World} {S : Nat → Prop} {A : Option Addr} {l : List UInt8} (h : Bytes w S A l) (cap : Nat) : (convert 34 9 (.slice A l.length cap)).run Try.prog w = .ok (strV l) w := by
  rcases h with rfl | ⟨b, off, rfl, _, _, hr⟩
  · cases A with
    | none => exact run_convert_bytes_nil (P := Try.prog) w 34 5 Try.underlying34 Try.underlying5 0 cap _ Try.underlying9
    | some a =>
      have ha := run_loadCells_list (P := Try.prog) w a [] (fun j v hj => by simp at hj)
      rw [List.length_nil, run_convert_bytes_string w 34 9 5 _ 0 cap Try.underlying34 Try.underlying5 Try.underlying9, run_bytesToString w a 0 cap [] ha]
      rfl
  · exact run_string w b off l cap hr
/-- A string's bytes in new memory. -/
theorem run_bytes_new (w : World) (l : List UInt8) : ∃ W2 cap, (convert 9 34 (strV l)).run Try.prog w = .ok (.slice (some ⟨w.heap.size, 0, none⟩) l.length cap) W2 ∧ W2.rangeAt w.heap.size 0 (u8s l) ∧ Typed W2 w.heap.size 5 ∧ (∀ j, j < l.length → W2.frozen? ⟨w.heap.size, j, none⟩ = false) ∧ w.grownBy W2 none ∧ W2.heap.size = w.heap.size + 1 := by
  have h := run_bytes_of_string (P := Try.prog) w 9 34 5 (bs l) Try.underlying9 Try.underlying34 Try.underlying5
  rw [bs_size] at h
  have hcell : ∀ i, (hi : i < l.length) → (w.drew.alloc (.cells (bytesRow (bs l) (grownCap w l.length 0 5)) 5 ((bytesRow (bs l) (grownCap w l.length 0 5)).size, (bytesRow (bs l) (grownCap w l.length 0 5)).size + 1))).cell? ⟨w.heap.size, i, none⟩ = some (.int .u8 (l[i].toNat : Int)) := by
    intro i hi
    refine (cell_of_row (w.drew.alloc _) w.heap.size _ _ _ _ (heap_alloc_new w.drew _)).trans ?_
    unfold bytesRow bs
    simp [Array.getElem?_append, hi]
  refine ⟨_, _, h, fun j v hj => ?_, ⟨_, _, heap_alloc_new w.drew _⟩, fun j hj => ?_, (drew_grown w none).andThen (World.grownBy_alloc w.drew _ none) (fun _ hj => .inr hj), by rw [World.size_alloc]; rfl⟩
  · have hjl : j < l.length := by have := (List.getElem?_eq_some_iff.1 hj).1; simpa [u8s] using this
    rw [Nat.zero_add, hcell j hjl, ← hj]
    simp [u8s, hjl]
  · have hb : (w.drew.alloc (.cells (bytesRow (bs l) (grownCap w l.length 0 5)) 5 ((bytesRow (bs l) (grownCap w l.length 0 5)).size, (bytesRow (bs l) (grownCap w l.length 0 5)).size + 1))).heap[w.heap.size]? = _ := heap_alloc_new w.drew _
    have hge := grownCap_ge w l.length 0 5
    simp only [World.frozen?, hb]
    simp [bytesRow, bs]
    omega

/-- A thing to be done, as data. -/
structure ActV where
  k : UInt8
  i : Int
  to : Int
  b : List UInt8
instance : Inhabited ActV := ⟨⟨0, 0, 0, []⟩⟩
def ActAt (w : World) (g o : Nat) (c : ActV) : Prop :=
  w.cell? ⟨g, o, none⟩ = some (.int .u8 (c.k.toNat : Int)) ∧ w.cell? ⟨g, o + 1, none⟩ = some (.int .i64 c.i) ∧ w.cell? ⟨g, o + 2, none⟩ = some (.int .i64 c.to) ∧ w.cell? ⟨g, o + 3, none⟩ = some (strV c.b)
def ActsAt (w : World) (S : Nat → Prop) (A : Option Addr) (l : List ActV) : Prop := l = [] ∨ ∃ g off, A = some ⟨g, off, none⟩ ∧ ¬ S g ∧ g < w.heap.size ∧ ∀ j c, l[j]? = some c → ActAt w g (off + j * 4) c
theorem cell_off {w w' : World} {S : Nat → Prop} (ho : Off S w w') {g o : Nat} {v : Value} (hg : ¬ S g) (h : w.cell? ⟨g, o, none⟩ = some v) : w'.cell? ⟨g, o, none⟩ = some v :=
  (World.cell?_of_block (a := ⟨g, o, none⟩) (ho.block g (World.block_lt_of_cell? w _ h) hg)).trans h
theorem ActAt.off {w w' : World} {S : Nat → Prop} {g o : Nat} {c : ActV} (h : ActAt w g o c) (ho : Off S w w') (hg : ¬ S g) : ActAt w' g o c := ⟨cell_off ho hg h.1, cell_off ho hg h.2.1, cell_off ho hg h.2.2.1, cell_off ho hg h.2.2.2⟩
theorem ActsAt.off {w w' : World} {S : Nat → Prop} {A : Option Addr} {l : List ActV} (h : ActsAt w S A l) (ho : Off S w w') : ActsAt w' S A l := by
  rcases h with e | ⟨g, off, e, hg, hlt, hc⟩
  · exact .inl e
  · exact .inr ⟨g, off, e, hg, Nat.lt_of_lt_of_le hlt ho.size, fun j c hj => (hc j c hj).off ho hg⟩
theorem ActsAt.at_ {w : World} {S : Nat → Prop} {A : Option Addr} {l : List ActV} {j : Nat} (h : ActsAt w S A l) (hj : j < l.length) : ∃ g off c, A = some ⟨g, off, none⟩ ∧ l[j]? = some c ∧ ¬ S g ∧ g < w.heap.size ∧ ActAt w g (off + j * 4) c := by
  rcases h with rfl | ⟨g, off, e, hg, hlt, hc⟩
  · simp at hj
  · exact ⟨g, off, l[j], e, List.getElem?_eq_getElem hj, hg, hlt, hc j _ (List.getElem?_eq_getElem hj)⟩
def fewB (l : List ActV) (top : Nat) : Bool := decide (l.length ≤ top ∧ ∀ c ∈ l, c.b.length ≤ 100)
theorem fewB_true {l : List ActV} {top : Nat} (h : fewB l top = true) : l.length ≤ top ∧ ∀ c ∈ l, c.b.length ≤ 100 := of_decide_eq_true h

set_option maxHeartbeats 4000000 in
theorem few_at (S : Nat → Prop) (A : Option Addr) (l : List ActV) (cap top : Nat) (w : World) (h : ActsAt w S A l) (hlc : l.length ≤ cap) (hcap : cap ≤ maxLen) :
    Calls Try.prog 9 #[.slice A l.length cap, .int .i64 (top : Int)] w fun e w' => e = .returned (.bool (fewB l top)) ∧ w' = w := by
  obtain ⟨r, hr⟩ : ∃ r, r = fewB l top := ⟨_, rfl⟩
  rw [← hr]
  unfold fewB at hr
  have HR := Lib.hid hr
  clear hr
  unfold maxLen at hcap
  have HH := Lib.hid h
  have HLC := Lib.hid (And.intro hlc hcap)
  clear h hlc hcap
  go_enter Try.func9, Try.ntmps9
  go_wp2
  go_loopw [5] (fun i wr => ∃ k : Nat, k ≤ l.length ∧ i = .int .i64 (k : Int) ∧ (∀ c ∈ l.take k, c.b.length ≤ 100) ∧ wr = w) (fun i _ => l.length - (intOf i).toNat)
  case atStart => exact ⟨0, Nat.zero_le _, rfl, by simp, rfl⟩
  case round =>
    obtain ⟨k, hk, rfl, hn, rfl⟩ := hrel
    have HN := Lib.hid hn
    clear hn
    by_cases hlt : k < l.length
    · have hkd : decide ((k : Int) < (l.length : Int)) = true := by simp; omega
      have hkd2 : decide (k < l.length) = true := by simpa using hlt
      by_cases ht : k < top
      · have htd : decide ((k : Int) < (top : Int)) = true := by simp; omega
        obtain ⟨g, off, c, rfl, hc, _, _, hat⟩ := HH.out.at_ hlt
        obtain ⟨_, _, _, c3⟩ := hat
        have hsz := bs_size c.b
        have k0 : (0 : Int) ≤ (k : Int) := by omega
        have k1 : (k : Int) < (l.length : Int) := by omega
        have hw := HLC.out
        by_cases hb : 100 < c.b.length
        · have hd2 : decide ((100 : Int) < (c.b.length : Int)) = true := by simp; omega
          have HR2 : Hid (r = false) := HR.out.trans (decide_eq_false (fun h => by have := h.2 c (List.mem_of_getElem? hc); omega))
          clear hb hw hc
          go_wp2
          go_ret
          rw [HR2.out]
          simp
        · have hd2 : decide ((100 : Int) < (c.b.length : Int)) = false := by simp; omega
          have HB := Lib.hid hb
          have HCC := Lib.hid hc
          have HLT := Lib.hid hlt
          clear hb hc
          go_wp2
          go_roundw
          case rel =>
            refine ⟨k + 1, HLT.out, by go_num, ?_, by first | rfl | trivial⟩
            intro d hd
            rw [List.take_add_one, HCC.out] at hd
            rcases List.mem_append.1 hd with hd | hd
            · exact HN.out d hd
            · simp at hd; subst hd; have := HB.out; omega
          case measure => simp [intOf]; omega
      · have htd : decide (k < top) = false := by simpa using ht
        have hle : decide (l.length ≤ top) = false := by simp; omega
        have HR2 : Hid (r = false) := HR.out.trans (decide_eq_false (fun h => by have := h.1; omega))
        clear ht hlt
        go_wp2
        go_ret
        rw [HR2.out]
        simp
    · have hkd : decide (k < l.length) = false := by simpa using hlt
      have hall := HN.out
      rw [List.take_of_length_le (by omega)] at hall
      have HR2 : Hid (r = decide (l.length ≤ top)) := HR.out.trans (decide_eq_decide.2 ⟨fun h => h.1, fun h => ⟨h, hall⟩⟩)
      clear hlt hall
      go_wp2
      go_ret
      rw [HR2.out]
      exact ⟨rfl, rfl⟩
end Go.Proofs.Ytonfpifikblnjaa.Net
