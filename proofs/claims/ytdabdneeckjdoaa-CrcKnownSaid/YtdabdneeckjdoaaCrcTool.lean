/- Bytes to text and back; what an argument reads as. -/
import Derived.Laws.BytesArg
import Derived.Laws.IdiomStrings
import Derived.Deep.AppendLies
import Derived.Maps.AppendAt
import Derived.Test.YtdabdneeckjdoaaCrcSame
namespace Go.Proofs.Ytdabdneeckjdoaa.Crc
open Go.RowKit

/-- Bytes, as a text. -/
def bs (l : List UInt8) : ByteArray := ⟨l.toArray⟩
theorem bs_size (l : List UInt8) : (bs l).size = l.length := by simp [bs, ByteArray.size]
section
variable {P : Program}
theorem run_str_row8 {w : World} {B : Nat} {A : Option Addr} {l : List UInt8} {n : Nat} (src dst e : TypeId) (hs : P.underlying src = some (.slice e)) (he : P.underlying e = some (.int .u8)) (hd : P.underlying dst = some .string)
    (h : Row8 w B A l) (hn : l.length = n) (cap : Nat) : (convert src dst (.slice A n cap)).run P w = .ok (.string (bs l)) w := by
  subst hn
  have key : ∀ a : Addr, (loadCells a l.length).run P w = .ok ((l.map fun c => Value.int .u8 (c.toNat : Int))).toArray w → (convert src dst (.slice (some a) l.length cap)).run P w = .ok (.string (bs l)) w := by
    intro a ha
    rw [run_convert_bytes_string w src dst e _ _ cap hs he hd, run_bytesToString w a l.length cap (l.map fun c => (c.toNat : Int)) (by rw [ha, List.map_map]; rfl), foldl_push_bytes]
    have e1 : ((l.map fun c => (c.toNat : Int)).map fun n => UInt8.ofNat n.toNat) = l := by
      rw [List.map_map]
      conv => rhs; rw [← List.map_id l]
      apply List.map_congr_left
      intro c _
      simp
    rw [e1]
    show Result.ok (Value.string ⟨#[] ++ l.toArray⟩) w = _
    rw [Array.empty_append]
    rfl
  rcases h with rfl | ⟨b, off, rfl, _, hc⟩
  · cases A with
    | none =>
      rw [run_convert_bytes_nil w src e hs he _ cap dst hd]
      rfl
    | some a =>
      exact key a (run_loadCells_list (P := P) w a [] (fun j v hj => by simp at hj))
  · refine key _ ?_
    have := run_loadCells_list (P := P) w ⟨b, off, none⟩ (l.map fun c => Value.int .u8 (c.toNat : Int)) (fun j v hj => by
      have hjl : j < l.length := by
        rcases Nat.lt_or_ge j l.length with h | h
        · exact h
        · rw [List.getElem?_eq_none (by simpa using h)] at hj; cases hj
      rw [Addr.add_mid, hc j hjl]
      simp [List.getElem?_eq_getElem hjl] at hj
      subst hj
      unfold at8
      rw [getD_at l j hjl])
    simpa using this
/-- What '[]byte(text)' leaves: a row of its own. -/
theorem run_row8_str (w : World) (l : List UInt8) (src dst e : TypeId) (hs : P.underlying src = some .string) (hd : P.underlying dst = some (.slice e)) (he : P.underlying e = some (.int .u8)) :
    ∃ W2 cap, (convert src dst (.string (bs l))).run P w = .ok (.slice (some ⟨w.heap.size, 0, none⟩) l.length cap) W2 ∧ l.length ≤ cap ∧ Row8 W2 W2.heap.size (some ⟨w.heap.size, 0, none⟩) l ∧ Below w.heap.size w W2 ∧ W2.heap.size = w.heap.size + 1 := by
  have h := run_bytes_of_string (P := P) w src dst e (bs l) hs hd he
  rw [bs_size] at h
  refine ⟨_, _, h, grownCap_ge _ _ _ _, ?_, ⟨rfl, rfl, rfl, by simp, fun k hk => Below.heap_alloc _ _ _ hk⟩, by simp⟩
  refine .inr ⟨w.heap.size, 0, rfl, by simp, fun i hi => ?_⟩
  refine (cell_of_row (w.drew.alloc _) w.heap.size _ _ _ _ (heap_alloc_new w.drew _)).trans ?_
  unfold bytesRow bs at8
  rw [getD_at l _ (by omega)]
  simp [Array.getElem?_append, hi]
end

/-- What the walk is told of a slice of bytes that came in. -/
def IsRow8 (w : World) (a : Option Addr) (len cap : Nat) (zs : List Int) : Prop :=
  (a = none ∧ len = 0 ∧ cap = 0 ∧ zs = []) ∨
  ∃ x, a = some x ∧ len ≤ cap ∧ cap ≤ maxLen ∧ zs.length = cap ∧ (∀ i, i < zs.length → w.cell? (x.add i) = some (.int .u8 (zs.getD i 0))) ∧ ∀ n ∈ zs, (Lit.int .u8 n).wf = true
theorem bytes_of_row {w : World} {a : Option Addr} {len cap : Nat} {zs : List Int} (h : IsRow8 w a len cap zs) :
    ∃ l : List UInt8, l.length = len ∧ len ≤ cap ∧ cap ≤ 9223372036854775807 ∧ Row8 w w.heap.size a l := by
  rcases h with ⟨rfl, rfl, rfl, rfl⟩ | ⟨x, rfl, hl, hm, hz, hcell, hwz⟩
  · exact ⟨[], rfl, Nat.le_refl _, by omega, .inl rfl⟩
  · refine ⟨(zs.take len).map fun n => UInt8.ofNat n.toNat, by simp; omega, hl, hm, ?_⟩
    by_cases h0 : len = 0
    · left; subst h0; simp
    · right
      obtain ⟨b, off, spot⟩ := x
      have hc := hcell 0 (by omega)
      have hspot : spot = none := by simpa [Addr.add] using World.cell?_spot hc
      subst hspot
      refine ⟨b, off, rfl, World.block_lt_of_cell? w _ (show w.cell? ⟨b, off, none⟩ = _ by simpa [Addr.add] using hc), fun i hi => ?_⟩
      have hi' : i < len := by simp at hi; omega
      have hcc := hcell i (by omega)
      rw [Addr.add_mid] at hcc
      rw [hcc]
      have hw := hwz (zs.getD i 0) (by rw [show zs.getD i 0 = zs[i]'(by omega) by simp [show i < zs.length by omega]]; exact List.getElem_mem _)
      have hb : 0 ≤ zs.getD i 0 ∧ zs.getD i 0 ≤ 255 := by
        simp [Lit.wf, IntKind.min, IntKind.max, IntKind.bits, IntKind.signed] at hw
        simpa using hw
      unfold at8
      rw [getD_at _ _ hi]
      simp [show i < zs.length by omega] at hb ⊢
      omega
theorem nil_of_row {w : World} {a : Option Addr} {len cap : Nat} {zs : List Int} (h : IsRow8 w a len cap zs) : a = none → cap = 0 := by
  rcases h with ⟨_, _, rfl, _⟩ | ⟨x, rfl, _⟩
  · exact fun _ => rfl
  · intro e; cases e
theorem u_of_wf {a : Int} (h : (Lit.int .u32 a).wf = true) : ∃ s : BitVec 32, a = u s := by
  have hb : 0 ≤ a ∧ a ≤ 4294967295 := by
    simp [Lit.wf, IntKind.min, IntKind.max, IntKind.bits, IntKind.signed] at h
    simpa using h
  obtain ⟨n, rfl⟩ := Int.eq_ofNat_of_zero_le hb.1
  exact ⟨_, u_of n (by omega)⟩

end Go.Proofs.Ytdabdneeckjdoaa.Crc
