/- Maps of sectors: words for memory. No program's function in sight, its types alone. -/
import Derived.WalkKit
import Derived.Below
import Derived.Maps.OwnSet
import Derived.Maps.Ext
import Derived.Lib.Hide
import Derived.Test.YtplnkpbfnpajjaaProg
namespace Go.Proofs.Ytplnkpbfnpajjaa.Sec
open Go.RowKit Go.Maps

/-- Bytes as cells. -/
def u8s (l : List UInt8) : List Value := l.map fun c => .int .u8 (c.toNat : Int)
theorem u8s_length (l : List UInt8) : (u8s l).length = l.length := by simp [u8s]
theorem u8s_inj : ∀ {a b : List UInt8}, u8s a = u8s b → a = b
  | [], [], _ => rfl
  | [], _ :: _, h => by simp [u8s] at h
  | _ :: _, [], h => by simp [u8s] at h
  | x :: a, y :: b, h => by
    simp only [u8s, List.map_cons, List.cons.injEq, Value.int.injEq, true_and] at h
    have hx : x = y := UInt8.toNat_inj.1 (by omega)
    rw [hx, u8s_inj h.2]
/-- A sector's value. (A plain name: the walk does not look into it.) -/
def secV (l : List UInt8) : Value := .agg (u8s l).toArray
theorem secV_inj {a b : List UInt8} (h : secV a = secV b) : a = b := by
  unfold secV at h
  injection h with h
  exact u8s_inj (by simpa using h)
def noughts : List UInt8 := List.replicate 128 0
theorem noughts_length : noughts.length = 128 := by simp [noughts]

open Classical in
/-- How a sector in a map reads. -/
noncomputable def secR (v : Value) : Option (DataW Unit × List MemPlace) :=
  if h : ∃ l : List UInt8, l.length = 128 ∧ v = secV l then some (.lit (.string h.choose), []) else none
theorem secR_mk {l : List UInt8} (hl : l.length = 128) : secR (secV l) = some (.lit (.string l), []) := by
  have h : ∃ l' : List UInt8, l'.length = 128 ∧ secV l = secV l' := ⟨l, hl, rfl⟩
  unfold secR
  rw [dif_pos h, ← secV_inj h.choose_spec.2]
theorem secR_inv {v : Value} {z : DataW Unit × List MemPlace} (h : secR v = some z) : ∃ l : List UInt8, l.length = 128 ∧ v = secV l ∧ z = (.lit (.string l), []) := by
  unfold secR at h
  split at h
  · rename_i hx
    cases h
    exact ⟨_, hx.choose_spec.1, hx.choose_spec.2, rfl⟩
  · cases h

abbrev intKeyed : Keyed Try.prog 3 := int_keyed Try.underlying3
def key (i : Nat) : Lit := .int .i64 (i : Int)
theorem key_inj {i j : Nat} (h : key i = key j) : i = j := by
  unfold key at h
  injection h with _ h
  omega
theorem keyOf_nat {i : Nat} (hi : i ≤ 9223372036854775807) : keyOf Try.prog 3 (.int .i64 (i : Int)) = some (key i) :=
  keyOf_int_mk Try.underlying3 (by simp [Lit.wf, IntKind.min, IntKind.max, IntKind.bits, IntKind.signed]; omega)

theorem len_le : ∀ (N : Nat) (l : List Nat), l.Nodup → (∀ x ∈ l, x < N) → l.length ≤ N
  | 0, l, _, h => by
    cases l with
    | nil => simp
    | cons a l => exact absurd (h a (by simp)) (by omega)
  | N + 1, l, hd, h => by
    by_cases hm : N ∈ l
    · have h1 := len_le N (l.erase N) (hd.erase N) (fun x hx => by
        have := (hd.mem_erase_iff).1 hx
        have := h x this.2
        omega)
      rw [List.length_erase_of_mem hm] at h1
      omega
    · have := len_le N l hd (fun x hx => by
        have h1 := h x hx
        have : x ≠ N := fun e => hm (e ▸ hx)
        omega)
      omega

theorem size_le {w : World} {b n N : Nat} {D : DataW Unit} (h : w.ownsMap Try.prog 3 secR b n D) (hk : ∀ k, has D k = true → ∃ i, i < N ∧ k = key i) : Maps.size D ≤ N := by
  obtain ⟨es, rfl, hs, hks⟩ := h.canon intKeyed
  have hidx : ∀ p ∈ es, ∃ i, i < N ∧ p.1 = key i := fun p hp => hk p.1 (by
    rw [has_eq, List.any_eq_true]
    exact ⟨p, hp, WideAt.sameKey_self (hks p hp)⟩)
  let idx : Lit → Nat := fun l => match l with | .int _ z => z.toNat | _ => 0
  have hk0 : ∀ i, idx (key i) = i := fun i => by simp [idx, key]
  have hnd : (es.map fun p => idx p.1).Nodup := by
    have ap := apart_of_rising hs
    rw [List.nodup_iff_pairwise_ne, List.pairwise_map]
    refine List.Pairwise.imp_of_mem ?_ ap
    intro p q hp hq hne e
    obtain ⟨i, _, ei⟩ := hidx p hp
    obtain ⟨j, _, ej⟩ := hidx q hq
    rw [ei, ej, hk0, hk0] at e
    exact hne (by rw [ei, ej, e])
  have := len_le N _ hnd (fun x hx => by
    obtain ⟨p, hp, rfl⟩ := List.mem_map.1 hx
    obtain ⟨i, hi, ei⟩ := hidx p hp
    rw [ei, hk0]
    exact hi)
  simpa [size_eq] using this

/-- Block b is a map of sectors of a disk of N: sector i is f i. -/
def SecMap (w : World) (b N : Nat) (f : Nat → List UInt8) : Prop :=
  ∃ (n : Nat) (D : DataW Unit), n ≤ N ∧ w.ownsMap Try.prog 3 secR b n D ∧ (∀ k, has D k = true → ∃ i, i < N ∧ k = key i) ∧ ∀ i, i < N → D.atKey (key i) (.lit (.string noughts)) = .lit (.string (f i))
theorem tight {w : World} {b n N : Nat} {D : DataW Unit} (h : w.ownsMap Try.prog 3 secR b n D) (hs : Maps.size D ≤ N) : w.ownsMap Try.prog 3 secR b N D := by
  obtain ⟨es, clock, hb, F, _, rfl⟩ := h
  exact ⟨es, clock, hb, F, by simpa [Maps.size, length_sorted] using hs, rfl⟩
theorem SecMap.lt {w : World} {b N : Nat} {f : Nat → List UInt8} (h : SecMap w b N f) : b < w.heap.size := by
  obtain ⟨n, D, _, h, _⟩ := h
  exact h.lt
theorem SecMap.kept {w w' : World} {b N : Nat} {f : Nat → List UInt8} {row : Option Nat} (h : SecMap w b N f) (hg : w.grownBy w' row) (hne : some b ≠ row) : SecMap w' b N f := by
  obtain ⟨n, D, hn, h, hk, hf⟩ := h
  exact ⟨n, D, hn, h.kept hg hne, hk, hf⟩
theorem SecMap.made (w : World) (N : Nat) : SecMap (w.alloc (.map #[] 0)) w.heap.size N (fun _ => noughts) :=
  ⟨0, .map [], Nat.zero_le _, World.ownsMap_made w _ _ _, fun k h => by simp [has_eq] at h, fun i _ => by simp [DataW.atKey]⟩
/-- f, but l at i. -/
def upd (f : Nat → List UInt8) (i : Nat) (l : List UInt8) : Nat → List UInt8 := fun k => if k = i then l else f k
theorem SecMap.put {w' : World} {b N i : Nat} {f : Nat → List UInt8} {l : List UInt8} {D : DataW Unit} {n : Nat} (hi : i < N) (hk : ∀ k, has D k = true → ∃ i, i < N ∧ k = key i) (hf : ∀ i, i < N → D.atKey (key i) (.lit (.string noughts)) = .lit (.string (f i))) (hm : IsMap D) (hn : n ≤ N)
    (h : w'.ownsMap Try.prog 3 secR b (n + 1) (D.put (key i) (.lit (.string l)))) : SecMap w' b N (upd f i l) := by
  have hk' : ∀ k, has (D.put (key i) (.lit (.string l))) k = true → ∃ i, i < N ∧ k = key i := fun k hh => by
    by_cases e : k = key i
    · exact ⟨i, hi, e⟩
    · rw [has_put_other e] at hh
      exact hk k hh
  refine ⟨N, _, Nat.le_refl _, tight h (size_le h hk'), hk', fun j hj => ?_⟩
  unfold upd
  by_cases e : j = i
  · subst e
    rw [if_pos rfl, atKey_put_same hm (show WideAt.IsKeyLit (key j) from trivial)]
  · rw [if_neg e, atKey_put_other (fun x => e (key_inj x)), hf j hj]
theorem SecMap.del {w' : World} {b N i : Nat} {f : Nat → List UInt8} {D : DataW Unit} {n : Nat} (hn : n ≤ N) (hk : ∀ k, has D k = true → ∃ i, i < N ∧ k = key i) (hf : ∀ i, i < N → D.atKey (key i) (.lit (.string noughts)) = .lit (.string (f i)))
    (h : w'.ownsMap Try.prog 3 secR b n (D.del (key i))) : SecMap w' b N (upd f i noughts) := by
  refine ⟨n, _, hn, h, fun k hh => ?_, fun j hj => ?_⟩
  · by_cases e : k = key i
    · rw [e, has_del_same] at hh
      cases hh
    · rw [has_del_other e] at hh
      exact hk k hh
  · unfold upd
    by_cases e : j = i
    · subst e
      rw [if_pos rfl, atKey_del_same]
    · rw [if_neg e, atKey_del_other (fun x => e (key_inj x)), hf j hj]
end Go.Proofs.Ytplnkpbfnpajjaa.Sec
