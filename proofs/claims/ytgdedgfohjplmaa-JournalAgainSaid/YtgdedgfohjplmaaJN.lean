/- The laws' helper bytes. -/
import Derived.Test.YtgdedgfohjplmaaJM
import Derived.Test.YtgdedgfohjplmaaJC
import Derived.BigQuiet
import Derived.Lib.SlBytesConst
import Derived.Deep.OwnRows
namespace Go.Proofs.Ytgdedgfohjplmaa.Jnl
open Go.RowKit Go.Maps Sec

/-- So many times over. -/
def rep (l : List UInt8) (n : Nat) : List UInt8 := (List.replicate n l).flatten
theorem rep_succ (l : List UInt8) (n : Nat) : rep l (n + 1) = rep l n ++ l := by
  unfold rep
  rw [List.replicate_succ', List.flatten_append]
  simp
theorem rep_length (l : List UInt8) (n : Nat) : (rep l n).length = n * l.length := by simp [rep]
def BArg (w : World) (A : Option Addr) (l : List UInt8) (cap : Nat) : Prop := (l = [] ∧ cap = 0) ∨ ∃ g off, A = some ⟨g, off, none⟩ ∧ w.rangeAt g off (u8s l)
theorem BArg.below {w w' : World} {A : Option Addr} {l : List UInt8} {cap : Nat} (h : BArg w A l cap) (hb : Below w.heap.size w w') : BArg w' A l cap := by
  rcases h with h | ⟨g, off, h1, h2⟩
  · exact .inl h
  · exact .inr ⟨g, off, h1, rangeAt_grown h2 (Below.to_grown hb)⟩
set_option maxRecDepth 100000 in
set_option maxHeartbeats 4000000 in
theorem bytes_at (k : UInt8) (z : Int) (l : List UInt8) (A : Option Addr) (cap : Nat) (hl : l.length ≤ 3000) (_ : l.length ≤ cap) (_ : cap ≤ maxLen) (w : World) (hA : BArg w A l cap) :
    Calls Try.prog 31 #[.agg #[.int .u8 (k.toNat : Int), .slice A l.length cap, .int .i64 z]] w fun e w' => ∃ v, e = .returned v ∧ BRow w' w.heap.size v (rep l (k.toNat / 9 + 1)) ∧ Below w.heap.size w w' := by
  obtain ⟨n, hn⟩ : ∃ n, n = l.length := ⟨_, rfl⟩
  obtain ⟨q, hq⟩ : ∃ q, q = k.toNat := ⟨_, rfl⟩
  rw [← hn, ← hq]
  have hq2 : q < 256 := by rw [hq]; exact k.toNat_lt
  have HNL := Lib.hid hn
  have HL := Lib.hid hl
  have HA := Lib.hid hA
  obtain ⟨y, hy⟩ : ∃ y, y = w.alloc (.cells #[.int .u8 (q : Int), .slice A n cap, .int .i64 z] 34) := ⟨_, rfl⟩
  have h1 := (MapKept.heap_alloc w (.cells #[.int .u8 (q : Int), .slice A n cap, .int .i64 z] 34)).1
  have h2 := World.grownBy_alloc w (.cells #[.int .u8 (q : Int), .slice A n cap, .int .i64 z] 34) none
  have h3 : (w.alloc (.cells #[.int .u8 (q : Int), .slice A n cap, .int .i64 z] 34)).heap.size = w.heap.size + 1 := World.size_alloc ..
  rw [← hy] at h1 h2 h3
  have HB := Lib.hid h1
  have HG := Lib.hid h2
  have HS := Lib.hid h3
  have HAY : Hid (BArg y A l cap) := hA.below (grown_below0 h2 (Nat.le_refl _))
  clear hn hq hl hA h1 h2 h3
  go_enter Try.func31, Try.ntmps31
  go_upto_region 2 with fail
  rw [← hy]
  clear hy
  go_wp2_with fail
  go_loopw [3, 4] (fun bv iv wr => ∃ j : Nat, j ≤ q / 9 + 1 ∧ iv = .int .u8 (j : Int) ∧ BRow wr (w.heap.size + 1) bv (rep l j) ∧ Below (w.heap.size + 1) y wr) (fun _ iv _ => q / 9 + 1 - (intOf iv).toNat)
  case atStart => exact ⟨0, Nat.zero_le _, rfl, ⟨rfl, .inl ⟨rfl, rfl⟩⟩, Below.refl _ _⟩
  case round =>
    obtain ⟨j, hj, rfl, hrow, hbel⟩ := hrel
    have HROW := Lib.hid hrow
    have HBEL := Lib.hid hbel
    have HBR : Hid (wr.heap[w.heap.size]? = _) := (hbel.block w.heap.size (by omega)).trans HB.out
    have c0 : wr.cell? ⟨w.heap.size, 0, none⟩ = some (.int .u8 (q : Int)) := cell_blk HBR.out 0
    have c1 : wr.cell? ⟨w.heap.size, 1, none⟩ = some (.slice A n cap) := cell_blk HBR.out 1
    clear hrow hbel
    by_cases hlt : j < q / 9 + 1
    · have hd : decide ((j : Int) ≤ (q : Int) / 9) = true := by simp; omega
      have HLEN : Hid ((rep l j).length + n < 100000000000) := by show _ < _; rw [rep_length, HNL.out]; have := HL.out; have : j * l.length ≤ 30 * 3000 := Nat.mul_le_mul (by omega) (by omega); omega
      have HAR : Hid (BArg wr A l cap) := by
        rcases HAY.out with h | ⟨g, off, h1, h2⟩
        · exact .inl h
        · refine .inr ⟨g, off, h1, rangeAt_grown h2 (Below.to_grown ?_)⟩
          rw [HS.out]
          exact HBEL.out
      have HSZ : Hid (w.heap.size + 1 ≤ wr.heap.size) := by show _ ≤ _; rw [← HS.out]; exact HBEL.out.size
      have hj29 : j ≤ 28 := by omega
      go_wp2_with (first
        | (at_builtin; refine wpList_append_bytes rfl (.tmp 12) (.tmp 14) rfl (w.heap.size + 1) _ _ l A n cap HNL.out.symm rfl HROW.out rfl HAR.out HLEN.out HSZ.out ?_; intro v3 w3 hr3 hb3; go_frame)
        | fail)
      go_roundw
      case rel => exact ⟨j + 1, hlt, by go_num, by rw [rep_succ]; exact hr3, HBEL.out.trans hb3⟩
      case measure => simp [intOf]; omega
    · have hd : decide ((j : Int) ≤ (q : Int) / 9) = false := by simp; omega
      obtain rfl : j = q / 9 + 1 := by omega
      go_wp2_with fail
      go_ret
      refine ⟨u3, rfl, brow_less HROW.out (Nat.le_succ _), ?_⟩
      have h1 := HG.out
      exact ⟨HBEL.out.os.trans h1.os, HBEL.out.tape.trans h1.tape, HBEL.out.output.trans h1.output, Nat.le_trans h1.size HBEL.out.size, fun i hi => (HBEL.out.block i (by omega)).trans (h1.block i hi (by simp))⟩
end Go.Proofs.Ytgdedgfohjplmaa.Jnl

/- The laws' helper put. -/
namespace Go.Proofs.Ytgdedgfohjplmaa.Jnl
open Go.RowKit Go.Maps Sec

theorem brow_arg {w : World} {B : Nat} {v : Value} {l : List UInt8} (h : BRow w B v l) : ∃ A cap, v = .slice A l.length cap ∧ l.length ≤ cap ∧ cap ≤ maxLen ∧ ((A = none ∧ l = [] ∧ cap = 0) ∨ ∃ g off, A = some ⟨g, off, none⟩ ∧ g < w.heap.size ∧ w.rangeAt g off (u8s l)) ∧ ∀ g off, A = some ⟨g, off, none⟩ → B ≤ g := by
  obtain ⟨hlen, ⟨rfl, e⟩ | ⟨g, cap, cur, rfl, hB, hb, h1, h2, _, ht⟩⟩ := h
  · have : l = [] := List.length_eq_zero_iff.1 e
    exact ⟨none, 0, by rw [e], by omega, by unfold maxLen; omega, .inl ⟨rfl, this, rfl⟩, fun g off e => by cases e⟩
  · refine ⟨_, cap, rfl, h1, h2, .inr ⟨g, 0, rfl, (Array.getElem?_eq_some_iff.1 hb).1, fun i v hi => ?_⟩, fun g' off e => by cases e; exact hB⟩
    rw [← ht, List.getElem?_take] at hi
    rw [Nat.zero_add, cell_blk hb]
    split at hi
    · simpa using hi
    · cases hi
/-- What a call of put leads to. -/
def PutTo (w w' : World) (S Sd : Nat → Prop) (d jb : Nat) (R : Dsk × Jn) : Prop := ∃ S' Sd', JAt w' S' jb d R.2 ∧ DiskAt w' Sd' d R.1 ∧ (∀ b, S' b → ¬ Sd' b) ∧ (∀ b, S' b → S b ∨ w.heap.size ≤ b) ∧ (∀ b, Sd' b → (Sd b ∨ w.heap.size ≤ b) ∧ b < w'.heap.size) ∧ Off (fun b => S b ∨ Sd b) w w'
theorem PutTo.start {w0 w w' : World} {S Sd : Nat → Prop} {d jb : Nat} {R : Dsk × Jn} (h : PutTo w w' S Sd d jb R) (hg : w0.grownBy w none) : PutTo w0 w' S Sd d jb R := by
  obtain ⟨S', Sd', h1, h2, h3, h4, h5, h6⟩ := h
  have := hg.size
  exact ⟨S', Sd', h1, h2, h3, fun b hb => (h4 b hb).elim .inl (fun h => .inr (by omega)), fun b hb => ⟨(h5 b hb).1.elim .inl (fun h => .inr (by omega)), (h5 b hb).2⟩, (Off.of_grown hg (by simp)).trans h6⟩
theorem PutTo.same {w : World} {S Sd : Nat → Prop} {d jb m : Nat} {D : Dsk} {J : Jn} (h : DiskAt w Sd d D) (hlt : ∀ b, Sd b → b < w.heap.size) (hj : JAt w S jb d J) (hSS : ∀ b, S b → ¬ Sd b) : PutTo w (w.drewN m) S Sd d jb (D, J) :=
  ⟨S, Sd, hj.off (T := fun _ => False) ⟨rfl, rfl, rfl, Nat.le_refl _, fun _ _ _ => rfl⟩ (fun _ _ h => h), h.grown ⟨rfl, rfl, rfl, Nat.le_refl _, fun _ _ _ => rfl⟩, hSS, fun _ hb => .inl hb, fun b hb => ⟨.inl hb, hlt b hb⟩, ⟨rfl, rfl, rfl, Nat.le_refl _, fun _ _ _ => rfl⟩⟩
/-- Append, whatever the bytes' length. -/
theorem append_any (Sd S : Nat → Prop) (d jb : Nat) (D : Dsk) (J : Jn) (K : Nat) (l : List UInt8) (A : Option Addr) (cap : Nat) (w : World) (h : DiskAt w Sd d D) (hlt : ∀ b, Sd b → b < w.heap.size) (hj : JAt w S jb d J) (hSS : ∀ b, S b → ¬ Sd b) {o : Nat} (hf : Fit D J o K) (hK : K ≤ 1000000) (hwr : D.wr.length + 70000 < 1000000) (hl : l.length ≤ 1048576) (hcap : l.length ≤ cap) (hcm : cap ≤ maxLen)
    (hA : (l = [] ∧ cap = 0) ∨ ∃ g off, A = some ⟨g, off, none⟩ ∧ g < w.heap.size ∧ ¬ Sd g ∧ w.rangeAt g off (u8s l)) :
    Calls Try.prog 18 #[.pointer (some ⟨jb, 0, none⟩), .slice A l.length cap] w fun e w' => e = .returned (.int .i64 (if D.n / 2 - 1 - J.used < parts l.length then 31 else 0)) ∧ PutTo w w' S Sd d jb (putR D J false l) := by
  unfold putR
  rw [if_neg Bool.false_ne_true]
  have h1 := hf.first
  have h2 := hf.op
  by_cases hno : D.n / 2 - 1 - J.used < parts l.length
  · rw [if_pos hno, if_pos hno]
    refine (append_no Sd S d jb D J l A cap w h hj hf.used (by have := hf.n8; omega) hl hcap hcm hno).mono ?_
    rintro e w' ⟨rfl, m, rfl⟩
    exact ⟨rfl, .same h hlt hj hSS⟩
  · rw [if_neg hno, if_neg hno]
    refine (append_yes Sd S d jb D J l A cap w h hlt hj hSS hf.off hf.armed hwr (by have := hf.n8; omega) hf.area hf.used hl hcap hcm (by omega) ⟨by omega, by omega⟩ (by omega) hA).mono ?_
    rintro e w' ⟨rfl, h3⟩
    exact ⟨rfl, h3⟩
/-- Checkpoint, whatever the bytes' length. -/
theorem ck_any (Sd S : Nat → Prop) (d jb : Nat) (D : Dsk) (J : Jn) (K : Nat) (l : List UInt8) (A : Option Addr) (cap : Nat) (w : World) (h : DiskAt w Sd d D) (hlt : ∀ b, Sd b → b < w.heap.size) (hj : JAt w S jb d J) (hSS : ∀ b, S b → ¬ Sd b) {o : Nat} (hf : Fit D J o K) (hK : K ≤ 1000000) (hwr : D.wr.length + 70000 < 1000000) (hl : l.length ≤ 1048576) (hcap : l.length ≤ cap) (hcm : cap ≤ maxLen)
    (hA : (A = none ∧ l = [] ∧ cap = 0) ∨ ∃ g off, A = some ⟨g, off, none⟩ ∧ g < w.heap.size ∧ w.rangeAt g off (u8s l)) (hAS : ∀ g off, A = some ⟨g, off, none⟩ → ¬ Sd g) :
    Calls Try.prog 20 #[.pointer (some ⟨jb, 0, none⟩), .slice A l.length cap] w fun e w' => e = .returned (.int .i64 (if D.n / 2 - 1 < parts l.length then 31 else 0)) ∧ PutTo w w' S Sd d jb (putR D J true l) := by
  unfold putR
  rw [if_pos rfl]
  have h1 := hf.first
  have h2 := hf.op
  have h3 := hf.gen
  by_cases hno : D.n / 2 - 1 < parts l.length
  · rw [if_pos hno, if_pos hno]
    refine (ck_no Sd S d jb D J l A cap w h hj (by have := hf.n8; omega) hl hcap hcm hno).mono ?_
    rintro e w' ⟨rfl, m, rfl⟩
    exact ⟨rfl, .same h hlt hj hSS⟩
  · rw [if_neg hno, if_neg hno]
    refine (ck_yes Sd S d jb D J l A cap w h hlt hj hSS hf.off hf.armed hwr (by have := hf.n8; omega) hf.area hl hcap hcm (by omega) ⟨by omega, by omega, by omega⟩ hA hAS).mono ?_
    rintro e w' ⟨rfl, h3⟩
    exact ⟨rfl, h3⟩
set_option maxRecDepth 100000 in
set_option maxHeartbeats 4000000 in
theorem put_law (Sd S : Nat → Prop) (d jb : Nat) (D : Dsk) (J : Jn) (K : Nat) (k : UInt8) (z : Int) (l : List UInt8) (A : Option Addr) (cap : Nat) (w : World) (h : DiskAt w Sd d D) (hlt : ∀ b, Sd b → b < w.heap.size) (hj : JAt w S jb d J) (hSS : ∀ b, S b → ¬ Sd b) {o : Nat} (hf : Fit D J o K) (hK : K ≤ 1000000) (hwr : D.wr.length + 70000 < 1000000) (hl : l.length ≤ 3000) (hcap : l.length ≤ cap) (hcm : cap ≤ maxLen) (hA : BArg w A l cap) :
    Calls Try.prog 10 #[.pointer (some ⟨jb, 0, none⟩), .agg #[.int .u8 (k.toNat : Int), .slice A l.length cap, .int .i64 z]] w fun e w' => e = .returned (.tuple #[]) ∧ PutTo w w' S Sd d jb (putR D J (decide (k.toNat % 9 = 4)) (rep l (k.toNat / 9 + 1))) := by
  have hSlt : ∀ b, S b → b < w.heap.size := by
    obtain ⟨sv, rv, vs, h1⟩ := hj
    exact h1.lt
  have hrl : (rep l (k.toNat / 9 + 1)).length ≤ 1048576 := by
    rw [rep_length]
    have h1 : k.toNat < 256 := k.toNat_lt
    have : (k.toNat / 9 + 1) * l.length ≤ 30 * 3000 := Nat.mul_le_mul (by omega) (by omega)
    omega
  obtain ⟨m, hm⟩ : ∃ m, m = l.length := ⟨_, rfl⟩
  obtain ⟨y, hy⟩ : ∃ y, y = w.alloc (.cells #[.int .u8 (k.toNat : Int), .slice A l.length cap, .int .i64 z] 34) := ⟨_, rfl⟩
  have h1 := (MapKept.heap_alloc w (.cells #[.int .u8 (k.toNat : Int), .slice A l.length cap, .int .i64 z] 34)).1
  have h2 := World.grownBy_alloc w (.cells #[.int .u8 (k.toNat : Int), .slice A l.length cap, .int .i64 z] 34) none
  rw [← hy] at h1 h2
  have HAFT : Hid (∀ w2, Below y.heap.size y w2 → w.grownBy w2 none ∧ DiskAt w2 Sd d D ∧ (∀ b, Sd b → b < w2.heap.size) ∧ JAt w2 S jb d J) := fun w2 hb => by
    have hg : w.grownBy w2 none := ⟨hb.os.trans h2.os, hb.tape.trans h2.tape, hb.output.trans h2.output, Nat.le_trans h2.size hb.size, fun i hi _ => (hb.block i (Nat.lt_of_lt_of_le hi h2.size)).trans (h2.block i hi (by simp))⟩
    exact ⟨hg, h.grown hg, fun b hb => Nat.lt_of_lt_of_le (hlt b hb) hg.size, hj.off (Off.of_grown hg (S := fun _ => False) (by simp)) (fun _ _ h => h)⟩
  have HBY : Hid (BArg y A l cap) := hA.below (grown_below0 h2 (Nat.le_refl _))
  have HYS : Hid (w.heap.size ≤ y.heap.size) := h2.size
  have HC := Lib.hid (And.intro hl (And.intro hcap hcm))
  have HSS := Lib.hid hSS
  have HF := Lib.hid hf
  have HK := Lib.hid hK
  have HWR := Lib.hid hwr
  have HST := Lib.hid (And.intro hSlt hlt)
  have c0 : y.cell? ⟨w.heap.size, 0, none⟩ = some (.int .u8 (k.toNat : Int)) := cell_blk h1 0
  have c1 : y.cell? ⟨w.heap.size, 1, none⟩ = some (.slice A m cap) := by rw [hm]; exact cell_blk h1 1
  have c2 : y.cell? ⟨w.heap.size, 2, none⟩ = some (.int .i64 z) := cell_blk h1 2
  have hk : k.toNat < 256 := k.toNat_lt
  rw [← hm] at hy ⊢
  have HBC := Lib.hid (bytes_at k z l A cap hl hcap hcm y HBY.out)
  obtain ⟨q, hq⟩ : ∃ q, q = k.toNat := ⟨_, rfl⟩
  rw [← hm, ← hq] at HBC
  rw [← hq] at hy hk c0 hrl ⊢
  have HRL := Lib.hid hrl
  clear h hlt hj hSS hf hK hwr hl hcap hcm hA h1 h2 hm hrl hSlt hq HC HBY
  by_cases h4 : q % 9 = 4
  · have hd : ((q : Int) % 9 == 4) = true := by simp; omega
    rw [decide_eq_true h4]
    clear h4
    go_enter Try.func10, Try.ntmps10
    go_upto_region 1 with fail
    rw [← hy]
    clear hy
    go_wp2_with fail
    refine HBC.out.mono ?_
    rintro e w2 ⟨v, rfl, hr, hb⟩
    obtain ⟨hg, hd2, hlt2, hj2⟩ := HAFT.out w2 hb
    obtain ⟨Av, capv, rfl, hc1, hc2, ha1, ha2⟩ := brow_arg hr
    have HG := Lib.hid hg
    have HCK := Lib.hid ((ck_any Sd S d jb D J K _ Av capv w2 hd2 hlt2 hj2 HSS.out HF.out HK.out HWR.out HRL.out hc1 hc2 ha1 (fun g off e hs => by have := ha2 g off e; have := HST.out.2 g hs; have := HYS.out; omega)).mono (R' := fun e w' => ∃ x : Int, e = .returned (.int .i64 x) ∧ PutTo w2 w' S Sd d jb _) (fun e w' h => ⟨_, h.1, h.2⟩))
    clear hr hb hg hd2 hlt2 hj2 hc1 hc2 ha1 ha2
    go_wp2_with fail
    refine HCK.out.mono ?_
    rintro e w3 ⟨x, rfl, hp⟩
    have HP := Lib.hid (hp.start HG.out)
    clear hp
    go_wp2_with fail
    go_end0
    exact ⟨rfl, HP.out⟩
  · have hd : ((q : Int) % 9 == 4) = false := by simp; omega
    rw [decide_eq_false h4]
    clear h4
    go_enter Try.func10, Try.ntmps10
    go_upto_region 1 with fail
    rw [← hy]
    clear hy
    go_wp2_with fail
    refine HBC.out.mono ?_
    rintro e w2 ⟨v, rfl, hr, hb⟩
    obtain ⟨hg, hd2, hlt2, hj2⟩ := HAFT.out w2 hb
    obtain ⟨Av, capv, rfl, hc1, hc2, ha1, ha2⟩ := brow_arg hr
    have HG := Lib.hid hg
    have HCK := Lib.hid ((append_any Sd S d jb D J K _ Av capv w2 hd2 hlt2 hj2 HSS.out HF.out HK.out HWR.out HRL.out hc1 hc2 (ha1.imp (fun h => h.2) (fun ⟨g, off, e, h1, h2⟩ => ⟨g, off, e, h1, fun hs => by have := ha2 g off e; have := HST.out.2 g hs; have := HYS.out; omega, h2⟩))).mono (R' := fun e w' => ∃ x : Int, e = .returned (.int .i64 x) ∧ PutTo w2 w' S Sd d jb _) (fun e w' h => ⟨_, h.1, h.2⟩))
    clear hr hb hg hd2 hlt2 hj2 hc1 hc2 ha1 ha2
    go_wp2_with fail
    refine HCK.out.mono ?_
    rintro e w3 ⟨x, rfl, hp⟩
    have HP := Lib.hid (hp.start HG.out)
    clear hp
    go_wp2_with fail
    go_end0
    exact ⟨rfl, HP.out⟩
end Go.Proofs.Ytgdedgfohjplmaa.Jnl

/- The laws' helper has. -/
namespace Go.Proofs.Ytgdedgfohjplmaa.Jnl
open Go.RowKit Go.Maps Sec

/-- What a journal has. -/
def hasL (J : Jn) : List (List UInt8) := J.st :: J.recs
def hasV (l : List (List UInt8)) : List Value := l.map strV
theorem run_str_nil (w : World) : (convert 23 9 (.slice none 0 0)).run Try.prog w = .ok (strV []) w := by kernel_rfl
theorem run_str {w : World} {B : Nat} {v : Value} {l : List UInt8} (h : BRow w B v l) : (convert 23 9 v).run Try.prog w = .ok (strV l) w := by
  obtain ⟨A, cap, rfl, h1, h2, h3, h4⟩ := brow_arg h
  rcases h3 with ⟨rfl, rfl, rfl⟩ | ⟨g, off, rfl, _, hr⟩
  · exact run_str_nil w
  · exact run_string w g off l cap hr
theorem str_cells {w : World} {B : Nat} {v : Value} {xs : List Value} (h : StrRow w B v xs) : ∃ A cap, v = .slice A xs.length cap ∧ (xs ≠ [] → ∃ g, A = some ⟨g, 0, none⟩ ∧ ∀ i x, xs[i]? = some x → w.cell? ⟨g, i, none⟩ = some x) := by
  unfold StrRow at h
  obtain ⟨_, ⟨rfl, e⟩ | ⟨g, cap, cur, rfl, hB, hb, _, _, _, ht⟩⟩ := h
  · exact ⟨none, 0, by rw [e], fun h => absurd (List.length_eq_zero_iff.1 e) h⟩
  · refine ⟨_, cap, rfl, fun _ => ⟨g, rfl, fun i x hi => ?_⟩⟩
    rw [← ht, List.getElem?_take] at hi
    rw [cell_blk hb]
    split at hi
    · simpa using hi
    · cases hi
theorem next_j (S : Nat → Prop) (d jb : Nat) (J : Jn) (w : World) (hj : JAt w S jb d J) (hn : J.first + J.recs.length < 9223372036854775808) :
    Calls Try.prog 16 #[.pointer (some ⟨jb, 0, none⟩)] w fun e w' => e = .returned (.int .i64 ((J.first + J.recs.length : Nat) : Int)) ∧ ∃ m, w' = w.drewN m := by
  obtain ⟨sv, rv, vs, hj⟩ := hj
  obtain ⟨Ar, capr, hrv, _, _⟩ := row_len hj.rows
  exact next_blk jb d J sv rv Ar J.recs.length capr hrv hn w hj.blk
theorem hasV_take (J : Jn) (j : Nat) (l : List UInt8) (h : J.recs[j]? = some l) : hasV (J.st :: J.recs.take (j + 1)) = hasV (J.st :: J.recs.take j) ++ [strV l] := by
  have h1 : J.recs.take (j + 1) = J.recs.take j ++ [l] := by
    rw [List.take_add_one, h]
    rfl
  rw [h1]
  simp [hasV]
theorem hasV_length (l : List (List UInt8)) : (hasV l).length = l.length := by simp [hasV]
set_option maxRecDepth 100000 in
set_option maxHeartbeats 4000000 in
theorem has_at (S : Nat → Prop) (d jb : Nat) (J : Jn) (w : World) (hj : JAt w S jb d J) (hst : J.st.length ≤ 100000000) (hrl : ∀ l ∈ J.recs, l.length ≤ 100000000) (hn : J.recs.length < 90000) (hf : J.first + J.recs.length < 9223372036854775000) :
    Calls Try.prog 11 #[.pointer (some ⟨jb, 0, none⟩)] w fun e w' => ∃ v, e = .returned v ∧ StrRow w' w.heap.size v (hasV (hasL J)) ∧ Off (fun _ => False) w w' := by
  have hSlt : ∀ b, S b → b < w.heap.size := by
    obtain ⟨sv, rv, vs, h1⟩ := hj
    exact h1.lt
  have HJ : Hid (∀ x, Off (fun b => w.heap.size ≤ b) w x → JAt x S jb d J) := fun x ho => hj.off ho (fun b hb h => by have := hSlt b hb; omega)
  have HST := Lib.hid hst
  have HRL := Lib.hid hrl
  have HN := Lib.hid hn
  have HF := Lib.hid hf
  clear hj hst hrl hn hf hSlt
  go_enter Try.func11, Try.ntmps11
  go_wp2_with fail
  refine (state_at S jb d J w (HJ.out w (Off.refl _ _)) HST.out).mono ?_
  rintro e w1 ⟨v1, rfl, hr1, hb1⟩
  have hcv := run_str hr1
  obtain ⟨A1, cap1, rfl, _, _⟩ := row_len hr1
  have HB1 := Lib.hid hb1
  clear hr1 hb1
  go_wp2_with fail
  have hrow := World.ownsRow_lit (base := w.heap.size) (e := 9) (size := 1) w1 #[strV J.st] 1 HB1.out.size (by decide) rfl
  have h2 := World.grownBy_alloc w1 (.cells #[strV J.st] 9) none
  obtain ⟨y, hy⟩ : ∃ y, y = w1.alloc (.cells #[strV J.st] 9) := ⟨_, rfl⟩
  rw [← hy] at hrow h2 ⊢
  have hoff : Off (fun b => w.heap.size ≤ b) w y := Off.trans ⟨HB1.out.os, HB1.out.tape, HB1.out.output, HB1.out.size, fun k hk _ => HB1.out.block k hk⟩ (Off.of_grown h2 (by simp))
  have HOY := Lib.hid hoff
  have HROW : Hid (StrRow y w.heap.size (.slice (some ⟨w1.heap.size, 0, none⟩) 1 1) (hasV (J.st :: J.recs.take 0))) := hrow
  obtain ⟨sb, hsb⟩ : ∃ sb : Value, sb = .slice (some ⟨w1.heap.size, 0, none⟩) 1 1 := ⟨_, rfl⟩
  rw [← hsb] at HROW ⊢
  clear hrow h2 hoff hcv hy hsb
  refine (first_at S jb d J y (HJ.out y HOY.out)).mono ?_
  rintro e wq ⟨rfl, hwq⟩
  subst hwq
  obtain ⟨nx, hnx⟩ : ∃ nx, nx = J.first + J.recs.length := ⟨_, rfl⟩
  have HNX := Lib.hid hnx
  clear hnx
  go_wp2_with fail
  go_loopw [3, 4] (fun lv kv wr => ∃ j kk : Nat, j ≤ J.recs.length ∧ kk = J.first + j ∧ kv = .int .i64 (kk : Int) ∧ StrRow wr w.heap.size lv (hasV (J.st :: J.recs.take j)) ∧ Off (fun b => w.heap.size ≤ b) w wr) (fun _ kv _ => nx - (intOf kv).toNat)
  case atStart => exact ⟨0, J.first, Nat.zero_le _, rfl, rfl, HROW.out, HOY.out⟩
  case round =>
    obtain ⟨j, kk, hj, hkk, rfl, hrow, hoff⟩ := hrel
    have HKK := Lib.hid hkk
    have HROWJ := Lib.hid hrow
    have HOFF := Lib.hid hoff
    have HJJ := Lib.hid hj
    clear hkk hrow hoff hj
    go_wp2_with fail
    refine (next_j S d jb J wr (HJ.out wr HOFF.out) (by have := HF.out; omega)).mono ?_
    rintro e w' ⟨rfl, m, rfl⟩
    rw [← HNX.out]
    by_cases hlt : kk < nx
    · have hkd : decide (kk < nx) = true := by simp; omega
      have HLT : Hid (j < J.recs.length) := by show _ < _; have h1 := HKK.out; have h2 := HNX.out; omega
      have HLT2 := Lib.hid hlt
      obtain ⟨l, hl⟩ : ∃ l, J.recs[j]? = some l := ⟨_, List.getElem?_eq_getElem HLT.out⟩
      have HL := Lib.hid hl
      have HLL : Hid (l.length ≤ 100000000) := HRL.out l (List.mem_of_getElem? hl)
      have HJR : Hid (JAt (wr.drewN m) S jb d J) := HJ.out _ ⟨HOFF.out.os, HOFF.out.tape, HOFF.out.output, HOFF.out.size, HOFF.out.block⟩
      have hk63 : kk < 9223372036854775000 := by have h1 := HF.out; have h2 := HNX.out; omega
      clear hlt hl
      go_wp2_with fail
      rw [HKK.out]
      refine (record_at S jb d J j l (wr.drewN m) HJR.out HL.out HLL.out (by have := HF.out; omega)).mono ?_
      rw [← HKK.out]
      rintro e w2 ⟨v2, rfl, hr2, hb2⟩
      have hcv := run_str hr2
      obtain ⟨A2, cap2, rfl, _, _⟩ := row_len hr2
      have hg2 : wr.grownBy w2 none := ⟨hb2.os, hb2.tape, hb2.output, hb2.size, fun k hk _ => hb2.block k hk⟩
      have hga := World.grownBy_alloc w2 (.cells #[strV l] 9) none
      have HG2 := Lib.hid hg2
      have hrow3 : StrRow (w2.alloc (.cells #[strV l] 9)) w.heap.size u3 (hasV (J.st :: J.recs.take j)) := Sec.row_off (S := fun _ => False) (Sec.row_off (S := fun _ => False) HROWJ.out (Off.of_grown hg2 (by simp)) (fun _ _ h => h)) (Off.of_grown hga (by simp)) (fun _ _ h => h)
      have HROW3 := Lib.hid hrow3
      have HC3 := Lib.hid (cell_new w2 (strV l) 9)
      have HLEN : Hid ((hasV (J.st :: J.recs.take j)).length < 100000) := by show _ < _; rw [hasV_length, List.length_cons, List.length_take]; have := HN.out; omega
      have HBS : Hid (w.heap.size ≤ (w2.alloc (.cells #[strV l] 9)).heap.size) := Nat.le_trans HOFF.out.size (Nat.le_trans hg2.size hga.size)
      have HB2 := Lib.hid hb2
      clear hr2 hb2 hg2 hga hrow3
      go_wp2_with (first
        | (at_builtin; refine wpList_append_str rfl (.tmp 27) (.tmp 30) rfl w.heap.size u3 (hasV (J.st :: J.recs.take j)) (strV l) rfl rfl HROW3.out w2.heap.size rfl HC3.out HLEN.out HBS.out ?_; intro v' w4 hrow4 hg4; go_frame)
        | fail)
      go_roundw
      case rel =>
        refine ⟨j + 1, kk + 1, HLT.out, by rw [HKK.out]; omega, by go_num, by rw [hasV_take J j l HL.out]; exact hrow4, ?_⟩
        have o1 : Off (fun b => w.heap.size ≤ b) wr w2 := Off.of_grown HG2.out (by simp)
        have o2 : Off (fun b => w.heap.size ≤ b) w2 (w2.alloc (.cells #[strV l] 9)) := Off.of_grown (World.grownBy_alloc w2 _ none) (by simp)
        have o3 : Off (fun b => w.heap.size ≤ b) (w2.alloc (.cells #[strV l] 9)) w4 := Off.of_grown hg4 (fun g hg => (HROWJ.out.lt g hg).1)
        exact ((HOFF.out.trans o1).trans o2).trans o3
      case measure => have := HLT2.out; simp [intOf]; omega
    · have hkd : decide (kk < nx) = false := by simp; omega
      have HE : Hid (j = J.recs.length) := by show _ = _; have h1 := HKK.out; have h2 := HNX.out; have h3 := HJJ.out; omega
      clear hlt
      go_wp2_with fail
      go_ret
      refine ⟨u3, rfl, ?_, ?_⟩
      · have := HROWJ.out
        rw [HE.out, List.take_length] at this
        exact this
      · exact ⟨HOFF.out.os, HOFF.out.tape, HOFF.out.output, HOFF.out.size, fun k hk _ => HOFF.out.block k hk (by omega)⟩
end Go.Proofs.Ytgdedgfohjplmaa.Jnl

/- The laws' helper same. -/
namespace Go.Proofs.Ytgdedgfohjplmaa.Jnl
open Go.RowKit Go.Maps Sec

theorem hasV_at (xs : List (List UInt8)) (i : Nat) (x : List UInt8) (h : xs[i]? = some x) : (hasV xs)[i]? = some (strV x) := by simp [hasV, h]
set_option maxRecDepth 100000 in
set_option maxHeartbeats 4000000 in
theorem same_at (B1 B2 : Nat) (va vb : Value) (xs ys : List (List UInt8)) (w : World) (ha : StrRow w B1 va (hasV xs)) (hb : StrRow w B2 vb (hasV ys)) (hx : xs.length < 100000) (hy : ys.length < 100000) (r : Bool) (hr : r = decide (xs = ys ∧ xs ≠ [])) :
    Calls Try.prog 14 #[va, vb] w fun e w' => e = .returned (.bool r) ∧ ∃ m, w' = w.drewN m := by
  obtain ⟨A1, c1, rfl, h1⟩ := str_cells ha
  obtain ⟨A2, c2, rfl, h2⟩ := str_cells hb
  rw [hasV_length, hasV_length]
  have HX := Lib.hid hx
  have HY := Lib.hid hy
  have HR := Lib.hid hr
  have H1 := Lib.hid h1
  have H2 := Lib.hid h2
  obtain ⟨n, hn⟩ : ∃ n, n = xs.length := ⟨_, rfl⟩
  obtain ⟨m, hm⟩ : ∃ m, m = ys.length := ⟨_, rfl⟩
  rw [← hn, ← hm]
  have HNM := Lib.hid (And.intro hn hm)
  clear ha hb hx hy hr h1 h2 hn hm
  by_cases hnm : n = m
  · subst hnm
    by_cases h0 : n = 0
    · subst h0
      have HF : Hid (r = false) := by
        show _ = _
        rw [HR.out]
        refine decide_eq_false (fun h => h.2 (List.length_eq_zero_iff.1 HNM.out.1.symm))
      go_enter Try.func14, Try.ntmps14
      go_wp2_with fail
      go_ret
      exact ⟨by rw [HF.out]; rfl, 0, rfl⟩
    · have hn0 : ((n : Int) == 0) = false := by simp; omega
      have HN0 := Lib.hid h0
      obtain ⟨g1, e1, k1⟩ := H1.out (fun h => h0 (by rw [HNM.out.1, ← hasV_length xs, h]; rfl))
      obtain ⟨g2, e2, k2⟩ := H2.out (fun h => h0 (by rw [HNM.out.2, ← hasV_length ys, h]; rfl))
      subst e1
      subst e2
      have K1 := Lib.hid k1
      have K2 := Lib.hid k2
      clear k1 k2 h0
      go_enter Try.func14, Try.ntmps14
      go_wp2_with fail
      go_loopw [5] (fun iv wr => ∃ k : Nat, k ≤ n ∧ iv = .int .i64 (k : Int) ∧ (∀ i, i < k → xs[i]? = ys[i]?) ∧ ∃ q, wr = w.drewN q) (fun iv _ => n - (intOf iv).toNat)
      case atStart => exact ⟨0, Nat.zero_le _, rfl, fun i hi => by omega, 0, rfl⟩
      case round =>
        obtain ⟨k, hk, rfl, heq, q, rfl⟩ := hrel
        have HEQ := Lib.hid heq
        clear heq
        by_cases hlt : k < n
        · have hkd : decide (k < n) = true := by simp; omega
          obtain ⟨x, hx⟩ : ∃ x, xs[k]? = some x := ⟨_, List.getElem?_eq_getElem (by have := HNM.out.1; omega)⟩
          obtain ⟨y, hy⟩ : ∃ y, ys[k]? = some y := ⟨_, List.getElem?_eq_getElem (by have := HNM.out.2; omega)⟩
          have c1 : w.cell? ⟨g1, k, none⟩ = some (strV x) := K1.out k _ (hasV_at xs k x hx)
          have c2 : w.cell? ⟨g2, k, none⟩ = some (strV y) := K2.out k _ (hasV_at ys k y hy)
          have HXY := Lib.hid (And.intro hx hy)
          clear hx hy
          have kb : k < 100000 := by have h1 := HNM.out; have h2 := HX.out; omega
          have k0 : (0 : Int) ≤ (k : Int) := by omega
          have k1 : (k : Int) < (n : Int) := by omega
          by_cases he : x = y
          · subst he
            go_wp2_with fail
            go_quiet (fail)
            go_wp2_with fail
            go_roundw
            case rel => exact ⟨k + 1, hlt, by go_num, fun i hi => by
              by_cases h : i = k
              · rw [h, HXY.out.1, HXY.out.2]
              · exact HEQ.out i (by omega), _, rfl⟩
            case measure => simp [intOf]; omega
          · have hne : ((bs x).toList == (bs y).toList) = false := by
              rw [bs_toList, bs_toList]
              simpa using he
            have HF : Hid (r = false) := by
              show _ = _
              rw [HR.out]
              refine decide_eq_false (fun h => he ?_)
              have h1 := HXY.out.1
              rw [h.1, HXY.out.2] at h1
              exact (Option.some.inj h1).symm
            go_wp2_with fail
            go_quiet (fail)
            go_wp2_with fail
            go_ret
            exact ⟨by rw [HF.out]; rfl, _, World.drewN_drewN _ _ _⟩
        · have hkd : decide (k < n) = false := by simp; omega
          have HF : Hid (r = true) := by
            show _ = _
            rw [HR.out]
            refine decide_eq_true ⟨List.ext_getElem? fun i => ?_, fun h => HN0.out (by rw [HNM.out.1, h]; rfl)⟩
            by_cases hi : i < n
            · exact HEQ.out i (by omega)
            · rw [List.getElem?_eq_none (by have := HNM.out.1; omega), List.getElem?_eq_none (by have := HNM.out.2; omega)]
          clear hlt
          go_wp2_with fail
          go_ret
          exact ⟨by rw [HF.out]; rfl, q, rfl⟩
  · have hd : ((n : Int) == (m : Int)) = false := by simp; omega
    have HF : Hid (r = false) := by
      show _ = _
      rw [HR.out]
      refine decide_eq_false (fun h => hnm (by rw [HNM.out.1, HNM.out.2, h.1]))
    clear hnm
    go_enter Try.func14, Try.ntmps14
    go_wp2_with fail
    go_ret
    exact ⟨by rw [HF.out]; rfl, 0, rfl⟩
end Go.Proofs.Ytgdedgfohjplmaa.Jnl

/- A disk and a journal side by side in memory; the laws' helper works. -/
namespace Go.Proofs.Ytgdedgfohjplmaa.Jnl
open Go.RowKit Go.Maps Sec

/-- A disk and its journal lie in blocks that are new since w0. -/
structure Both (w0 w : World) (S Sd : Nat → Prop) (d jb : Nat) (D : Dsk) (J : Jn) : Prop where
  disk : DiskAt w Sd d D
  jnl : JAt w S jb d J
  apart : ∀ b, S b → ¬ Sd b
  slt : ∀ b, Sd b → b < w.heap.size
  dnew : ∀ b, Sd b → w0.heap.size ≤ b
  jnew : ∀ b, S b → w0.heap.size ≤ b
  off : Off (fun b => w0.heap.size ≤ b) w0 w
theorem Both.jlt {w0 w : World} {S Sd : Nat → Prop} {d jb : Nat} {D : Dsk} {J : Jn} (h : Both w0 w S Sd d jb D J) : ∀ b, S b → b < w.heap.size := by
  obtain ⟨sv, rv, vs, h1⟩ := h.jnl
  exact h1.lt
theorem Both.put {w0 w w' : World} {S Sd : Nat → Prop} {d jb : Nat} {D : Dsk} {J : Jn} {R : Dsk × Jn} (h : Both w0 w S Sd d jb D J) (hp : PutTo w w' S Sd d jb R) : ∃ S' Sd', Both w0 w' S' Sd' d jb R.1 R.2 ∧ (∀ b, S' b → S b ∨ w.heap.size ≤ b) ∧ (∀ b, Sd' b → Sd b ∨ w.heap.size ≤ b) ∧ Off (fun b => S b ∨ Sd b) w w' := by
  obtain ⟨S', Sd', h1, h2, h3, h4, h5, h6⟩ := hp
  have hs := h.off.size
  refine ⟨S', Sd', ⟨h2, h1, h3, fun b hb => (h5 b hb).2, fun b hb => ?_, fun b hb => ?_, h.off.trans (h6.mono (fun b _ hb => hb.elim (h.jnew b) (h.dnew b)))⟩, h4, fun b hb => (h5 b hb).1, h6⟩
  · rcases (h5 b hb).1 with h7 | h7
    · exact h.dnew b h7
    · omega
  · rcases h4 b hb with h7 | h7
    · exact h.jnew b h7
    · omega
theorem Both.keep {w0 w w' : World} {S Sd T : Nat → Prop} {d jb : Nat} {D : Dsk} {J : Jn} (h : Both w0 w S Sd d jb D J) (ho : Off T w w') (hS : ∀ b, S b → ¬ T b) (hSd : ∀ b, Sd b → ¬ T b) (hT : ∀ b, T b → w0.heap.size ≤ b) : Both w0 w' S Sd d jb D J :=
  ⟨h.disk.off ho (fun k _ hk => hSd k hk), h.jnl.off ho hS, h.apart, fun b hb => Nat.lt_of_lt_of_le (h.slt b hb) ho.size, h.dnew, h.jnew, h.off.trans (ho.mono (fun b _ hb => hT b hb))⟩
theorem Both.new {w0 w w' : World} {S Sd : Nat → Prop} {d jb : Nat} {D : Dsk} {J : Jn} (h : Both w0 w S Sd d jb D J) (ho : Off (fun _ => False) w w') : Both w0 w' S Sd d jb D J := h.keep ho (fun _ _ h => h) (fun _ _ h => h) (fun _ h => h.elim)
theorem off_below {w w' : World} (h : Below w.heap.size w w') : Off (fun _ => False) w w' := ⟨h.os, h.tape, h.output, h.size, fun k hk _ => h.block k hk⟩
theorem off_to_below {w w' : World} (h : Off (fun _ => False) w w') : Below w.heap.size w w' := ⟨h.os, h.tape, h.output, h.size, fun k hk => h.block k hk (fun h => h)⟩
theorem off_grown {w w' : World} (h : w.grownBy w' none) : Off (fun _ => False) w w' := Off.of_grown h (by simp)
theorem off_drew (w : World) (m : Nat) : Off (fun _ => False) w (w.drewN m) := ⟨rfl, rfl, rfl, Nat.le_refl _, fun _ _ _ => rfl⟩
theorem Off.zero {w0 w : World} (h : Off (fun b => w0.heap.size ≤ b) w0 w) : Off (fun _ => False) w0 w := ⟨h.os, h.tape, h.output, h.size, fun k hk _ => h.block k hk (by omega)⟩
theorem Both.free {w0 w : World} {S Sd : Nat → Prop} {d jb : Nat} {D : Dsk} {J : Jn} {o K : Nat} (h : Both w0 w S Sd d jb D J) (hf : Fit D J o K) :
    Calls Try.prog 17 #[.pointer (some ⟨jb, 0, none⟩)] w fun e w' => e = .returned (.int .i64 ((D.n / 2 - 1 - J.used : Nat) : Int)) ∧ ∃ m, w' = w.drewN m := free_at Sd S d jb D J w h.disk h.jnl hf.used (by have := hf.n8; omega)
/-- A new disk, opened. -/
theorem Both.fresh {w0 w w' : World} {Sn Sj Sd' : Nat → Prop} {d jb n : Nat} (h0 : Off (fun b => w0.heap.size ≤ b) w0 w) (hn : ∀ b, Sn b → w0.heap.size ≤ b) (hj : JAt w' Sj jb d newJ) (hd : DiskAt w' Sd' d (opened (freshDisk n) none).2) (hsj : ∀ b, Sj b → w.heap.size ≤ b ∧ ¬ Sd' b) (hsd : ∀ b, Sd' b → (Sn b ∨ w.heap.size ≤ b) ∧ b < w'.heap.size) (ho : Off Sn w w') : Both w0 w' Sj Sd' d jb (opened (freshDisk n) none).2 newJ := by
  have hs := h0.size
  exact ⟨hd, hj, fun b hb => (hsj b hb).2, fun b hb => (hsd b hb).2, fun b hb => (hsd b hb).1.elim (hn b) (fun h => by omega), fun b hb => by have := (hsj b hb).1; omega, h0.trans (ho.mono (fun b _ hb => hn b hb))⟩
end Go.Proofs.Ytgdedgfohjplmaa.Jnl

/- The laws' helper works. -/
namespace Go.Proofs.Ytgdedgfohjplmaa.Jnl
open Go.RowKit Go.Maps Sec

theorem opened_n (n : Nat) : (opened (freshDisk n) none).2.n = n ∧ (opened (freshDisk n) none).2.wr.length = 2 ∧ Coh (opened (freshDisk n) none).2 := by
  refine ⟨(pushes_n ..).1, ?_, ?_⟩
  · show ((pushes _ _ _ _).wr ++ [_]).length = _
    rw [List.length_append, (pushes_n ..).2.2.2]
    show (0 + (upto (parts 0)).length) + 1 = 2
    rw [upto_length]
    decide
  · have h : Coh (freshDisk n) := rfl
    exact (h.pushes _ _ _).push _ _
theorem new_arg {w : World} {C : Array Value} {t : TypeId} {sp : Nat × Nat} {l : List UInt8} (hc : C = (u8s l).toArray) (cap : Nat) : ((some ⟨w.heap.size, 0, none⟩ : Option Addr) = none ∧ l = [] ∧ cap = 0) ∨ ∃ g off, (some ⟨w.heap.size, 0, none⟩ : Option Addr) = some ⟨g, off, none⟩ ∧ g < (w.alloc (.cells C t sp)).heap.size ∧ (w.alloc (.cells C t sp)).rangeAt g off (u8s l) :=
  .inr ⟨w.heap.size, 0, rfl, by rw [World.size_alloc]; omega, range_blk (MapKept.heap_alloc w _).1 (by rw [hc])⟩
theorem made_103 : madeCells #[.int .u8 0] 103 = (u8s (List.replicate 103 0)).toArray := by kernel_rfl
theorem wpList_make_103 {ops : Array Oper} {rest : List Oper} {op : Oper} {a : Act} {w : World} {Q : Exit → Act → World → Prop} (hgd : op.guard = none) (ho : op.op = .makeSlice 23 (.const (.int .i64 103)) (.const (.int .i64 103)))
    (h : ∀ w', Hid (w' = w.alloc (.cells (u8s (List.replicate 103 0)).toArray 5)) → wpList Try.prog ops Q rest (a.put op.dst (.slice (some ⟨w.heap.size, 0, none⟩) 103 103)) w') : wpList Try.prog ops Q (op :: rest) a w := by
  refine wpList_plain hgd fun K hK => ?_
  have hrun := run_make_row' (P := Try.prog) 23 5 (.int .u8 0) 1 Try.underlying23 info_u8 rfl .i64 .i64 103 (by decide) (by decide) w
  rw [made_103] at hrun
  unfold Oper.wp execOp
  have hrun' : (Instr.makeSlice 23 (.int .i64 103) (.int .i64 103)).run Try.prog w = .ok (.slice (some ⟨w.heap.size, 0, none⟩) 103 103) (w.alloc (.cells (u8s (List.replicate 103 0)).toArray 5)) := hrun
  simp only [ho, Act.eval, Sem.run_bind, hrun', Result.andThen_ok]
  exact hK _ _ (h _ rfl)
theorem new_arg2 {w : World} {Sd : Nat → Prop} {C : Array Value} {t : TypeId} {sp : Nat × Nat} {l : List UInt8} (hc : C = (u8s l).toArray) (cap : Nat) (hS : ∀ b, Sd b → b < w.heap.size) : (l = [] ∧ cap = 0) ∨ ∃ g off, (some ⟨w.heap.size, 0, none⟩ : Option Addr) = some ⟨g, off, none⟩ ∧ g < (w.alloc (.cells C t sp)).heap.size ∧ ¬ Sd g ∧ (w.alloc (.cells C t sp)).rangeAt g off (u8s l) :=
  .inr ⟨w.heap.size, 0, rfl, by rw [World.size_alloc]; omega, fun h => by have := hS _ h; omega, range_blk (MapKept.heap_alloc w _).1 (by rw [hc])⟩
set_option maxRecDepth 100000 in
set_option maxHeartbeats 8000000 in
theorem works_at (w : World) : Calls Try.prog 7 #[] w fun e w' => e = .returned (.bool true) ∧ Off (fun _ => False) w w' := by
  have kc := fun (w : World) (C : Array Value) (n c : Nat) => Lib.run_convert_bytes_const (P := Try.prog) w 23 5 C n c Try.underlying23 Try.underlying5
  go_enter Try.func7, Try.ntmps7
  go_wp2_with fail
  refine (new_at 8 w).mono ?_
  rintro e v0 ⟨d, rfl, hd, ho⟩
  have hd2 : DiskAt v0 (fun b => w.heap.size ≤ b ∧ b < v0.heap.size) d (freshDisk 8) := hd.mono (fun k hk h => ⟨h, hk⟩)
  have HV0 : Hid (Off (fun b => w.heap.size ≤ b) w v0) := ho.mono (fun _ _ h => h.elim)
  have HOP := Lib.hid (open_fresh _ d 8 v0 hd2 (fun b h => h.2) (by decide))
  clear hd hd2 ho
  go_wp2_with fail
  refine HOP.out.mono ?_
  rintro e w1 ⟨jb, Sj, Sd, rfl, hj, hd, hs1, hs2, ho1⟩
  have hb := Both.fresh (w0 := w) HV0.out (fun _ h => h.1) hj hd hs1 hs2 ho1
  obtain ⟨E, hE⟩ : ∃ E, E = (opened (freshDisk 8) none).2 := ⟨_, rfl⟩
  have hen := opened_n 8
  have hf := Fit.fresh 8 (by decide) (by decide)
  rw [← hE] at hb hen hf
  have HB1 := Lib.hid hb
  have HF := Lib.hid hf
  have HEN := Lib.hid hen
  clear hj hd hs1 hs2 ho1 hb hf hen hE HV0 HOP
  go_wp2_with fail
  have hg1 := World.grownBy_alloc w1 (.cells #[.int .u8 97, .int .u8 98] 5 (2, 3)) none
  have hb1 := HB1.out.new (off_grown hg1)
  have HC1 := Lib.hid (append_any Sd Sj d jb E newJ 1 [97, 98] _ 2 _ hb1.disk hb1.slt hb1.jnl hb1.apart HF.out (by decide) (by rw [HEN.out.2.1]; decide) (by decide) (by decide) (by unfold maxLen; omega) (new_arg2 (w := w1) (t := 5) (sp := (2, 3)) (l := [97, 98]) rfl 2 HB1.out.slt))
  have HA1 := Lib.hid hb1
  have HP1 : Hid (putR E newJ false [97, 98] = (appD E newJ [97, 98], newJ.app [97, 98])) := by
    show _ = _
    unfold putR
    rw [if_neg Bool.false_ne_true, HEN.out.1, if_neg (by decide)]
  clear hg1 hb1
  refine HC1.out.mono ?_
  rintro e w2 ⟨he, hp⟩
  rw [HEN.out.1, if_neg (by decide)] at he
  subst he
  rw [HP1.out] at hp
  obtain ⟨S2, Sd2, hb2, -, -, -⟩ := HA1.out.put hp
  have hf2 : Fit (appD E newJ [97, 98]) (newJ.app [97, 98]) 0 2 := HF.out.app (by decide) (by decide) (by rw [HEN.out.1]; decide)
  have hn2 : (appD E newJ [97, 98]).n = 8 ∧ (appD E newJ [97, 98]).wr.length = 3 := ⟨(pushes_n ..).1.trans HEN.out.1, by rw [app_wr, HEN.out.2.1]; decide⟩
  obtain ⟨D2, hD2⟩ : ∃ D2, D2 = appD E newJ [97, 98] := ⟨_, rfl⟩
  obtain ⟨J2, hJ2⟩ : ∃ J2, J2 = newJ.app [97, 98] := ⟨_, rfl⟩
  have hj2 : J2.used = 2 ∧ J2.recs = [[97, 98]] ∧ J2.first = 1 := by rw [hJ2]; exact ⟨by decide, rfl, rfl⟩
  rw [← hD2, ← hJ2] at hb2 hf2
  rw [← hD2] at hn2
  have HB2 := Lib.hid hb2
  have HF2 := Lib.hid hf2
  have HN2 := Lib.hid (And.intro hn2.1 (And.intro hn2.2 hj2))
  clear hp hb2 hf2 hn2 hj2 hD2 hJ2 HP1 HC1 HA1 HB1 HF HEN
  go_wp2_with fail
  refine (HB2.out.free HF2.out).mono ?_
  rintro e wq ⟨he, m2, rfl⟩
  rw [HN2.out.1, HN2.out.2.2.1] at he
  subst he
  have hl3 : (List.replicate 103 (0 : UInt8)).length = 103 := List.length_replicate
  have HL3 := Lib.hid hl3
  clear hl3
  go_wp2_with (first
    | (at_make; refine wpList_make_103 rfl rfl ?_; intro wn Hn; go_frame)
    | fail)
  have hbn : Both w wn S2 Sd2 d jb D2 J2 := by
    rw [Hn.out]
    exact HB2.out.new ((off_drew w2 m2).trans (off_grown (World.grownBy_alloc _ _ none)))
  have HP3 : Hid (putR D2 J2 false (List.replicate 103 0) = (D2, J2)) := by
    show _ = _
    unfold putR
    rw [if_neg Bool.false_ne_true, HN2.out.1, HN2.out.2.2.1, HL3.out, if_pos (by decide)]
  have HC3 := Lib.hid (append_any Sd2 S2 d jb D2 J2 2 (List.replicate 103 0) (some ⟨w2.heap.size, 0, none⟩) 103 wn hbn.disk hbn.slt hbn.jnl hbn.apart HF2.out (by decide) (by rw [HN2.out.2.1]; decide) (by rw [HL3.out]; decide) (by rw [HL3.out]; exact Nat.le_refl _) (by unfold maxLen; omega) (by rw [Hn.out]; exact new_arg2 (w := w2.drewN m2) rfl 103 HB2.out.slt))
  have HA3 := Lib.hid hbn
  rw [HL3.out, HN2.out.1, HN2.out.2.2.1, HP3.out, if_pos (by decide)] at HC3
  clear hbn HP3 Hn HB2
  refine HC3.out.mono ?_
  rintro e w3 ⟨rfl, hp⟩
  obtain ⟨S3, Sd3, hb3, -, -, -⟩ := HA3.out.put hp
  have HB3 : Hid (Both w w3 S3 Sd3 d jb D2 J2) := hb3
  clear hp hb3 HC3 HA3
  go_wp2_with fail
  have hg4 := World.grownBy_alloc w3 (.cells #[.int .u8 120, .int .u8 121] 5 (2, 3)) none
  have hb4 := HB3.out.new (off_grown hg4)
  have HC4 := Lib.hid (ck_any Sd3 S3 d jb D2 J2 2 [120, 121] _ 2 _ hb4.disk hb4.slt hb4.jnl hb4.apart HF2.out (by decide) (by rw [HN2.out.2.1]; decide) (by decide) (by decide) (by unfold maxLen; omega) (new_arg (w := w3) (t := 5) (sp := (2, 3)) (l := [120, 121]) rfl 2) (fun g off e h => by cases e; have := HB3.out.slt _ h; omega))
  have HA4 := Lib.hid hb4
  have HP4 : Hid (putR D2 J2 true [120, 121] = (ckD D2 J2 [120, 121], J2.ck [120, 121])) := by
    show _ = _
    unfold putR
    rw [if_pos rfl, HN2.out.1, if_neg (by decide)]
  clear hg4 hb4
  rw [HN2.out.1, HP4.out, if_neg (by decide)] at HC4
  refine HC4.out.mono ?_
  rintro e w4 ⟨rfl, hp⟩
  obtain ⟨S4, Sd4, hb4, -, -, -⟩ := HA4.out.put hp
  have hf4 : Fit (ckD D2 J2 [120, 121]) (J2.ck [120, 121]) 0 3 := HF2.out.ck (by decide) (by decide) (by rw [HN2.out.1]; decide)
  have hn4 : (ckD D2 J2 [120, 121]).n = 8 := (ckP_n ..).1.trans HN2.out.1
  obtain ⟨D4, hD4⟩ : ∃ D4, D4 = ckD D2 J2 [120, 121] := ⟨_, rfl⟩
  obtain ⟨J4, hJ4⟩ : ∃ J4, J4 = J2.ck [120, 121] := ⟨_, rfl⟩
  have hj4 : J4.used = 1 ∧ J4.recs = [] ∧ J4.first = 2 ∧ J4.st = [120, 121] := by
    rw [hJ4]
    refine ⟨by show parts 2 = 1; decide, rfl, ?_, rfl⟩
    show J2.first + J2.recs.length = 2
    rw [HN2.out.2.2.2.1, HN2.out.2.2.2.2]
    rfl
  have hb4 : Both w w4 S4 Sd4 d jb (ckD D2 J2 [120, 121]) (J2.ck [120, 121]) := hb4
  rw [← hD4, ← hJ4] at hb4 hf4
  rw [← hD4] at hn4
  have HB4 := Lib.hid hb4
  have HF4 := Lib.hid hf4
  have HN4 := Lib.hid (And.intro hn4 hj4)
  clear hp hb4 hf4 hn4 hj4 hD4 hJ4 HP4 HC4 HA4 HB3 HF2 HN2
  go_wp2_with fail
  refine (first_at S4 jb d J4 w4 HB4.out.jnl).mono ?_
  rintro e wq ⟨he, hwq⟩
  rw [HN4.out.2.2.2.1] at he
  subst he
  have hwq := hwq.symm
  subst hwq
  go_wp2_with fail
  refine (next_j S4 d jb J4 w4 HB4.out.jnl (by rw [HN4.out.2.2.2.1, HN4.out.2.2.1]; decide)).mono ?_
  rintro e wx ⟨he, m4, rfl⟩
  rw [HN4.out.2.2.2.1, HN4.out.2.2.1] at he
  subst he
  go_wp2_with fail
  have HB5 := Lib.hid (HB4.out.new (off_drew w4 m4))
  refine (HB5.out.free HF4.out).mono ?_
  rintro e wx ⟨he, m5, rfl⟩
  rw [HN4.out.1, HN4.out.2.1] at he
  subst he
  go_wp2_with fail
  have HB6 := Lib.hid (HB4.out.new (off_drew w4 (m4 + m5)))
  refine (state_at S4 jb d J4 _ HB6.out.jnl (by rw [HN4.out.2.2.2.2]; decide)).mono ?_
  rintro e w7 ⟨v7, rfl, hr7, hb7⟩
  have hcv := run_str hr7
  rw [HN4.out.2.2.2.2] at hr7 hcv
  obtain ⟨A7, cap7, rfl, _, _⟩ := row_len hr7
  rw [show ([120, 121] : List UInt8).length = 2 from rfl] at hcv ⊢
  have hoff := HB6.out.off.trans ((off_below hb7).mono (fun _ _ h => h.elim))
  have HOFF := Lib.hid hoff
  have hstr : ((bs [120, 121]).toList == [120, 121]) = true := by rw [bs_toList]; rfl
  clear hr7 hb7 hoff
  go_wp2_with fail
  go_ret
  exact ⟨rfl, Off.zero HOFF.out⟩
end Go.Proofs.Ytgdedgfohjplmaa.Jnl
