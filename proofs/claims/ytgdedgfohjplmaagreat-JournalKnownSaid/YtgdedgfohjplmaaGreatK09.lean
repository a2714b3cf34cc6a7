/- A part of the proof of JournalKnown: JnlCalls JnlHasF KNum KHead JnlCallsOpen KnowA KTold. -/
import Derived.Test.YtgdedgfohjplmaaGreatK08
import Derived.Test.YtgdedgfohjplmaaGreatK00
import Derived.Test.YtgdedgfohjplmaaGreatK01
import Derived.Test.YtgdedgfohjplmaaGreatK02
import Derived.Deep.Strs
import Derived.Deep.CutBlock
import Derived.Deep.CutRange
set_option maxRecDepth 100000
set_option maxHeartbeats 40000000
namespace Go.Proofs.YtgdedgfohjplmaaGreat.Jnl
open Go.RowKit Go.Maps Sec
structure CallJ where
 k : UInt8
 b : List UInt8
 z : Int
instance : Inhabited CallJ := ⟨⟨0, [], 0⟩⟩
def CJAt (w0 w : World) (g o : Nat) (c : CallJ) : Prop := w.cell? ⟨g, o, none⟩ = some (.int .u8 (c.k.toNat : Int)) ∧ ∃ A cap, w.cell? ⟨g, o + 1, none⟩ = some (.slice A c.b.length cap) ∧ w.cell? ⟨g, o + 2, none⟩ = some (.int .i64 c.z) ∧ Arg0 w0 w A c.b cap ∧ c.b.length ≤ cap ∧ cap ≤ maxLen
def CJs (w0 w : World) (A : Option Addr) (l : List CallJ) : Prop := l = [] ∨ ∃ g off, A = some ⟨g, off, none⟩ ∧ g < w0.heap.size ∧ ∀ j c, l[j]? = some c → CJAt w0 w g (off + j * 3) c
theorem cell_keep {w0 w : World} (ho : Off (fun b => w0.heap.size ≤ b) w0 w) {g o : Nat} {v : Value} (hg : g < w0.heap.size) (h : w0.cell? ⟨g, o, none⟩ = some v) : w.cell? ⟨g, o, none⟩ = some v :=
 (World.cell?_of_block (a := ⟨g, o, none⟩) (ho.block g hg (by omega))).trans h
theorem CJAt.off {w0 w : World} {g o : Nat} {c : CallJ} (h : CJAt w0 w0 g o c) (hg : g < w0.heap.size) (ho : Off (fun b => w0.heap.size ≤ b) w0 w) : CJAt w0 w g o c := by
 obtain ⟨h1, A, cap, h2, h3, h4, h5⟩ := h
 exact ⟨cell_keep ho hg h1, A, cap, cell_keep ho hg h2, cell_keep ho hg h3, h4.off ho, h5⟩
theorem CJs.off {w0 w : World} {A : Option Addr} {l : List CallJ} (h : CJs w0 w0 A l) (ho : Off (fun b => w0.heap.size ≤ b) w0 w) : CJs w0 w A l := by
 rcases h with h | ⟨g, off, h1, h2, h3⟩
 ·exact .inl h
 ·exact .inr ⟨g, off, h1, h2, fun j c hj => (h3 j c hj).off h2 ho⟩
theorem CJs.at_ {w0 w : World} {A : Option Addr} {l : List CallJ} {j : Nat} (h : CJs w0 w A l) (hj : j < l.length) : ∃ g off c, A = some ⟨g, off, none⟩ ∧ l[j]? = some c ∧ CJAt w0 w g (off + j * 3) c := by
 rcases h with rfl | ⟨g, off, e, hg, hc⟩
 ·simp at hj
 ·exact ⟨g, off, l[j], e, List.getElem?_eq_getElem hj, hc j _ (List.getElem?_eq_getElem hj)⟩
def totalJ (l : List CallJ) : Nat := (l.map fun c => c.b.length).sum
theorem totalJ_succ (l : List CallJ) (k : Nat) (c : CallJ) (h : l[k]? = some c) : totalJ (l.take (k + 1)) = totalJ (l.take k) + c.b.length := by
 obtain ⟨hk, e⟩ := List.getElem?_eq_some_iff.1 h
 rw [List.take_succ_eq_append_getElem hk, e]
 simp [totalJ]
theorem totalJ_le (l : List CallJ) (k : Nat) : totalJ (l.take k) ≤ totalJ l := by
 have h : totalJ (l.take k ++ l.drop k) = totalJ (l.take k) + totalJ (l.drop k) := by unfold totalJ; rw [List.map_append, List.sum_append]
 rw [List.take_append_drop] at h
 omega
theorem totalJ_one (l : List CallJ) (k : Nat) (c : CallJ) (h : l[k]? = some c) : c.b.length ≤ totalJ l := by
 have h1 := totalJ_succ l k c h
 have h2 := totalJ_le l (k + 1)
 omega
def bigJ (l : List CallJ) : Bool := decide (60 < l.length ∨ 3000 < totalJ l)
theorem large_at (w0 : World) (A : Option Addr) (l : List CallJ) (cap : Nat) (w : World) (h : CJs w0 w A l) (_ : l.length ≤ cap) (_ : cap ≤ maxLen) :
  Calls Tryz.prog 36 #[.slice A l.length cap] w fun e w' => e = .returned (.bool (bigJ l)) ∧ w' = w := by
 obtain ⟨r, hr⟩ : ∃ r, r = bigJ l := ⟨_, rfl⟩
 rw [← hr]
 unfold bigJ at hr
 have HR := Lib.hid hr
 clear hr
 by_cases h60 : 60 < l.length
 ·have hd : decide ((60 : Int) < (l.length : Int)) = true := by simp; omega
  have HR2 : Hid (r = true) := HR.out.trans (decide_eq_true (Or.inl h60))
  clear h60
  go_enter Tryz.func36, Tryz.ntmps36
  go_wp2
  go_ret
  exact ⟨by rw [HR2.out]; rfl, rfl⟩
 ·have hd : decide ((60 : Int) < (l.length : Int)) = false := by simp; omega
  have HH := Lib.hid h
  clear h
  go_enter Tryz.func36, Tryz.ntmps36
  go_wp2
  go_loopw [3, 4] (fun n i wr => ∃ k : Nat, k ≤ l.length ∧ i = .int .i64 k ∧ n = .int .i64 (totalJ (l.take k) : Int) ∧ totalJ (l.take k) ≤ 3000 ∧ wr = w) (fun _ i _ => l.length - (intOf i).toNat)
  case atStart => exact ⟨0, Nat.zero_le _, rfl, rfl, by simp [totalJ], rfl⟩
  case round =>
   obtain ⟨k, hk, rfl, rfl, hn, rfl⟩ := hrel
   by_cases hlt : k < l.length
   ·have hkd : decide ((k : Int) < (l.length : Int)) = true := by simp; omega
    obtain ⟨g, off, c, rfl, hc, hat⟩ := HH.out.at_ hlt
    obtain ⟨_, Ab, capb, c3, _, _, hb1, hb2⟩ := hat
    have hsucc := totalJ_succ l k c hc
    have k0 : (0 : Int) ≤ (k : Int) := by omega
    have k1 : (k : Int) < (l.length : Int) := by omega
    unfold maxLen at hb2
    have hw1 : wrap64 (3000 - (totalJ (l.take k) : Int)) = 3000 - (totalJ (l.take k) : Int) := by unfold wrap64; omega
    have HB := Lib.hid (And.intro hn (And.intro hb1 hb2))
    by_cases hov : 3000 < totalJ (l.take (k + 1))
    ·have hd2 : decide (3000 - (totalJ (l.take k) : Int) < (c.b.length : Int)) = true := by simp; omega
     have hbig : decide (60 < l.length ∨ 3000 < totalJ l) = true := decide_eq_true (Or.inr (by have := totalJ_le l (k + 1); omega))
     have HR2 : Hid (r = true) := HR.out.trans hbig
     clear hbig hsucc hov hn hb1 hb2
     go_wp2
     go_ret
     exact ⟨by rw [HR2.out]; rfl, rfl⟩
    ·have hd2 : decide (3000 - (totalJ (l.take k) : Int) < (c.b.length : Int)) = false := by simp; omega
     have hw2 : wrap64 ((totalJ (l.take k) : Int) + (c.b.length : Int)) = (totalJ (l.take (k + 1)) : Int) := by unfold wrap64; omega
     have HOV := Lib.hid hov
     clear hov
     go_wp2
     go_roundw
     case rel => exact ⟨k + 1, by omega, by go_num, by first | exact congrArg _ hw2 | simp [hw2], by have := HOV.out; omega, trivial⟩
     case measure => simp [intOf]; omega
   ·have hkd : decide ((k : Int) < (l.length : Int)) = false := by simp; omega
    obtain rfl : k = l.length := by omega
    have HR2 : Hid (r = false) := HR.out.trans (decide_eq_false (by rw [List.take_length] at hn; omega))
    clear hlt hk
    go_wp2
    go_ret
    exact ⟨by rw [HR2.out]; rfl, rfl⟩
theorem Recp.small {now : Nat → List UInt8} {base half op first used n last u : Nat} {ls : List (List UInt8)} (h : Recp now base half op first used n last ls u) (hh : half ≤ 8192) : ∀ l ∈ ls, l.length ≤ 1000000 := by
 induction h with
 | nil => intro l hl; cases hl
 | step h h1 h2 r ih =>
  intro l hl
  rcases List.mem_cons.1 hl with rfl | hl
  ·have h3 := joined_le _ _ (fun i hi => (h.run i hi).len)
   have h4 := h.room
   omega
  ·exact ih l hl
theorem Fit.small {D : Dsk} {J : Jn} {o K : Nat} (h : Fit D J o K) : J.st.length ≤ 1048576 ∧ ∀ l ∈ J.recs, l.length ≤ 1000000 := by
 obtain ⟨M, fs, h1, h2, h3, h4⟩ := h.st
 have h5 := h.size
 exact ⟨by omega, h4.small (by have := h.n16; omega)⟩
theorem has_fit {w0 w : World} {S Sd : Nat → Prop} {d jb : Nat} {D : Dsk} {J : Jn} {o K : Nat} (hb : Both w0 w S Sd d jb D J) (hf : Fit D J o K) (hK : K ≤ 80000) :
  Calls Tryz.prog 51 #[.pointer (some ⟨jb, 0, none⟩)] w fun e w' => ∃ v, e = .returned v ∧ StrRow w' w.heap.size v (hasV (hasL J)) ∧ Off (fun _ => False) w w' := by
 have h1 := hf.small
 have h2 := hf.first
 exact has_at S d jb J w hb.jnl (by omega) (fun l hl => by have := h1.2 l hl; omega) (by omega) (by omega)
theorem str_off {w w' : World} {T : Nat → Prop} {B : Nat} {v : Value} {xs : List Value} (h : StrRow w B v xs) (ho : Off T w w') (hT : ∀ b, B ≤ b → b < w.heap.size → ¬ T b) : StrRow w' B v xs :=
 Sec.row_off h ho (fun g hg => hT g (World.ownsRow.lt h g hg).1 (World.ownsRow.lt h g hg).2)
theorem put_fit {w0 w : World} {S Sd : Nat → Prop} {d jb : Nat} {D : Dsk} {J : Jn} {o K : Nat} {k : UInt8} {z : Int} {l : List UInt8} {A : Option Addr} {cap : Nat} (hb : Both w0 w S Sd d jb D J) (hf : Fit D J o K) (hK : K ≤ 1000000) (hwr : D.wr.length + 70000 < 1000000) (hl : l.length ≤ 3000) (hcap : l.length ≤ cap) (hcm : cap ≤ maxLen) (hA : Arg0 w0 w A l cap) :
  Calls Tryz.prog 49 #[.pointer (some ⟨jb, 0, none⟩), .agg #[.int .u8 (k.toNat : Int), .slice A l.length cap, .int .i64 z]] w fun e w' => e = .returned (.tuple #[]) ∧ ∃ S' Sd', Both w0 w' S' Sd' d jb (putR D J (decide (k.toNat % 9 = 4)) (rep l (k.toNat / 9 + 1))).1 (putR D J (decide (k.toNat % 9 = 4)) (rep l (k.toNat / 9 + 1))).2 ∧ (∀ b, S' b → S b ∨ w.heap.size ≤ b) ∧ (∀ b, Sd' b → Sd b ∨ w.heap.size ≤ b) ∧ Off (fun b => S b ∨ Sd b) w w' := by
 refine (put_law Sd S d jb D J K k z l A cap w hb.disk hb.slt hb.jnl hb.apart hf hK hwr hl hcap hcm (hA.imp id (fun ⟨g, off, h1, _, _, h2⟩ => ⟨g, off, h1, h2⟩))).mono ?_
 rintro e w' ⟨rfl, hp⟩
 exact ⟨rfl, hb.put hp⟩
theorem rep_small {k : UInt8} {l : List UInt8} (hl : l.length ≤ 3000) : (rep l (k.toNat / 9 + 1)).length ≤ 1048576 ∧ parts (rep l (k.toNat / 9 + 1)).length ≤ 890 := by
 have h1 : k.toNat < 256 := k.toNat_lt
 have h2 : (k.toNat / 9 + 1) * l.length ≤ 29 * 3000 := Nat.mul_le_mul (by omega) (by omega)
 have h3 := rep_length l (k.toNat / 9 + 1)
 refine ⟨by omega, ?_⟩
 unfold parts
 omega
theorem open_both {w0 w : World} {Sn : Nat → Prop} {d : Nat} {D : Dsk} {J : Jn} {o K : Nat} (h : DiskAt w Sn d D) (hlt : ∀ b, Sn b → b < w.heap.size) (hn : ∀ b, Sn b → w0.heap.size ≤ b) (h0 : Off (fun b => w0.heap.size ≤ b) w0 w) (hf : Fit D J o K) (hK : K ≤ 1000000) (hwr : D.wr.length + 70000 < 1000000) :
  Calls Tryz.prog 4 #[.pointer (some ⟨d, 0, none⟩)] w fun e w' => ∃ jb Sj Sd', e = .returned (.tuple #[.pointer (some ⟨jb, 0, none⟩), .int .i64 0]) ∧ Both w0 w' Sj Sd' d jb (D.push (J.area * (D.n / 2)) (headB J.gen (J.op + 1) J.first J.size)) { J with op := J.op + 1 } ∧ (∀ b, Sj b → w.heap.size ≤ b) ∧ (∀ b, Sd' b → Sn b ∨ w.heap.size ≤ b) ∧ Off Sn w w' := by
 refine (open_fit Sn d D J o K w h hlt hwr hf hK).mono ?_
 rintro e w' ⟨jb, Sj, Sd', rfl, hj, hd, hs1, hs2, ho⟩
 exact ⟨jb, Sj, Sd', rfl, Both.opened h0 hn hj hd hs1 hs2 ho, fun b hb => (hs1 b hb).1, fun b hb => (hs2 b hb).1, ho⟩
theorem cut_both {w0 w : World} {S Sd : Nat → Prop} {d jb : Nat} {D : Dsk} {J : Jn} (hb : Both w0 w S Sd d jb D J) (q : Nat) (hwr : D.wr.length < 1000000) :
  Calls Tryz.prog 52 #[.pointer (some ⟨d, 0, none⟩), .int .i64 (q : Int)] w fun e w' => ∃ c Sc, e = .returned (.pointer (some ⟨c, 0, none⟩)) ∧ DiskAt w' Sc c (D.cut (q : Int)) ∧ (∀ b, Sc b → b < w'.heap.size) ∧ (∀ b, Sc b → w.heap.size ≤ b) ∧ Off (fun _ => False) w w' := by
 refine (cut_at Sd d D (q : Int) w hb.disk hwr).mono ?_
 rintro e w' ⟨c, rfl, hd, ho⟩
 obtain ⟨h1, h2, h3, h4⟩ := cut_new hb.off hd ho
 exact ⟨c, _, rfl, h1, h2, fun b hb => hb.1, ho⟩
theorem brow_nil (w : World) (B : Nat) : BRow w B (.slice none 0 0) [] := World.ownsRow_nil _ _ _ _
theorem rnum_at (n s : Nat) (hs : s ≤ 8) (hn : n < 9223372036854775808) (w : World) :
  Calls Tryz.prog 32 #[.int .i64 (n : Int), .int .i64 (s : Int)] w fun e w' => ∃ v', e = .returned v' ∧ BRow w' w.heap.size v' (numB n s) ∧ Below w.heap.size w w' := by
 have hu : IntKind.u64.wrap (n : Int) = (n : Int) := by rw [IntKind.wrap_u64]; omega
 obtain ⟨B, hB⟩ : ∃ B, B = w.heap.size := ⟨_, rfl⟩
 rw [← hB]
 have HB0 : Hid (B ≤ w.heap.size) := by show _ ≤ _; omega
 have HU := Lib.hid hu
 clear hB hn hu
 go_enter Tryz.func32, Tryz.ntmps32
 go_wp2_with fail
 go_loopw [5, 6] (fun u i wr => ∃ k : Nat, k ≤ s ∧ i = .int .i64 ((s : Int) - 1 - (k : Int)) ∧ BRow wr B u ((numB n s).take k) ∧ Below B w wr) (fun _ i _ => (intOf i + 1).toNat)
 case atStart => exact ⟨0, Nat.zero_le _, by congr 1; omega, brow_nil _ _, Below.refl _ _⟩
 case round =>
  obtain ⟨k, hk, rfl, hrow, hg⟩ := hrel
  have HROW := Lib.hid hrow
  have HG := Lib.hid hg
  clear hrow hg
  by_cases hlt : k < s
  ·have hd : decide ((0 : Int) ≤ (s : Int) - 1 - (k : Int)) = true := by simp; omega
   have i0 : (0 : Int) ≤ (s : Int) - 1 - (k : Int) := by omega
   have i1 : (s : Int) - 1 - (k : Int) ≤ 7 := by omega
   have hu := HU.out
   have HC : Hid ((UInt8.ofNat (n / 256 ^ (s - 1 - k))).toNat = (n : Int) / 2 ^ (8 * (s - 1 - k)) % 256) := by
    show _ = _
    rw [UInt8.toNat_ofNat', show (256 : Nat) = 2 ^ 8 from rfl, ← Nat.pow_mul, Int.natCast_emod, Int.natCast_ediv, Int.natCast_pow]
    rfl
   have HBW : Hid (∀ o : Obj, B ≤ (wr.alloc o).heap.size) := fun o => Nat.le_trans (Nat.le_trans HB0.out HG.out.size) (World.grownBy_alloc wr o none).size
   have HFEW : Hid (((numB n s).take k).length + 1 < 100000000000) := by show _ < _; rw [List.length_take, numB_length]; omega
   go_wp2_with (first
    | (at_builtin; refine wpList_append_bytes rfl (.tmp 13) (.tmp 20) rfl B _ _ [UInt8.ofNat (n / 256 ^ (s - 1 - k))] (some ⟨wr.heap.size, 0, none⟩) 1 1 rfl rfl (HROW.out.grown (World.grownBy_alloc wr _ none)) rfl (.inr ⟨_, 0, rfl, range_blk (MapKept.heap_alloc wr _).1 (by simp only [u8s, List.map, HC.out])⟩) HFEW.out (HBW.out _) ?_; intro v3 w3 hr3 hb3; go_frame)
    | fail)
   go_roundw
   case rel =>
    refine ⟨k + 1, hlt, ?_, ?_, (HG.out.trans (grown_below0 (World.grownBy_alloc wr _ none) (Nat.le_trans HB0.out HG.out.size))).trans hb3⟩
    ·congr 1
     omega
    ·rw [numB_take n s k hlt]
     exact hr3
   case measure => simp only [intOf]; omega
  ·obtain rfl : k = s := by omega
   have hd : decide ((0 : Int) ≤ (k : Int) - 1 - (k : Int)) = false := by simp; omega
   go_wp2_with fail
   go_ret
   refine ⟨_, rfl, ?_, HG.out⟩
   have := HROW.out
   rwa [List.take_of_length_le (by rw [numB_length]; omega)] at this
theorem rfull_at (B : Nat) (v : Value) (l : List UInt8) (n : Nat) (w : World) (h : BRow w B v l) (hl : l.length ≤ n) (hn : n < 1000) (hB : B ≤ w.heap.size) :
  Calls Tryz.prog 34 #[v, .int .i64 (n : Int)] w fun e w' => ∃ v', e = .returned v' ∧ BRow w' B v' (l ++ List.replicate (n - l.length) 0) ∧ Below B w w' := by
 obtain ⟨A, cap, rfl, hcap, hcm⟩ := row_len h
 obtain ⟨len, hlen⟩ : ∃ m, m = l.length := ⟨_, rfl⟩
 have HLEN := Lib.hid hlen
 rw [← hlen] at h hl hcap ⊢
 have HR := Lib.hid h
 have HB := Lib.hid hB
 clear h hB hlen
 go_enter Tryz.func34, Tryz.ntmps34
 go_wp2_with fail
 go_loopw [0] (fun u wr => ∃ (k : Nat) (A : Option Addr) (cap : Nat), len + k ≤ n ∧ len + k ≤ cap ∧ cap ≤ maxLen ∧ u = .slice A (len + k) cap ∧ BRow wr B u (l ++ List.replicate k 0) ∧ Below B w wr) (fun u _ => n - lenOf u)
 case atStart => exact ⟨0, A, cap, hl, hcap, hcm, rfl, by rw [List.replicate_zero, List.append_nil]; exact HR.out, Below.refl _ _⟩
 case round =>
  obtain ⟨k, A, cap, hk, hc1, hc2, rfl, hrow, hg⟩ := hrel
  have HROW := Lib.hid hrow
  have HG := Lib.hid hg
  clear hrow hg HR
  unfold maxLen at hc2
  by_cases hlt : len + k < n
  ·have hd : decide ((len : Int) + (k : Int) < (n : Int)) = true := by simp; omega
   have HBW : Hid (∀ o : Obj, B ≤ (wr.alloc o).heap.size) := fun o => Nat.le_trans (Nat.le_trans HB.out HG.out.size) (World.grownBy_alloc wr o none).size
   have HFEW : Hid ((l ++ List.replicate k 0).length + 1 < 100000000000) := by show _ < _; rw [List.length_append, List.length_replicate, ← HLEN.out]; omega
   go_wp2_with (first
    | (at_builtin; refine wpList_append_bytes rfl (.tmp 9) (.tmp 10) rfl B _ _ [0] (some ⟨wr.heap.size, 0, none⟩) 1 1 rfl rfl (HROW.out.grown (World.grownBy_alloc wr _ none)) rfl (.inr ⟨_, 0, rfl, range_blk (MapKept.heap_alloc wr _).1 rfl⟩) HFEW.out (HBW.out _) ?_; intro v3 w3 hr3 hb3; go_frame)
    | fail)
   have hr4 : BRow w3 B v3 (l ++ List.replicate (k + 1) 0) := by rw [List.replicate_succ', ← List.append_assoc]; exact hr3
   obtain ⟨A3, cap3, rfl, hc3, hc4⟩ := row_len hr4
   have hlk : (l ++ List.replicate (k + 1) (0 : UInt8)).length = len + (k + 1) := by rw [List.length_append, List.length_replicate, ← HLEN.out]
   rw [hlk] at hr4 hc3 ⊢
   clear hlk
   have HR4 := Lib.hid hr4
   clear hr3 hr4
   go_roundw
   case rel => exact ⟨k + 1, A3, cap3, hlt, hc3, hc4, rfl, HR4.out, (HG.out.trans (grown_below0 (World.grownBy_alloc wr _ none) (Nat.le_trans HB.out HG.out.size))).trans hb3⟩
   case measure => simp only [lenOf]; omega
  ·have hd : decide ((len : Int) + (k : Int) < (n : Int)) = false := by simp; omega
   obtain rfl : n = len + k := by omega
   go_wp2_with fail
   go_ret
   refine ⟨_, rfl, ?_, HG.out⟩
   rw [show len + k - len = k by omega]
   exact HROW.out
theorem rparts_at (n : Nat) (hn : n < 1000000000000) (w : World) :
  Calls Tryz.prog 35 #[.int .i64 (n : Int)] w fun e w' => e = .returned (.int .i64 (parts n : Int)) ∧ w = w' := by
 obtain ⟨m, hm⟩ : ∃ m : Int, m = ((parts n : Nat) : Int) := ⟨_, rfl⟩
 have hmx : ∀ (w : World) (ts : Array TypeId) (t : TypeId), (Builtin.max_ ts t #[.int .i64 1, .int .i64 (((n : Int) + 102 - 1) / 102)]).run Tryz.prog w = .ok (.int .i64 m) w := fun w ts t => by
  rw [run_max_int2]
  congr 2
  rw [hm]
  unfold parts
  split <;> omega
 have hmx2 : ∀ (w : World) (ts : Array TypeId) (t : TypeId), (Builtin.max_ ts t #[.int .i64 1, .int .i64 (((n : Int) + 101) / 102)]).run Tryz.prog w = .ok (.int .i64 m) w := fun w ts t => by
  have := hmx w ts t
  rwa [show (n : Int) + 102 - 1 = (n : Int) + 101 by omega] at this
 rw [← hm]
 clear hm
 go_enter Tryz.func35, Tryz.ntmps35
 go_wp2
 go_ret
 exact ⟨rfl, rfl⟩
theorem or_num {x s k : Nat} (hlt : k < s) (h63 : x < 9223372036854775808) : bits BinOp.or IntKind.u64 (IntKind.u64.wrap ((x : Int) / 256 ^ (s - k) * 256)) (IntKind.u64.wrap ((x / 256 ^ (s - 1 - k) % 2 ^ 8 : Nat) : Int)) = ((x / 256 ^ (s - (k + 1)) : Nat) : Int) := by
 have h1 : x / 256 ^ (s - (k + 1)) = x / 256 ^ (s - k) * 256 + x / 256 ^ (s - 1 - k) % 256 := by
  rw [show s - (k + 1) = s - 1 - k by omega, show s - k = (s - 1 - k) + 1 by omega, Nat.pow_succ, ← Nat.div_div_eq_div_mul]
  omega
 have h2 : x / 256 ^ (s - (k + 1)) < 9223372036854775808 := Nat.lt_of_le_of_lt (Nat.div_le_self _ _) h63
 have h3 := or_byte (x / 256 ^ (s - k)) (x / 256 ^ (s - 1 - k) % 256) (Nat.mod_lt _ (by decide)) (by omega)
 have h4 : IntKind.u64.wrap ((x / 256 ^ (s - 1 - k) % 2 ^ 8 : Nat) : Int) = ((x / 256 ^ (s - 1 - k) % 256 : Nat) : Int) := by
  rw [IntKind.wrap_u64]
  have := Nat.mod_lt (x / 256 ^ (s - 1 - k)) (show 256 > 0 by decide)
  show ((_ % 256 : Nat) : Int) % _ = _
  omega
 rw [h4, h1, ← h3, Int.natCast_ediv, Int.natCast_pow]
 rfl
theorem bs_get (l : List UInt8) (i : Nat) (h : i < (bs l).size) : l[i]? = some ((bs l)[i]'h) := by
 have h2 : i < l.length := by rw [← bs_size l]; exact h
 rw [List.getElem?_eq_getElem h2]
 rfl
theorem rhalf_at (S : Nat → Prop) (m : Nat) (D : Dsk) (w : World) (h : RefAt w S m D) : Calls Tryz.prog 92 #[.pointer (some ⟨m, 0, none⟩)] w fun e w' => e = .returned (.int .i64 ((D.n / 2 : Nat) : Int)) ∧ w = w' := by
 obtain ⟨h1, h2, sb, sl, inn, hm, hSm, hb, hbS, hl, hlS, ha⟩ := h
 obtain ⟨A, cap, hsb, hc, _⟩ := str_slice hb
 rw [tellV_length] at hsb hc
 subst hsb
 have c0 : w.cell? ⟨m, 0, none⟩ = some (.slice A D.n cap) := cell_blk hm 0
 have hq : (D.n : Int) / 2 = ((D.n / 2 : Nat) : Int) := by omega
 have HQ := Lib.hid hq
 clear hm hb hq hl
 go_enter Tryz.func92, Tryz.ntmps92
 go_wp2_with fail
 go_ret
 exact ⟨by rw [← HQ.out]; rfl, rfl⟩
theorem rnumber_at (l : List UInt8) (at0 s x : Nat) (hs : s ≤ 8) (hl : at0 + s ≤ l.length) (hl2 : l.length ≤ 1000) (hx : (l.drop at0).take s = numB x s) (hx6 : x < 256 ^ s) (hx63 : x < 9223372036854775808) (w : World) :
  Calls Tryz.prog 93 #[strV l, .int .i64 (at0 : Int), .int .i64 (s : Int)] w fun e w' => e = .returned (.int .i64 (x : Int)) ∧ w = w' := by
 have HX := Lib.hid hx
 have H6 := Lib.hid hx6
 have H63 := Lib.hid hx63
 have HL := Lib.hid (And.intro hl hl2)
 clear hx hx6 hx63
 have hsz : (bs l).size = l.length := bs_size l
 have HSZ := Lib.hid hsz
 clear hsz
 go_enter Tryz.func93, Tryz.ntmps93
 go_wp2_with fail
 go_loop [7, 8] (fun u i => ∃ k : Nat, k ≤ s ∧ i = .int .i64 (k : Int) ∧ u = .int .u64 ((x / 256 ^ (s - k) : Nat) : Int)) (fun _ i => s - (intOf i).toNat)
 case atStart =>
  refine ⟨0, Nat.zero_le _, rfl, ?_⟩
  rw [Nat.sub_zero, Nat.div_eq_of_lt H6.out]
  rfl
 case round =>
  obtain ⟨k, hk, rfl, rfl⟩ := hrel
  by_cases hlt : k < s
  ·have hd : decide ((k : Int) < (s : Int)) = true := by simp; omega
   have hsz2 : (at0 : Int) + (k : Int) < ((bs l).size : Int) := by rw [HSZ.out]; omega
   have hsz0 : (0 : Int) ≤ (at0 : Int) + (k : Int) := by omega
   have HC : Hid (∀ h : at0 + k < (bs l).size, bits BinOp.or IntKind.u64 (IntKind.u64.wrap ((x : Int) / 256 ^ (s - k) * 256)) (IntKind.u64.wrap (((bs l)[at0 + k]'h).toNat : Int)) = ((x / 256 ^ (s - (k + 1)) : Nat) : Int)) := fun h => by
    have hb : ((bs l)[at0 + k]'h) = UInt8.ofNat (x / 256 ^ (s - 1 - k)) := by
     have h2 := numB_get x s k hlt
     rw [← HX.out, List.getElem?_take, if_pos hlt, List.getElem?_drop] at h2
     have h3 := bs_get l (at0 + k) h
     rw [h2] at h3
     exact (Option.some.inj h3).symm
    rw [hb, UInt8.toNat_ofNat']
    exact or_num hlt H63.out
   go_wp2_with fail
   go_round
   case rel => exact ⟨k + 1, hlt, by go_num, by rw [HC.out]⟩
   case measure => simp [intOf]; omega
  ·obtain rfl : k = s := by omega
   have hd : decide ((k : Int) < (k : Int)) = false := by simp
   have e0 : x / 256 ^ (k - k) = x := by rw [Nat.sub_self, Nat.pow_zero, Nat.div_one]
   rw [e0]
   have x0 : (0 : Int) ≤ (x : Int) := by omega
   have x1 : (x : Int) ≤ 9223372036854775807 := by have := H63.out; omega
   clear e0
   go_wp2_with fail
   go_ret
   exact ⟨rfl, rfl⟩
structure Grow (w wr : World) (B : Nat) (v : Value) (l : List UInt8) : Prop where
 row : BRow wr B v l
 below : Below B w wr
 le : B ≤ w.heap.size
theorem Grow.size {w wr : World} {B : Nat} {v : Value} {l : List UInt8} (h : Grow w wr B v l) : B ≤ wr.heap.size := Nat.le_trans h.le h.below.size
theorem Grow.next {w wr w2 w3 : World} {B : Nat} {v v3 : Value} {l l3 : List UInt8} (h : Grow w wr B v l) (hb2 : Below wr.heap.size wr w2) (hr3 : BRow w3 B v3 l3) (hb3 : Below B w2 w3) : Grow w w3 B v3 l3 :=
 ⟨hr3, (h.below.trans (hb2.mono h.size)).trans hb3, h.le⟩
theorem Grow.later {w wr w2 : World} {B : Nat} {v : Value} {l : List UInt8} (h : Grow w wr B v l) (hb2 : Below wr.heap.size wr w2) : Grow w w2 B v l :=
 ⟨h.row.grown (Below.to_grown hb2), h.below.trans (hb2.mono h.size), h.le⟩
theorem Grow.start (w : World) (c : UInt8) : Grow w (w.alloc (.cells #[.int .u8 (c.toNat : Int)] 5)) w.heap.size (.slice (some ⟨w.heap.size, 0, none⟩) 1 1) [c] := by
 refine ⟨?_, grown_below0 (World.grownBy_alloc w _ none) (Nat.le_refl _), Nat.le_refl _⟩
 exact World.ownsRow_lit (base := w.heap.size) (e := 5) (size := 1) w #[.int .u8 (c.toNat : Int)] 1 (Nat.le_refl _) (by decide) rfl
theorem numB_ne {n s : Nat} (h : 0 < s) : numB n s ≠ [] := by
 intro e
 have := numB_length n s
 rw [e] at this
 simp at this
 omega
theorem wpList_append_text {ops : Array Oper} {rest : List Oper} {o : Oper} {a : Act} {w : World} {Q : Exit → Act → World → Prop} (hgd : o.guard = none) (s x : Operand) (ho : o.op = .call { callee := .builtin .append, args := #[s, x], argTypes := #[28, 9] })
  (B : Nat) (v : Value) (l m : List UInt8) (hs : a.eval s = v) (hown : BRow w B v l) (hx : a.eval x = strV m) (hb : l.length + m.length < 100000) (hbase : B ≤ w.heap.size)
  (h : ∀ v' w', BRow w' B v' (l ++ m) → Below B w w' → wpList Tryz.prog ops Q rest (a.put o.dst v') w') : wpList Tryz.prog ops Q (o :: rest) a w := by
 obtain ⟨i0, hi0, he⟩ := Option.map_eq_some_iff.1 info_byte
 simp only [Prod.mk.injEq] at he
 refine Lib.wpList_append_own_string _ hgd s x 28 9 ho B 5 i0 Tryz.underlying28 Tryz.underlying9 hi0 he.1 he.2.1 he.2.2 v l.length (u8s l) hs hown (bs m) hx (by rw [bs_size]; unfold maxLen; omega) (by rw [bs_size]; omega) hbase ?_
 intro v' w' h1 h2 _
 rw [strCells_bs, bs_size] at h1
 refine h v' w' ?_ (hown.below h2 hbase)
 unfold BRow
 rw [List.length_append, u8s_app]
 exact h1
theorem rsum_at2 (A : Option Addr) (l : List UInt8) (n cap B : Nat) (w : World) (hn : l.length = n) (hl : n ≤ 9223372036854775807) (h : Crc.Row8 w B A l) :
  Calls Tryz.prog 33 #[.slice A n cap] w fun e w' => e = .returned (.int .u32 (Crc.u (Crc.sum l))) ∧ w = w' := by
 subst hn; exact Crc.rsum_any A l cap B w hl h
theorem rhead_at (g o f n : Nat) (hg : g < 9223372036854775808) (ho : o < 9223372036854775808) (hf : f < 9223372036854775808) (hn : n < 9223372036854775808) (w : World) :
  Calls Tryz.prog 15 #[.int .i64 (g : Int), .int .i64 (o : Int), .int .i64 (f : Int), .int .i64 (n : Int)] w fun e w' => e = .returned (strV (headB g o f n)) ∧ Below w.heap.size w w' := by
 have HS := Lib.hid (And.intro hg (And.intro ho (And.intro hf hn)))
 clear hg ho hf hn
 have hst := Grow.start w 72
 obtain ⟨B, hB⟩ : ∃ B, B = w.heap.size := ⟨_, rfl⟩
 rw [← hB] at hst
 have HB := Lib.hid hB
 clear hB
 go_enter Tryz.func15, Tryz.ntmps15
 go_wp2_with fail
 obtain ⟨w1, hw1⟩ : ∃ w1, w1 = w.alloc (.cells #[.int .u8 72] 5) := ⟨_, rfl⟩
 have hst : Grow w (w.alloc (.cells #[.int .u8 72] 5)) B (.slice (some ⟨B, 0, none⟩) 1 1) [72] := hst
 rw [← HB.out]
 rw [← hw1] at hst ⊢
 obtain ⟨l1, hl1⟩ : ∃ l : List UInt8, l = [72] := ⟨_, rfl⟩
 rw [← hl1] at hst
 have hn1 : l1.length = 1 := by rw [hl1]; rfl
 have HG1 := Lib.hid hst
 have HN1 := Lib.hid hn1
 have HE1 := Lib.hid hl1
 clear hst hw1 hl1 hn1
 refine (rnum_at g 8 (by decide) HS.out.1 _).mono ?_
 rintro e w2 ⟨v2, rfl, hr2, hb2⟩
 obtain ⟨g2, cap2, rfl, -, -, -, -, hrg⟩ := hr2.some (numB_ne (by decide))
 rw [numB_length]
 have HRG := Lib.hid hrg
 have HL2 := Lib.hid (HG1.out.later hb2)
 have HLN : Hid (l1.length + 8 < 100000000000) := by show _ < _; rw [HN1.out]; omega
 clear hr2 hb2 hrg
 go_wp2_with (first | (at_builtin; refine wpList_append_bytes rfl (.tmp 11) (.tmp 13) rfl B _ l1 (numB g 8) (some ⟨g2, 0, none⟩) 8 cap2 (numB_length _ _) rfl HL2.out.row rfl (.inr ⟨_, 0, rfl, HRG.out⟩) HLN.out HL2.out.size ?_; intro v3 w3 hr3 hb3; have HGR : Hid (Grow w w3 B v3 (l1 ++ numB g 8)) := ⟨hr3, HL2.out.below.trans hb3, HL2.out.le⟩; clear hr3 hb3 HRG HL2 HLN; go_frame) | fail)
 have hgr := HGR.out
 clear HGR
 obtain ⟨l2, hl2⟩ : ∃ l, l = l1 ++ numB g 8 := ⟨_, rfl⟩
 rw [← hl2] at hgr
 have HG2 := Lib.hid hgr
 have hn : l2.length = 9 := by rw [hl2, List.length_append, HN1.out]; simp [numB_length]
 have HN2 := Lib.hid hn
 have HE2 := Lib.hid hl2
 clear hgr hn hl2 HG1 HN1
 refine (rnum_at o 8 (by decide) HS.out.2.1 _).mono ?_
 rintro e w2 ⟨v2, rfl, hr2, hb2⟩
 obtain ⟨g2, cap2, rfl, -, -, -, -, hrg⟩ := hr2.some (numB_ne (by decide))
 rw [numB_length]
 have HRG := Lib.hid hrg
 have HL2 := Lib.hid (HG2.out.later hb2)
 have HLN : Hid (l2.length + 8 < 100000000000) := by show _ < _; rw [HN2.out]; omega
 clear hr2 hb2 hrg
 go_wp2_with (first | (at_builtin; refine wpList_append_bytes rfl (.tmp 15) (.tmp 17) rfl B _ l2 (numB o 8) (some ⟨g2, 0, none⟩) 8 cap2 (numB_length _ _) rfl HL2.out.row rfl (.inr ⟨_, 0, rfl, HRG.out⟩) HLN.out HL2.out.size ?_; intro v3 w3 hr3 hb3; have HGR : Hid (Grow w w3 B v3 (l2 ++ numB o 8)) := ⟨hr3, HL2.out.below.trans hb3, HL2.out.le⟩; clear hr3 hb3 HRG HL2 HLN; go_frame) | fail)
 have hgr := HGR.out
 clear HGR
 obtain ⟨l3, hl3⟩ : ∃ l, l = l2 ++ numB o 8 := ⟨_, rfl⟩
 rw [← hl3] at hgr
 have HG3 := Lib.hid hgr
 have hn : l3.length = 17 := by rw [hl3, List.length_append, HN2.out]; simp [numB_length]
 have HN3 := Lib.hid hn
 have HE3 := Lib.hid hl3
 clear hgr hn hl3 HG2 HN2
 refine (rnum_at f 8 (by decide) HS.out.2.2.1 _).mono ?_
 rintro e w2 ⟨v2, rfl, hr2, hb2⟩
 obtain ⟨g2, cap2, rfl, -, -, -, -, hrg⟩ := hr2.some (numB_ne (by decide))
 rw [numB_length]
 have HRG := Lib.hid hrg
 have HL2 := Lib.hid (HG3.out.later hb2)
 have HLN : Hid (l3.length + 8 < 100000000000) := by show _ < _; rw [HN3.out]; omega
 clear hr2 hb2 hrg
 go_wp2_with (first | (at_builtin; refine wpList_append_bytes rfl (.tmp 19) (.tmp 21) rfl B _ l3 (numB f 8) (some ⟨g2, 0, none⟩) 8 cap2 (numB_length _ _) rfl HL2.out.row rfl (.inr ⟨_, 0, rfl, HRG.out⟩) HLN.out HL2.out.size ?_; intro v3 w3 hr3 hb3; have HGR : Hid (Grow w w3 B v3 (l3 ++ numB f 8)) := ⟨hr3, HL2.out.below.trans hb3, HL2.out.le⟩; clear hr3 hb3 HRG HL2 HLN; go_frame) | fail)
 have hgr := HGR.out
 clear HGR
 obtain ⟨l4, hl4⟩ : ∃ l, l = l3 ++ numB f 8 := ⟨_, rfl⟩
 rw [← hl4] at hgr
 have HG4 := Lib.hid hgr
 have hn : l4.length = 25 := by rw [hl4, List.length_append, HN3.out]; simp [numB_length]
 have HN4 := Lib.hid hn
 have HE4 := Lib.hid hl4
 clear hgr hn hl4 HG3 HN3
 refine (rnum_at n 4 (by decide) HS.out.2.2.2 _).mono ?_
 rintro e w2 ⟨v2, rfl, hr2, hb2⟩
 obtain ⟨g2, cap2, rfl, -, -, -, -, hrg⟩ := hr2.some (numB_ne (by decide))
 rw [numB_length]
 have HRG := Lib.hid hrg
 have HL2 := Lib.hid (HG4.out.later hb2)
 have HLN : Hid (l4.length + 4 < 100000000000) := by show _ < _; rw [HN4.out]; omega
 clear hr2 hb2 hrg
 go_wp2_with (first | (at_builtin; refine wpList_append_bytes rfl (.tmp 23) (.tmp 25) rfl B _ l4 (numB n 4) (some ⟨g2, 0, none⟩) 4 cap2 (numB_length _ _) rfl HL2.out.row rfl (.inr ⟨_, 0, rfl, HRG.out⟩) HLN.out HL2.out.size ?_; intro v3 w3 hr3 hb3; have HGR : Hid (Grow w w3 B v3 (l4 ++ numB n 4)) := ⟨hr3, HL2.out.below.trans hb3, HL2.out.le⟩; clear hr3 hb3 HRG HL2 HLN; go_frame) | fail)
 have hgr := HGR.out
 clear HGR
 obtain ⟨l5, hl5⟩ : ∃ l, l = l4 ++ numB n 4 := ⟨_, rfl⟩
 rw [← hl5] at hgr
 have HG5 := Lib.hid hgr
 have hn : l5.length = 29 := by rw [hl5, List.length_append, HN4.out]; simp [numB_length]
 have HN5 := Lib.hid hn
 have HE5 := Lib.hid hl5
 clear hgr hn hl5 HG4 HN4
 obtain ⟨gq, capq, hvq, hq1, hq2, hq3, hq4, hrq⟩ := HG5.out.row.some (by intro e; have := HN5.out; rw [e] at this; cases this)
 rw [HN5.out] at hvq hq1
 subst hvq
 have hlo := Crc.u_lo (Crc.sum l5)
 have hhi := Crc.u_hi (Crc.sum l5)
 have HRQ := Lib.hid (row8_of hrq)
 clear hrq hq1 hq2 hq3 hq4
 refine (rsum_at2 _ l5 29 capq (gq + 1) _ HN5.out (by decide) HRQ.out).mono ?_
 rintro e w2 ⟨rfl, rfl⟩
 go_wp2_with fail
 refine (rnum_at (Crc.sum l5).toNat 4 (by decide) (by have := (Crc.sum l5).isLt; omega) _).mono ?_
 rintro e w2 ⟨v2, rfl, hr2, hb2⟩
 obtain ⟨g2, cap2, rfl, -, -, -, -, hrg⟩ := hr2.some (numB_ne (by decide))
 rw [numB_length]
 have HRG := Lib.hid hrg
 have HL2 := Lib.hid (HG5.out.later hb2)
 have HLN : Hid (l5.length + 4 < 100000000000) := by show _ < _; rw [HN5.out]; omega
 clear hr2 hb2 hrg
 go_wp2_with (first | (at_builtin; refine wpList_append_bytes rfl (.tmp 27) (.tmp 31) rfl B _ l5 (numB (Crc.sum l5).toNat 4) (some ⟨g2, 0, none⟩) 4 cap2 (numB_length _ _) rfl HL2.out.row rfl (.inr ⟨_, 0, rfl, HRG.out⟩) HLN.out HL2.out.size ?_; intro v3 w3 hr3 hb3; have HGR : Hid (Grow w w3 B v3 (l5 ++ numB (Crc.sum l5).toNat 4)) := ⟨hr3, HL2.out.below.trans hb3, HL2.out.le⟩; clear hr3 hb3 HRG HL2 HLN; go_frame) | fail)
 have hgr := HGR.out
 clear HGR
 obtain ⟨l6, hl6⟩ : ∃ l, l = l5 ++ numB (Crc.sum l5).toNat 4 := ⟨_, rfl⟩
 rw [← hl6] at hgr
 have HG6 := Lib.hid hgr
 have hn : l6.length = 33 := by rw [hl6, List.length_append, HN5.out]; simp [numB_length]
 have HN6 := Lib.hid hn
 have HE6 := Lib.hid hl6
 clear hgr hn hl6 HG5 HN5
 refine (rfull_at B _ l6 128 _ HG6.out.row (by rw [HN6.out]; decide) (by decide) HG6.out.size).mono ?_
 rintro e w2 ⟨v2, rfl, hr2, hb2⟩
 have hb3 := HG6.out.below.trans hb2
 have hL : l6 ++ List.replicate (128 - l6.length) 0 = headB g o f n := by rw [HN6.out, HE6.out, HE5.out, HE4.out, HE3.out, HE2.out, HE1.out]; simp [headB, sealB, headL, numB_length]
 rw [hL] at hr2
 obtain ⟨g2, cap2, rfl, -, -, -, -, hrg⟩ := hr2.some (by intro e; have := headB_length g o f n; rw [e] at this; cases this)
 have hcv := run_string w2 g2 0 (headB g o f n) cap2 hrg
 rw [headB_length] at hcv ⊢
 have HB3 := Lib.hid hb3
 clear hr2 hb2 hL hrg hb3 HG6
 go_wp2_with fail
 go_ret
 exact ⟨rfl, by rw [← HB.out]; exact HB3.out⟩
def secL (c : UInt8) (s k : Nat) (l : List UInt8) (q : Nat) : List (List UInt8) := (List.range q).map fun i => partB c s k i (parts l.length) (chunk l i)
def secV (c : UInt8) (s k : Nat) (l : List UInt8) (q : Nat) : List Value := (secL c s k l q).map strV
theorem secV_succ (c : UInt8) (s k : Nat) (l : List UInt8) (q : Nat) : secV c s k l (q + 1) = secV c s k l q ++ [strV (partB c s k q (parts l.length) (chunk l q))] := by simp [secV, secL, List.range_succ]
theorem secV_length (c : UInt8) (s k : Nat) (l : List UInt8) (q : Nat) : (secV c s k l q).length = q := by simp [secV, secL]
theorem extract_chunk (l : List UInt8) (i m : Nat) (hm : m = min l.length ((i + 1) * 102)) : (bs l).extract (i * 102) m = bs (chunk l i) := by
 apply ByteArray.ext
 rw [ByteArray.data_extract]
 show ((l.toArray).extract (i * 102) m) = (chunk l i).toArray
 apply Array.toList_inj.1
 rw [Array.toList_extract, List.extract_eq_take_drop, hm]
 unfold chunk
 show List.take (min l.length ((i + 1) * 102) - i * 102) (List.drop (i * 102) l) = List.take 102 (List.drop (i * 102) l)
 by_cases h : (i + 1) * 102 ≤ l.length
 ·rw [Nat.min_eq_right h]
  congr 1
  omega
 ·rw [Nat.min_eq_left (by omega), List.take_of_length_le (by rw [List.length_drop]; exact Nat.le_refl _), List.take_of_length_le (by rw [List.length_drop]; omega)]
theorem rsectors_at (c : UInt8) (s k : Nat) (l : List UInt8) (hs : s < 9223372036854775808) (hk : k < 9223372036854775808) (hl : l.length < 6000000) (w : World) :
  Calls Tryz.prog 16 #[.int .u8 (c.toNat : Int), .int .i64 (s : Int), .int .i64 (k : Int), strV l] w fun e w' => ∃ v', e = .returned v' ∧ StrRow w' w.heap.size v' (secV c s k l (parts l.length)) ∧ Below w.heap.size w w' := by
 have HS := Lib.hid (And.intro hs hk)
 have HLN := Lib.hid hl
 obtain ⟨n, hn⟩ : ∃ n, n = parts l.length := ⟨_, rfl⟩
 have hnp : n < 60000 := by rw [hn]; unfold parts; omega
 have HNN := Lib.hid hn
 have HSZ : Hid ((bs l).size = l.length) := bs_size l
 rw [← hn]
 clear hs hk hn hl
 obtain ⟨B0, hB0⟩ : ∃ B, B = w.heap.size := ⟨_, rfl⟩
 rw [← hB0]
 have HB0 : Hid (B0 ≤ w.heap.size) := by show _ ≤ _; omega
 clear hB0
 obtain ⟨len, hlen⟩ : ∃ m, m = (bs l).size := ⟨_, rfl⟩
 have HLEN := Lib.hid hlen
 have hlb : len < 6000000 := by rw [hlen, HSZ.out]; exact HLN.out
 have hpp : ∀ w, Calls Tryz.prog 35 #[.int .i64 (len : Int)] w fun e w' => e = .returned (.int .i64 (n : Int)) ∧ w = w' := fun w => by rw [HNN.out, hlen, HSZ.out]; exact rparts_at _ (by have := HLN.out; omega) w
 have HPP := Lib.hid hpp
 clear hpp
 go_enter Tryz.func16, Tryz.ntmps16
 go_wp2_with fail
 rw [← HLEN.out]
 refine (HPP.out _).mono ?_
 rintro e w' ⟨rfl, rfl⟩
 clear hlen
 go_wp2_with fail
 go_loopw [9, 11] (fun u i wr => ∃ q : Nat, q ≤ n ∧ i = .int .i64 (q : Int) ∧ StrRow wr B0 u (secV c s k l q) ∧ Below B0 w wr) (fun _ i _ => n - (intOf i).toNat)
 case atStart => exact ⟨0, Nat.zero_le _, rfl, World.ownsRow_nil _ _ _ _, Below.refl _ _⟩
 case round =>
  obtain ⟨q, hq, rfl, hrow, hb⟩ := hrel
  have HROW := Lib.hid hrow
  have HBL := Lib.hid hb
  have HBS : Hid (B0 ≤ wr.heap.size) := Nat.le_trans HB0.out hb.size
  clear hrow hb
  by_cases hlt : q < n
  ·have hd : decide ((q : Int) < (n : Int)) = true := by simp; omega
   have HX : Hid ((bs l).extract (q * 102) (min ((bs l).size : Int) (((q : Int) + 1) * 102)).toNat = bs (chunk l q)) := extract_chunk l q _ (by rw [HSZ.out]; omega)
   have hqm : (q : Int) * 102 ≤ ((bs l).size : Int) := by have h1 := HNN.out; have h2 := parts_in (n := l.length) (i := q) (by omega); have h4 := HSZ.out; rw [h4]; omega
   have hl6 : ((bs l).size : Int) < 6000000 := by have := HLEN.out; omega
   have q0 : (0 : Int) ≤ (q : Int) := by omega
   have q1 : (q : Int) ≤ 60000 := by omega
   have hst := Grow.start wr c
   obtain ⟨B, hB⟩ : ∃ B, B = wr.heap.size := ⟨_, rfl⟩
   rw [← hB] at hst
   have HB := Lib.hid hB
   clear hB
   go_wp2_with fail
   rw [HX.out, ← HB.out]
   have hxl : (chunk l q).length ≤ 102 := chunk_le l q
   obtain ⟨x, hx⟩ : ∃ x, x = chunk l q := ⟨_, rfl⟩
   rw [← hx] at hxl ⊢
   have HXX := Lib.hid hx
   have HXL : Hid ((bs x).size = x.length) := bs_size x
   obtain ⟨xn, hxn⟩ : ∃ n, n = x.length := ⟨_, rfl⟩
   have HXN := Lib.hid hxn
   rw [← hxn] at hxl
   clear hx hxn HX hqm hl6
   obtain ⟨w1, hw1⟩ : ∃ w1, w1 = wr.alloc (.cells #[.int .u8 (c.toNat : Int)] 5) := ⟨_, rfl⟩
   rw [← hw1] at hst ⊢
   obtain ⟨l1, hl1⟩ : ∃ l : List UInt8, l = [c] := ⟨_, rfl⟩
   rw [← hl1] at hst
   have hn1 : l1.length = 1 := by rw [hl1]; rfl
   have HG1 := Lib.hid hst
   have HN1 := Lib.hid hn1
   have HE1 := Lib.hid hl1
   clear hst hw1 hl1 hn1
   refine (rnum_at s 8 (by decide) HS.out.1 _).mono ?_
   rintro e w2 ⟨v2, rfl, hr2, hb2⟩
   obtain ⟨g2, cap2, rfl, -, -, -, -, hrg⟩ := hr2.some (numB_ne (by decide))
   rw [numB_length]
   have HRG := Lib.hid hrg
   have HL2 := Lib.hid (HG1.out.later hb2)
   have HLN : Hid (l1.length + 8 < 100000000000) := by show _ < _; rw [HN1.out]; omega
   clear hr2 hb2 hrg
   go_wp2_with (first | (at_builtin; refine wpList_append_bytes rfl (.tmp 34) (.tmp 36) rfl B _ l1 (numB s 8) (some ⟨g2, 0, none⟩) 8 cap2 (numB_length _ _) rfl HL2.out.row rfl (.inr ⟨_, 0, rfl, HRG.out⟩) HLN.out HL2.out.size ?_; intro v3 w3 hr3 hb3; have HGR : Hid (Grow wr w3 B v3 (l1 ++ numB s 8)) := ⟨hr3, HL2.out.below.trans hb3, HL2.out.le⟩; clear hr3 hb3 HRG HL2 HLN; go_frame) | fail)
   have hgr := HGR.out
   clear HGR
   obtain ⟨l2, hl2⟩ : ∃ l, l = l1 ++ numB s 8 := ⟨_, rfl⟩
   rw [← hl2] at hgr
   have HG2 := Lib.hid hgr
   have hn : l2.length = 9 := by rw [hl2, List.length_append, HN1.out]; simp [numB_length]
   have HN2 := Lib.hid hn
   have HE2 := Lib.hid hl2
   clear hgr hn hl2 HG1 HN1
   refine (rnum_at k 8 (by decide) HS.out.2 _).mono ?_
   rintro e w2 ⟨v2, rfl, hr2, hb2⟩
   obtain ⟨g2, cap2, rfl, -, -, -, -, hrg⟩ := hr2.some (numB_ne (by decide))
   rw [numB_length]
   have HRG := Lib.hid hrg
   have HL2 := Lib.hid (HG2.out.later hb2)
   have HLN : Hid (l2.length + 8 < 100000000000) := by show _ < _; rw [HN2.out]; omega
   clear hr2 hb2 hrg
   go_wp2_with (first | (at_builtin; refine wpList_append_bytes rfl (.tmp 38) (.tmp 40) rfl B _ l2 (numB k 8) (some ⟨g2, 0, none⟩) 8 cap2 (numB_length _ _) rfl HL2.out.row rfl (.inr ⟨_, 0, rfl, HRG.out⟩) HLN.out HL2.out.size ?_; intro v3 w3 hr3 hb3; have HGR : Hid (Grow wr w3 B v3 (l2 ++ numB k 8)) := ⟨hr3, HL2.out.below.trans hb3, HL2.out.le⟩; clear hr3 hb3 HRG HL2 HLN; go_frame) | fail)
   have hgr := HGR.out
   clear HGR
   obtain ⟨l3, hl3⟩ : ∃ l, l = l2 ++ numB k 8 := ⟨_, rfl⟩
   rw [← hl3] at hgr
   have HG3 := Lib.hid hgr
   have hn : l3.length = 17 := by rw [hl3, List.length_append, HN2.out]; simp [numB_length]
   have HN3 := Lib.hid hn
   have HE3 := Lib.hid hl3
   clear hgr hn hl3 HG2 HN2
   refine (rnum_at q 2 (by decide) (by omega) _).mono ?_
   rintro e w2 ⟨v2, rfl, hr2, hb2⟩
   obtain ⟨g2, cap2, rfl, -, -, -, -, hrg⟩ := hr2.some (numB_ne (by decide))
   rw [numB_length]
   have HRG := Lib.hid hrg
   have HL2 := Lib.hid (HG3.out.later hb2)
   have HLN : Hid (l3.length + 2 < 100000000000) := by show _ < _; rw [HN3.out]; omega
   clear hr2 hb2 hrg
   go_wp2_with (first | (at_builtin; refine wpList_append_bytes rfl (.tmp 42) (.tmp 44) rfl B _ l3 (numB q 2) (some ⟨g2, 0, none⟩) 2 cap2 (numB_length _ _) rfl HL2.out.row rfl (.inr ⟨_, 0, rfl, HRG.out⟩) HLN.out HL2.out.size ?_; intro v3 w3 hr3 hb3; have HGR : Hid (Grow wr w3 B v3 (l3 ++ numB q 2)) := ⟨hr3, HL2.out.below.trans hb3, HL2.out.le⟩; clear hr3 hb3 HRG HL2 HLN; go_frame) | fail)
   have hgr := HGR.out
   clear HGR
   obtain ⟨l4, hl4⟩ : ∃ l, l = l3 ++ numB q 2 := ⟨_, rfl⟩
   rw [← hl4] at hgr
   have HG4 := Lib.hid hgr
   have hn : l4.length = 19 := by rw [hl4, List.length_append, HN3.out]; simp [numB_length]
   have HN4 := Lib.hid hn
   have HE4 := Lib.hid hl4
   clear hgr hn hl4 HG3 HN3
   refine (rnum_at n 2 (by decide) (by omega) _).mono ?_
   rintro e w2 ⟨v2, rfl, hr2, hb2⟩
   obtain ⟨g2, cap2, rfl, -, -, -, -, hrg⟩ := hr2.some (numB_ne (by decide))
   rw [numB_length]
   have HRG := Lib.hid hrg
   have HL2 := Lib.hid (HG4.out.later hb2)
   have HLN : Hid (l4.length + 2 < 100000000000) := by show _ < _; rw [HN4.out]; omega
   clear hr2 hb2 hrg
   have hxb : (UInt8.ofNat xn).toNat = (bs x).size := by rw [UInt8.toNat_ofNat', HXL.out, ← HXN.out]; omega
   have hxi : (0 : Int) ≤ ((bs x).size : Int) := by omega
   have hxj : ((bs x).size : Int) ≤ 102 := by rw [HXL.out, ← HXN.out]; omega
   have HXB := Lib.hid hxb
   have HN4b : Hid (l4.length = 19 ∧ x.length ≤ 102) := ⟨HN4.out, by rw [← HXN.out]; exact hxl⟩
   clear hxb
   go_wp2_with (first
    | (at_builtin; refine wpList_append_bytes rfl (.tmp 46) (.tmp 48) rfl B _ l4 (numB n 2) (some ⟨g2, 0, none⟩) 2 cap2 (numB_length _ _) rfl HL2.out.row rfl (.inr ⟨_, 0, rfl, HRG.out⟩) HLN.out HL2.out.size ?_; intro v3 w3 hr3 hb3; have HGR : Hid (Grow wr w3 B v3 (l4 ++ numB n 2)) := ⟨hr3, HL2.out.below.trans hb3, HL2.out.le⟩; clear hr3 hb3 HRG HL2 HLN; go_frame)
    | (at_builtin; refine wpList_append_bytes rfl (.tmp 50) (.tmp 54) rfl B _ (l4 ++ numB n 2) [UInt8.ofNat xn] (some ⟨w3.heap.size, 0, none⟩) 1 1 rfl rfl (HGR.out.row.grown (World.grownBy_alloc w3 _ none)) rfl (.inr ⟨_, 0, rfl, range_blk (MapKept.heap_alloc w3 _).1 (by simp only [u8s, List.map, HXB.out])⟩) (by rw [List.length_append, numB_length, HN4b.out.1]; decide) (Nat.le_trans HGR.out.size (World.grownBy_alloc w3 _ none).size) ?_; intro v4 w4 hr4 hb4; have HGS : Hid (Grow wr w4 B v4 (l4 ++ numB n 2 ++ [UInt8.ofNat xn])) := ⟨hr4, (HGR.out.below.trans (grown_below0 (World.grownBy_alloc w3 _ none) HGR.out.size)).trans hb4, HGR.out.le⟩; clear hr4 hb4; go_frame)
    | (at_builtin; refine wpList_append_text rfl (.tmp 56) (.tmp 57) rfl B _ (l4 ++ numB n 2 ++ [UInt8.ofNat xn]) x rfl HGS.out.row rfl (by rw [List.length_append, List.length_append, numB_length, HN4b.out.1]; have := HN4b.out.2; simp; omega) HGS.out.size ?_; intro v5 w5 hr5 hb5; have HGT : Hid (Grow wr w5 B v5 (l4 ++ numB n 2 ++ [UInt8.ofNat xn] ++ x)) := ⟨hr5, HGS.out.below.trans hb5, HGS.out.le⟩; clear hr5 hb5; go_frame)
    | fail)
   obtain ⟨l5, hl5⟩ : ∃ l, l = l4 ++ numB n 2 ++ [UInt8.ofNat xn] ++ x := ⟨_, rfl⟩
   have hgt := HGT.out
   rw [← hl5] at hgt
   have hn5 : l5.length = 22 + xn := by rw [hl5]; simp only [List.length_append, numB_length, List.length_cons, List.length_nil, HN4b.out.1, ← HXN.out]
   have HG5 := Lib.hid hgt
   have HE5 := Lib.hid hl5
   have HN5 := Lib.hid hn5
   clear hgt hl5 hn5 HGT HGS HGR HG4 hxi hxj
   refine (rfull_at B _ l5 124 _ HG5.out.row (by rw [HN5.out]; omega) (by decide) HG5.out.size).mono ?_
   rintro e w6 ⟨v6, rfl, hr6, hb6⟩
   have hL : l5 ++ List.replicate (124 - l5.length) 0 = partL c s k q n x := by rw [HN5.out, HE5.out, HE4.out, HE3.out, HE2.out, HE1.out, HXN.out]; simp only [partL]; rw [show 124 - (22 + x.length) = 102 - x.length by omega]
   rw [hL] at hr6
   have hp1 : (partL c s k q n x).length = 124 := partL_length _ _ _ _ _ _ (by rw [← HXN.out]; exact hxl)
   have hp2 : partL c s k q n x ≠ [] := by intro e; rw [e] at hp1; cases hp1
   obtain ⟨P, hP⟩ : ∃ P, P = partB c s k q n x := ⟨_, rfl⟩
   have hp3 : P.length = 128 := by rw [hP]; exact partB_length _ _ _ _ _ _ (by rw [← HXN.out]; exact hxl)
   have hp4 : P = partL c s k q n x ++ numB (Crc.sum (partL c s k q n x)).toNat 4 := by rw [hP, partB, sealB, hp1]; simp
   obtain ⟨l6, hl6⟩ : ∃ l, l = partL c s k q n x := ⟨_, rfl⟩
   rw [← hl6] at hr6 hp1 hp2 hp4
   have hg6 : Grow wr w6 B v6 l6 := ⟨hr6, HG5.out.below.trans hb6, HG5.out.le⟩
   have HG6 := Lib.hid hg6
   have HN6 := Lib.hid hp1
   have HP := Lib.hid hP
   have HPL := Lib.hid hp3
   have HPE := Lib.hid hp4
   clear hL hr6 hb6 hp1 hp2 hp3 hp4 hP hl6 hg6 HG5
   go_wp2_with fail
   obtain ⟨gq, capq, hvq, hq1, hq2, hq3, hq4, hrq⟩ := HG6.out.row.some (by intro e; have := HN6.out; rw [e] at this; cases this)
   rw [HN6.out] at hvq hq1
   subst hvq
   have hlo := Crc.u_lo (Crc.sum l6)
   have hhi := Crc.u_hi (Crc.sum l6)
   have HRQ := Lib.hid (row8_of hrq)
   clear hrq hq1 hq2 hq3 hq4
   refine (rsum_at2 _ l6 124 capq (gq + 1) _ HN6.out (by decide) HRQ.out).mono ?_
   rintro e w2 ⟨rfl, rfl⟩
   go_wp2_with fail
   refine (rnum_at (Crc.sum l6).toNat 4 (by decide) (by have := (Crc.sum l6).isLt; omega) _).mono ?_
   rintro e w2 ⟨v2, rfl, hr2, hb2⟩
   obtain ⟨g2, cap2, rfl, -, -, -, -, hrg⟩ := hr2.some (numB_ne (by decide))
   rw [numB_length]
   have HRG := Lib.hid hrg
   have HL2 := Lib.hid (HG6.out.later hb2)
   have HLN : Hid (l6.length + 4 < 100000000000) := by show _ < _; rw [HN6.out]; omega
   clear hr2 hb2 hrg
   have HSR : Hid (∀ v : World, Below wr.heap.size wr v → StrRow v B0 u9 (secV c s k l q)) := fun v hv => Sec.row_off HROW.out (Off.of_grown (Below.to_grown hv) (S := fun _ => False) (by simp)) (by simp)
   go_wp2_with (first
    | (at_builtin; refine wpList_append_bytes rfl (.tmp 61) (.tmp 65) rfl B _ l6 (numB (Crc.sum l6).toNat 4) (some ⟨g2, 0, none⟩) 4 cap2 (numB_length _ _) rfl HL2.out.row rfl (.inr ⟨_, 0, rfl, HRG.out⟩) HLN.out HL2.out.size ?_; intro v7 w7 hr7 hb7; rw [← HPE.out] at hr7; have hgp : Grow wr w7 B v7 P := ⟨hr7, HL2.out.below.trans hb7, HL2.out.le⟩; have HGP := Lib.hid hgp; obtain ⟨g7, cap7, hv7, -, -, -, -, hrg7⟩ := hr7.some (by intro e; have := HPL.out; rw [e] at this; cases this); have hcv := run_string w7 g7 0 P cap7 hrg7; rw [HPL.out] at hcv hv7; subst hv7; clear hr7 hb7 hgp hrg7 HRG HL2 HLN; go_frame)
    | (at_builtin; refine wpList_append_str rfl (.tmp 67) (.tmp 70) rfl B0 _ (secV c s k l q) (strV P) rfl rfl (HSR.out _ (by rw [← HB.out]; exact HGP.out.below.trans (grown_below0 (World.grownBy_alloc w7 _ none) HGP.out.size))) w7.heap.size rfl (cell_new w7 (strV P) 9) (by rw [secV_length]; omega) (Nat.le_trans HBS.out (Nat.le_trans (by rw [← HB.out]; exact HGP.out.size) (World.grownBy_alloc w7 _ none).size)) ?_; intro v9 w9 h9 hg9; go_frame)
    | fail)
   go_roundw
   case rel => exact ⟨q + 1, hlt, by go_num, by rw [secV_succ, ← HNN.out, ← HXX.out, ← HP.out]; exact h9, (HBL.out.trans ((by have h1 := HGP.out.below; rw [HB.out] at h1; exact h1.mono HBS.out : Below B0 wr w7).trans (grown_below0 (World.grownBy_alloc w7 _ none) (Nat.le_trans HBS.out (by have h1 := HGP.out.size; rw [HB.out] at h1; exact h1))))).trans ⟨hg9.os, hg9.tape, hg9.output, hg9.size, fun b hb => hg9.block b (by have h1 := HBS.out; have h2 := HGP.out.size; rw [HB.out] at h2; rw [World.size_alloc]; omega) (fun e => by have h1 := (World.ownsRow.lt HROW.out b e.symm).1; omega)⟩⟩
   case measure => simp [intOf]; omega
  ·obtain rfl : q = n := by omega
   have hd : decide ((q : Int) < (q : Int)) = false := by simp
   go_wp2_with fail
   go_ret
   exact ⟨_, rfl, HROW.out, HBL.out⟩
end Go.Proofs.YtgdedgfohjplmaaGreat.Jnl
namespace Go.Proofs.YtgdedgfohjplmaaGreat.Jnl
open Go.RowKit Go.Maps Sec Go.Deep Go.ChangeShapes Go.WideShapes
end Go.Proofs.YtgdedgfohjplmaaGreat.Jnl
namespace Go.Proofs.YtgdedgfohjplmaaGreat.Jnl
open Go.RowKit Go.Maps Sec
def findR (n : Nat) : Code → Option (Array Oper)
 | .region id ops _ => if id = n then some ops else none
 | .seq a b => match findR n a with
  | some x => some x
  | none => findR n b
 | .cond _ a b => match findR n a with
  | some x => some x
  | none => findR n b
 | .block _ a => findR n a
 | .loop a => findR n a
 | .scope a => findR n a
 | _ => none
def plainOps : Nat → List Oper → Bool
 | _, [] => true
 | i, o :: r => o.guard.isNone && o.after.toList.all (fun e => decide (e.on < i)) && plainOps (i + 1) r
def Steps (P : Program) (Q : Exit → Act → World → Prop) (I : Array Bool → Act → World → Prop) : Nat → List Oper → Prop
 | _, [] => True
 | i, o :: r => (∀ listed a w K, I listed a w → (∀ e, e ∈ o.after.toList → Region.binds .any e = true → listed.getD e.on false = true) → (∀ a' w', I (listed.setIfInBounds i true) a' w' → K a' w') → Oper.wp P o a w K Q) ∧ Steps P Q I (i + 1) r
theorem plainOps.at_ : ∀ {l : List Oper} {k : Nat}, plainOps k l = true → ∀ i o, l[i]? = some o → o.guard = none ∧ ∀ e, e ∈ o.after.toList → e.on < k + i
 | [], _, _, i, o, h => by simp at h
 | x :: r, k, hp, i, o, h => by
  unfold plainOps at hp
  rw [Bool.and_eq_true, Bool.and_eq_true] at hp
  obtain ⟨⟨h1, h2⟩, h3⟩ := hp
  cases i with
  | zero =>
   have e : x = o := by simpa using h
   subst e
   refine ⟨by simpa using h1, fun e he => ?_⟩
   have := List.all_eq_true.1 h2 e he
   simpa using this
  | succ i =>
   obtain ⟨q1, q2⟩ := plainOps.at_ h3 i o (by simpa using h)
   exact ⟨q1, fun e he => by have := q2 e he; omega⟩
theorem Steps.at_ {P : Program} {Q : Exit → Act → World → Prop} {I : Array Bool → Act → World → Prop} : ∀ {l : List Oper} {k : Nat}, Steps P Q I k l → ∀ i o, l[i]? = some o → (∀ listed a w K, I listed a w → (∀ e, e ∈ o.after.toList → Region.binds .any e = true → listed.getD e.on false = true) → (∀ a' w', I (listed.setIfInBounds (k + i) true) a' w' → K a' w') → Oper.wp P o a w K Q)
 | [], _, _, i, o, h => by simp at h
 | x :: r, k, hs, i, o, h => by
  unfold Steps at hs
  cases i with
  | zero =>
   have e : x = o := by simpa using h
   subst e
   exact hs.1
  | succ i =>
   have := Steps.at_ hs.2 i o (by simpa using h)
   rwa [show k + 1 + i = k + (i + 1) by omega] at this
def unl (l : Array Bool) : Nat := l.toList.countP (fun b => !b)
theorem unl_set {l : Array Bool} {i : Nat} (h : l.getD i true = false) : unl (l.setIfInBounds i true) + 1 = unl l := by
 have hi : i < l.size := by
  rcases Nat.lt_or_ge i l.size with q | q
  ·exact q
  ·simp [Array.getElem?_eq_none q] at h
 have hv : l[i] = false := by simpa [hi] using h
 unfold unl
 rw [Array.toList_setIfInBounds, List.countP_set (by simpa using hi)]
 have hv2 : l.toList[i] = false := by simpa using hv
 have hpos : 0 < List.countP (fun b => !b) l.toList := List.countP_pos_iff.2 ⟨_, List.getElem_mem (by simpa using hi : i < l.toList.length), by rw [hv2]; rfl⟩
 rw [hv2]
 show List.countP (fun b => !b) l.toList - 1 + 0 + 1 = _
 omega
theorem wpAny_inv {P : Program} {ops : Array Oper} {Q : Exit → Act → World → Prop} {I : Array Bool → Act → World → Prop} (hp : plainOps 0 ops.toList = true) (hs : Steps P Q I 0 ops.toList)
  (done : ∀ listed a w, I listed a w → (∀ i, i < ops.size → listed.getD i false = true) → Q .normal a w) :
  ∀ fuel listed a w, unl listed ≤ fuel → listed.size = ops.size → I listed a w → wpAny P .any ops Q fuel listed a w := by
 have hend : ∀ listed : Array Bool, listed.size = ops.size → Region.ready .any ops listed = [] → ∀ i, i < ops.size → listed.getD i false = true := by
  intro listed hsz hr i
  induction i using Nat.strongRecOn with
  | ind i ih =>
   intro hi
   have ho : ops.toList[i]? = some ops[i] := by simp [hi]
   have hl : i < listed.size := by omega
   cases hg : listed.getD i true with
   | true => simpa [hl] using hg
   | false =>
    have hm : i ∈ Region.ready .any ops listed := mem_ready.2 ⟨hg, ops[i], by simp [hi], fun e he _ => by
     have h1 := (plainOps.at_ hp i _ ho).2 e (by simpa using he)
     exact ih e.on (by omega) (by omega)⟩
    rw [hr] at hm
    cases hm
 intro fuel
 induction fuel with
 | zero =>
  intro listed a w hf hsz hI
  have hr : Region.ready .any ops listed = [] := by
   apply List.eq_nil_iff_forall_not_mem.2
   intro i hi
   have := unl_set (mem_ready.1 hi).1
   omega
  exact ⟨hr, done _ _ _ hI (hend listed hsz hr)⟩
 | succ fuel ih =>
  intro listed a w hf hsz hI
  refine ⟨fun hr => done _ _ _ hI (hend listed hsz hr), fun i hi => ?_⟩
  obtain ⟨h0, o, ho, hall⟩ := mem_ready.1 hi
  have hol : ops.toList[i]? = some o := by simpa using ho
  have hg := (plainOps.at_ hp i o hol).1
  unfold wpOp
  rw [ho]
  simp only [Region.wanted, hg, if_true]
  refine .inl (Steps.at_ hs i o hol listed a w _ hI (fun e he hb => hall e (by simpa using he) hb) (fun a' w' h => ?_))
  rw [Nat.zero_add] at h
  have := unl_set h0
  exact ih _ a' w' (by omega) (by simpa using hsz) h
structure Stay (B : Nat) (w w' : World) : Prop where
 off : Off (fun b => B ≤ b) w w'
 cell : ∀ (a : Addr) v, w.cell? a = some v → w'.cell? a = some v
 shape : ∀ b s, w.shape? b = some s → w'.shape? b = some s
theorem Stay.of_off {B : Nat} {w w' : World} (h : Off (fun _ => False) w w') : Stay B w w' := by
 refine ⟨h.mono (fun _ _ q => q.elim), fun a v hc => ?_, fun b s hs => ?_⟩
 ·exact (World.cell?_of_block (h.block a.block (World.block_lt_of_cell? w _ hc) (fun q => q))).trans hc
 ·have hb : b < w.heap.size := by
   rcases Nat.lt_or_ge b w.heap.size with q | q
   ·exact q
   ·simp [World.shape?, Array.getElem?_eq_none q] at hs
  rw [← hs]
  unfold World.shape?
  rw [h.block b hb (fun q => q)]
theorem Stay.refl (B : Nat) (w : World) : Stay B w w := .of_off (Off.refl _ _)
theorem freeze_at (w : World) (g n b : Nat) : (w.freeze ⟨g, n, none⟩ 1).heap[b]? = w.heap[b]? ∨ ∃ c e f f', w.heap[b]? = some (.cells c e f) ∧ (w.freeze ⟨g, n, none⟩ 1).heap[b]? = some (.cells c e f') := by
 unfold World.freeze
 rw [if_neg (by decide)]
 show (w.heap.modify g _)[b]? = _ ∨ ∃ c e f f', _ ∧ (w.heap.modify g _)[b]? = _
 rw [Array.getElem?_modify]
 by_cases hgb : g = b
 ·rw [if_pos hgb]
  cases w.heap[b]? with
  | none => exact .inl rfl
  | some o =>
   cases o with
   | cells c e f => exact .inr ⟨c, e, f, _, rfl, rfl⟩
   | _ => exact .inl rfl
 ·rw [if_neg hgb]
  exact .inl rfl
theorem stay_freeze {B : Nat} {w : World} (g n : Nat) (hg : B ≤ g) : Stay B w (w.freeze ⟨g, n, none⟩ 1) := by
 refine ⟨⟨?_, ?_, ?_, ?_, fun k _ hk => ?_⟩, fun a v hc => ?_, fun b s hs => ?_⟩
 ·unfold World.freeze; rw [if_neg (by decide)]
 ·unfold World.freeze; rw [if_neg (by decide)]
 ·unfold World.freeze; rw [if_neg (by decide)]
 ·unfold World.freeze; rw [if_neg (by decide)]; simp
 ·unfold World.freeze
  rw [if_neg (by decide)]
  show (w.heap.modify g _)[k]? = _
  rw [Array.getElem?_modify, if_neg (by omega)]
 ·rw [← hc]
  unfold World.cell?
  rcases freeze_at w g n a.block with e | ⟨c, e, f, f', e1, e2⟩
  ·rw [e]
  ·rw [e1, e2]
 ·rw [← hs]
  unfold World.shape?
  rcases freeze_at w g n b with e | ⟨c, e, f, f', e1, e2⟩
  ·rw [e]
  ·rw [e1, e2]
inductive Sp where
 | raw (l : List UInt8)
 | byt (l : List UInt8)
 | call (c : CallJ)
 | str (l : List UInt8)
 | strs (l : List UInt8)
 | sptr (l : List UInt8)
 | rows (l : List CallJ)
def Sp.Ok (B : Nat) (w : World) (v : Value) : Sp → Prop
 | .raw l => ∃ g, v = .slice (some ⟨g, 0, none⟩) l.length l.length ∧ B ≤ g ∧ g < w.heap.size ∧ w.rangeAt g 0 (u8s l) ∧ w.shape? g = some (5, l.length) ∧ l.length ≤ maxLen
 | .byt l => ∃ A cap, v = .slice A l.length cap ∧ Arg0 w w A l cap ∧ l.length ≤ cap ∧ cap ≤ maxLen
 | .call c => ∃ A cap, v = .agg #[.int .u8 (c.k.toNat : Int), .slice A c.b.length cap, .int .i64 c.z] ∧ Arg0 w w A c.b cap ∧ c.b.length ≤ cap ∧ cap ≤ maxLen
 | .str l => v = strV l
 | .strs l => ∃ g off cap, v = .slice (some ⟨g, off, none⟩) 1 cap ∧ w.cell? ⟨g, off, none⟩ = some (strV l)
 | .sptr l => ∃ g off, v = .pointer (some ⟨g, off, none⟩) ∧ w.cell? ⟨g, off, none⟩ = some (strV l)
 | .rows l => ∃ A cap, v = .slice A l.length cap ∧ CJs w w A l ∧ l.length ≤ cap ∧ cap ≤ maxLen
theorem Arg0.stay {B : Nat} {w w' : World} {A : Option Addr} {l : List UInt8} {cap : Nat} (h : Arg0 w w A l cap) (ho : Stay B w w') : Arg0 w' w' A l cap :=
 h.imp id (fun ⟨g, off, e, h1, h2, h3⟩ => ⟨g, off, e, Nat.lt_of_lt_of_le h1 ho.off.size, Nat.lt_of_lt_of_le h2 ho.off.size, fun j v hj => ho.cell _ _ (h3 j v hj)⟩)
theorem CJs.stay {B : Nat} {w w' : World} {A : Option Addr} {l : List CallJ} (h : CJs w w A l) (ho : Stay B w w') : CJs w' w' A l := by
 rcases h with h | ⟨g, off, h1, h2, h3⟩
 ·exact .inl h
 ·refine .inr ⟨g, off, h1, Nat.lt_of_lt_of_le h2 ho.off.size, fun j c hj => ?_⟩
  obtain ⟨c1, A, cap, c2, c3, c4, c5⟩ := h3 j c hj
  exact ⟨ho.cell _ _ c1, A, cap, ho.cell _ _ c2, ho.cell _ _ c3, c4.stay ho, c5⟩
theorem Sp.Ok.stay {B C : Nat} {w w' : World} {v : Value} {s : Sp} (h : s.Ok B w v) (ho : Stay C w w') : s.Ok B w' v := by
 cases s with
 | raw l => obtain ⟨g, e, h1, h2, h3, h4, h5⟩ := h; exact ⟨g, e, h1, Nat.lt_of_lt_of_le h2 ho.off.size, fun j v hj => ho.cell _ _ (h3 j v hj), ho.shape _ _ h4, h5⟩
 | byt l => obtain ⟨A, cap, e, h1, h2⟩ := h; exact ⟨A, cap, e, h1.stay ho, h2⟩
 | call c => obtain ⟨A, cap, e, h1, h2⟩ := h; exact ⟨A, cap, e, h1.stay ho, h2⟩
 | str l => exact h
 | strs l => obtain ⟨g, off, cap, e, h1⟩ := h; exact ⟨g, off, cap, e, ho.cell _ _ h1⟩
 | sptr l => obtain ⟨g, off, e, h1⟩ := h; exact ⟨g, off, e, ho.cell _ _ h1⟩
 | rows l => obtain ⟨A, cap, e, h1, h2⟩ := h; exact ⟨A, cap, e, h1.stay ho, h2⟩
def dst15 (i : Nat) : Nat := if i = 59 then 17 else 135 + i
theorem dst15_ne {i j : Nat} (h : i ≠ j) (hi : i < 60) (hj : j < 60) : dst15 i ≠ dst15 j := by unfold dst15; split <;> split <;> omega
theorem Stay.trans {B : Nat} {a b c : World} (h : Stay B a b) (k : Stay B b c) : Stay B a c := ⟨h.off.trans k.off, fun x v q => k.cell x v (h.cell x v q), fun x v q => k.shape x v (h.shape x v q)⟩
structure RI (w0 : World) (a0 : Act) (S : List Sp) (listed : Array Bool) (a : Act) (w : World) : Prop where
 off : Stay w0.heap.size w0 w
 dfr : a.defers = a0.defers
 size : a.tmps.size = a0.tmps.size
 old : ∀ t, t < 135 → t ≠ 17 → a.tmps.getD t undef = a0.tmps.getD t undef
 got : ∀ i, listed.getD i false = true → ∀ s, S[i]? = some s → s.Ok w0.heap.size w (a.tmps.getD (dst15 i) undef)
theorem getD_set_same {t : Array Value} {d : Nat} {v : Value} (h : d < t.size) : (t.setIfInBounds d v).getD d undef = v := by simp [h]
theorem getD_set_else {t : Array Value} {d e : Nat} {v : Value} (h : d ≠ e) : (t.setIfInBounds d v).getD e undef = t.getD e undef := by simp [Array.getElem?_setIfInBounds_ne h]
theorem RI.put {w0 : World} {a0 : Act} {S : List Sp} {listed : Array Bool} {a : Act} {w w' : World} {v : Value} (h : RI w0 a0 S listed a w) (hS : S.length = 60) (h0 : a0.tmps.size = 234) (i : Nat) (hi : i < 60) (s : Sp) (hs : S[i]? = some s) (ho : Stay w0.heap.size w w') (hv : s.Ok w0.heap.size w' v) :
  RI w0 a0 S (listed.setIfInBounds i true) (a.put (some (dst15 i)) v) w' := by
 have hd : dst15 i < 234 := by unfold dst15; split <;> omega
 refine ⟨h.off.trans ho, h.dfr, by show (a.tmps.setIfInBounds _ _).size = _; rw [Array.size_setIfInBounds]; exact h.size, fun t ht h17 => ?_, fun j hj sj hsj => ?_⟩
 ·show (a.tmps.setIfInBounds _ _).getD t undef = _
  rw [getD_set_else (by unfold dst15; split <;> omega)]
  exact h.old t ht h17
 ·show sj.Ok w0.heap.size w' ((a.tmps.setIfInBounds _ _).getD _ undef)
  have hj60 : j < 60 := by have := (List.getElem?_eq_some_iff.1 hsj).1; omega
  by_cases e : i = j
  ·subst e
   rw [hs] at hsj
   cases hsj
   rw [getD_set_same (by rw [h.size, h0]; exact hd)]
   exact hv
  ·rw [getD_set_else (dst15_ne e hi hj60)]
   rw [getD_set_ne false e] at hj
   exact (h.got j hj sj hsj).stay ho
structure Num (b : List UInt8) (at0 s x : Nat) : Prop where
 eq : (b.drop at0).take s = numB x s
 lt : x < 256 ^ s
 lt63 : x < 9223372036854775808
structure Nums (b : List UInt8) (c : UInt8) (s k i n : Nat) : Prop where
 len : b.length = 128
 c0 : b[0]? = some c
 s8 : Num b 1 8 s
 k8 : Num b 9 8 k
 i2 : Num b 17 2 i
 n2 : Num b 19 2 n
theorem num_call {b : List UInt8} {at0 s x : Nat} (h : Num b at0 s x) (hs : s ≤ 8) (hl : at0 + s ≤ 128) (hb : b.length = 128) (w : World) :
  Calls Tryz.prog 93 #[strV b, .int .i64 (at0 : Int), .int .i64 (s : Int)] w fun e w' => e = .returned (.int .i64 (x : Int)) ∧ w = w' :=
 rnumber_at b at0 s x hs (by omega) (by omega) h.eq h.lt h.lt63 w
theorem bs_at {b : List UInt8} {c : UInt8} {i : Nat} (h : b[i]? = some c) (hb : i < (bs b).size) : ((bs b)[i]'hb) = c := by
 have := bs_get b i hb
 rw [h] at this
 exact (Option.some.inj this).symm
def ptC (c : UInt8) (s k i n : Nat) (m : List UInt8) : Array Value := #[.int .u8 (c.toNat : Int), .int .i64 (s : Int), .int .i64 (k : Int), .int .i64 (i : Int), .int .i64 (n : Int), strV m]
def rpart0 : Array Value := #[.int .u8 0, .int .i64 0, .int .i64 0, .int .i64 0, .int .i64 0, .string ByteArray.empty]
structure RtSt (w wr : World) (cs : Array Value) : Prop where
 below : Below w.heap.size w wr
 size : w.heap.size + 2 ≤ wr.heap.size
 res : wr.heap[w.heap.size]? = some (.cells rpart0 142)
 pt : wr.heap[w.heap.size + 1]? = some (.cells cs 142)
section
variable {w wr v : World} {cs : Array Value}
theorem RtSt.start (w : World) (cs : Array Value) : RtSt w ((w.alloc (.cells rpart0 142)).alloc (.cells cs 142)) cs := by
 have h1 := MapKept.heap_alloc w (.cells rpart0 142)
 have h2 := MapKept.heap_alloc (w.alloc (.cells rpart0 142)) (.cells cs 142)
 have s1 : (w.alloc (.cells rpart0 142)).heap.size = w.heap.size + 1 := World.size_alloc ..
 refine ⟨(grown_below0 (World.grownBy_alloc w _ none) (Nat.le_refl _)).trans (grown_below0 (World.grownBy_alloc _ _ none) (by omega)), by rw [World.size_alloc, s1]; exact Nat.le_refl _, ?_, ?_⟩
 ·rw [(World.grownBy_alloc (w.alloc (.cells rpart0 142)) _ none).block w.heap.size (by omega) (by simp)]
  exact h1.1
 ·have := h2.1
  rw [s1] at this
  exact this
theorem RtSt.later (h : RtSt w wr cs) (hb : Below wr.heap.size wr v) : RtSt w v cs :=
 ⟨h.below.trans (hb.mono (by have := h.size; omega)), Nat.le_trans h.size hb.size, (hb.block _ (by have := h.size; omega)).trans h.res, (hb.block _ (by have := h.size; omega)).trans h.pt⟩
theorem RtSt.drewN (h : RtSt w wr cs) (m : Nat) : RtSt w (wr.drewN m) cs := ⟨below_drewN h.below m, h.size, h.res, h.pt⟩
theorem RtSt.cell (h : RtSt w wr cs) (j : Nat) : wr.cell? ⟨w.heap.size + 1, j, none⟩ = cs[j]? := cell_blk h.pt j
theorem RtSt.rescell (h : RtSt w wr cs) (j : Nat) : wr.cell? ⟨w.heap.size, j, none⟩ = rpart0[j]? := cell_blk h.res j
theorem rsix_of {x0 x1 x2 x3 x4 x5 : Value} (h : wr.heap[w.heap.size + 1]? = some (.cells #[x0, x1, x2, x3, x4, x5] 142)) : wr.cell? ⟨w.heap.size + 1, 0, none⟩ = some x0 ∧ wr.cell? ⟨w.heap.size + 1, 1, none⟩ = some x1 ∧ wr.cell? ⟨w.heap.size + 1, 2, none⟩ = some x2 ∧ wr.cell? ⟨w.heap.size + 1, 3, none⟩ = some x3 ∧ wr.cell? ⟨w.heap.size + 1, 4, none⟩ = some x4 ∧ wr.cell? ⟨w.heap.size + 1, 5, none⟩ = some x5 := ⟨cell_blk h 0, cell_blk h 1, cell_blk h 2, cell_blk h 3, cell_blk h 4, cell_blk h 5⟩
theorem RtSt.six {x0 x1 x2 x3 x4 x5 : Value} (h : RtSt w wr #[x0, x1, x2, x3, x4, x5]) : wr.cell? ⟨w.heap.size + 1, 0, none⟩ = some x0 ∧ wr.cell? ⟨w.heap.size + 1, 1, none⟩ = some x1 ∧ wr.cell? ⟨w.heap.size + 1, 2, none⟩ = some x2 ∧ wr.cell? ⟨w.heap.size + 1, 3, none⟩ = some x3 ∧ wr.cell? ⟨w.heap.size + 1, 4, none⟩ = some x4 ∧ wr.cell? ⟨w.heap.size + 1, 5, none⟩ = some x5 := rsix_of h.pt
theorem RtSt.res6 (h : RtSt w wr cs) : wr.cell? ⟨w.heap.size, 0, none⟩ = some (.int .u8 0) ∧ wr.cell? ⟨w.heap.size, 1, none⟩ = some (.int .i64 0) ∧ wr.cell? ⟨w.heap.size, 2, none⟩ = some (.int .i64 0) ∧ wr.cell? ⟨w.heap.size, 3, none⟩ = some (.int .i64 0) ∧ wr.cell? ⟨w.heap.size, 4, none⟩ = some (.int .i64 0) ∧ wr.cell? ⟨w.heap.size, 5, none⟩ = some (.string ByteArray.empty) := ⟨cell_blk h.res 0, cell_blk h.res 1, cell_blk h.res 2, cell_blk h.res 3, cell_blk h.res 4, cell_blk h.res 5⟩
theorem RtSt.free (h : RtSt w wr cs) (j : Nat) : wr.frozen? ⟨w.heap.size + 1, j, none⟩ = false := frozen_blk h.pt j
theorem RtSt.resfree (h : RtSt w wr cs) (j : Nat) : wr.frozen? ⟨w.heap.size, j, none⟩ = false := frozen_blk h.res j
theorem RtSt.set (h : RtSt w wr cs) (j : Nat) (x : Value) : RtSt w (wr.setCell ⟨w.heap.size + 1, j, none⟩ x) (cs.setIfInBounds j x) := by
 have hg := grown_set wr (w.heap.size + 1) j x
 refine ⟨h.below.trans ⟨hg.os, hg.tape, hg.output, hg.size, fun k hk => hg.block k (by have := h.size; omega) (fun e => by cases e; omega)⟩, by have := h.size; simpa using this, ?_, ?_⟩
 ·rw [hg.block w.heap.size (by have := h.size; omega) (fun e => by simp at e)]
  exact h.res
 ·exact heap_setCell_same wr (w.heap.size + 1) j _ _ _ h.pt
theorem RtSt.put (h : RtSt w wr cs) (x0 x1 x2 x3 x4 x5 : Value) : (putP wr w.heap.size x0 x1 x2 x3 x4 x5).heap[w.heap.size]? = some (.cells #[x0, x1, x2, x3, x4, x5] 142) ∧ Below w.heap.size w (putP wr w.heap.size x0 x1 x2 x3 x4 x5) ∧ (putP wr w.heap.size x0 x1 x2 x3 x4 x5).heap[w.heap.size + 1]? = some (.cells cs 142) := by
 have f1 := heap_setCell_same _ w.heap.size 0 _ _ x0 h.res
 have f2 := heap_setCell_same _ w.heap.size 1 _ _ x1 f1
 have f3 := heap_setCell_same _ w.heap.size 2 _ _ x2 f2
 have f4 := heap_setCell_same _ w.heap.size 3 _ _ x3 f3
 have f5 := heap_setCell_same _ w.heap.size 4 _ _ x4 f4
 have f6 := heap_setCell_same _ w.heap.size 5 _ _ x5 f5
 have hs := h.size
 have k : ∀ (z : World) (j : Nat) (q : Value), w.heap.size + 2 ≤ z.heap.size → Below w.heap.size z (z.setCell ⟨w.heap.size, j, none⟩ q) := fun z j q hz => grown_below (grown_set z w.heap.size j q) (by omega) (by omega)
 have e : ∀ (z : World) (j : Nat) (q : Value), (z.setCell ⟨w.heap.size, j, none⟩ q).heap.size = z.heap.size := fun z j q => by simp
 refine ⟨f6, h.below.trans ?_, ?_⟩
 ·unfold putP
  exact (((((k _ _ _ hs).trans (k _ _ _ (by rw [e]; exact hs))).trans (k _ _ _ (by rw [e, e]; exact hs))).trans (k _ _ _ (by rw [e, e, e]; exact hs))).trans (k _ _ _ (by rw [e, e, e, e]; exact hs))).trans (k _ _ _ (by rw [e, e, e, e, e]; exact hs))
 ·unfold putP
  rw [heap_setCell_other _ _ _ _ (by simp), heap_setCell_other _ _ _ _ (by simp), heap_setCell_other _ _ _ _ (by simp), heap_setCell_other _ _ _ _ (by simp), heap_setCell_other _ _ _ _ (by simp), heap_setCell_other _ _ _ _ (by simp)]
  exact h.pt
end
theorem rtold_none (b : List UInt8) (c : UInt8) (s k i n : Nat) (hn : Nums b c s k i n) (h1 : c.toNat ≠ 67) (h2 : c.toNat ≠ 82) (w : World) :
  Calls Tryz.prog 100 #[strV b] w fun e w' => e = .returned (.tuple #[.agg (ptC c s k i n []), .bool false]) ∧ Below w.heap.size w w' := by
 have HN := Lib.hid hn
 have e3 : ((c.toNat : Int) != 67) = true := by simp; omega
 have e4 : ((c.toNat : Int) != 82) = true := by simp; omega
 have HS : Hid ((bs b).size = 128) := (bs_size b).trans hn.len
 have HZ : Hid (0 < (bs b).size) := by show _ < _; rw [HS.out]; decide
 have hsz2 : (21 : Int) < ((bs b).size : Int) := by rw [HS.out]; decide
 have hsz3 : 21 < (bs b).size := by rw [HS.out]; decide
 clear hn h1 h2
 go_enter Tryz.func100, Tryz.ntmps100
 go_upto_region 1 with fail
 go_cut [4] from 7 to 17 (fun v4 wx => v4 = .pointer (some ⟨w.heap.size + 1, 0, none⟩) ∧ wx = ((w.alloc (.cells rpart0 142)).alloc (.cells (ptC c s k i n []) 142)).drew)
 case first =>
  refine wp_region_noPanic ?_
  refine wp_region_held_drew (S := fun _ => True) (by kernel_rfl) ?hSs (fun hHeld => ?_)
  case hSs => exact trivial
  refine ztk 0 rfl ?_
  refine ztk 1 rfl ?_ (v := Value.int .u8 (c.toNat : Int)) (hy := ?hys1)
  case hys1 => (intro wS hSw; (try dsimp only at hSw); go_simp; rw [dif_pos HZ.out, bs_at HN.out.c0]; rfl)
  refine ztk 2 rfl ?_
  refine ztk 4 rfl ?_
  refine ztk 6 rfl ?_
  refine ztk 8 rfl ?_
  refine zrd2 3 11 rfl rfl (fun K hK => ?_) (fun K hK => ?_)
  ·go_simp
   refine (num_call HN.out.s8 (by decide) (by decide) HN.out.len _).mono ?_
   rintro e wq ⟨rfl, rfl⟩
   go_wp2_with fail
   refine hK.out _ _ ?q (fun hHeld => ?_)
   case q => (try dsimp only); try exact trivial
   clear hK K
   try simp only [zpt]
   refine zrd2 5 11 rfl rfl (fun K hK => ?_) (fun K hK => ?_)
   ·go_simp
    refine (num_call HN.out.k8 (by decide) (by decide) HN.out.len _).mono ?_
    rintro e wq ⟨rfl, rfl⟩
    go_wp2_with fail
    refine hK.out _ _ ?q (fun hHeld => ?_)
    case q => (try dsimp only); try exact trivial
    clear hK K
    try simp only [zpt]
    refine zrd2 7 11 rfl rfl (fun K hK => ?_) (fun K hK => ?_)
    ·go_simp
     refine (num_call HN.out.i2 (by decide) (by decide) HN.out.len _).mono ?_
     rintro e wq ⟨rfl, rfl⟩
     go_wp2_with fail
     refine hK.out _ _ ?q (fun hHeld => ?_)
     case q => (try dsimp only); try exact trivial
     clear hK K
     try simp only [zpt]
     refine zrd2 9 11 rfl rfl (fun K hK => ?_) (fun K hK => ?_)
     ·go_simp
      refine (num_call HN.out.n2 (by decide) (by decide) HN.out.len _).mono ?_
      rintro e wq ⟨rfl, rfl⟩
      go_wp2_with fail
      refine hK.out _ _ ?q (fun hHeld => ?_)
      case q => (try dsimp only); try exact trivial
      clear hK K
      try simp only [zpt]
      refine ztk 10 rfl ?_
      refine zrd 11 rfl (fun K hK => ?_)
      go_simp
      refine hK.out _ _ ?q (fun hHeld => ?_)
      case q => (try dsimp only); try exact trivial
      clear hK K
      try simp only [zpt]
      refine zrd 12 rfl (fun K hK => ?_)
      go_simp
      refine hK.out _ _ ?q (fun hHeld => ?_)
      case q => (try dsimp only); try exact trivial
      clear hK K
      try simp only [zpt]
      refine wpAnyH_done (by kernel_rfl) ?_ _
      refine NoPanic.normal ?_
      go_wp2_with fail
      go_meet
      exact ⟨rfl, rfl⟩
     ·go_simp
      refine hK.out _ _ ?q (fun hHeld => ?_)
      case q => (try dsimp only); try exact trivial
      clear hK K
      try simp only [zpt]
      refine zrd 9 rfl (fun K hK => ?_)
      go_simp
      refine (num_call HN.out.n2 (by decide) (by decide) HN.out.len _).mono ?_
      rintro e wq ⟨rfl, rfl⟩
      go_wp2_with fail
      refine hK.out _ _ ?q (fun hHeld => ?_)
      case q => (try dsimp only); try exact trivial
      clear hK K
      try simp only [zpt]
      refine ztk 10 rfl ?_
      refine zrd 12 rfl (fun K hK => ?_)
      go_simp
      refine hK.out _ _ ?q (fun hHeld => ?_)
      case q => (try dsimp only); try exact trivial
      clear hK K
      try simp only [zpt]
      refine wpAnyH_done (by kernel_rfl) ?_ _
      refine NoPanic.normal ?_
      go_wp2_with fail
      go_meet
      exact ⟨rfl, rfl⟩
    ·go_simp
     refine hK.out _ _ ?q (fun hHeld => ?_)
     case q => (try dsimp only); try exact trivial
     clear hK K
     try simp only [zpt]
     refine zrd 7 rfl (fun K hK => ?_)
     go_simp
     refine (num_call HN.out.i2 (by decide) (by decide) HN.out.len _).mono ?_
     rintro e wq ⟨rfl, rfl⟩
     go_wp2_with fail
     refine hK.out _ _ ?q (fun hHeld => ?_)
     case q => (try dsimp only); try exact trivial
     clear hK K
     try simp only [zpt]
     refine zrd 9 rfl (fun K hK => ?_)
     go_simp
     refine (num_call HN.out.n2 (by decide) (by decide) HN.out.len _).mono ?_
     rintro e wq ⟨rfl, rfl⟩
     go_wp2_with fail
     refine hK.out _ _ ?q (fun hHeld => ?_)
     case q => (try dsimp only); try exact trivial
     clear hK K
     try simp only [zpt]
     refine ztk 10 rfl ?_
     refine zrd 12 rfl (fun K hK => ?_)
     go_simp
     refine hK.out _ _ ?q (fun hHeld => ?_)
     case q => (try dsimp only); try exact trivial
     clear hK K
     try simp only [zpt]
     refine wpAnyH_done (by kernel_rfl) ?_ _
     refine NoPanic.normal ?_
     go_wp2_with fail
     go_meet
     exact ⟨rfl, rfl⟩
   ·go_simp
    refine hK.out _ _ ?q (fun hHeld => ?_)
    case q => (try dsimp only); try exact trivial
    clear hK K
    try simp only [zpt]
    refine zrd 5 rfl (fun K hK => ?_)
    go_simp
    refine (num_call HN.out.k8 (by decide) (by decide) HN.out.len _).mono ?_
    rintro e wq ⟨rfl, rfl⟩
    go_wp2_with fail
    refine hK.out _ _ ?q (fun hHeld => ?_)
    case q => (try dsimp only); try exact trivial
    clear hK K
    try simp only [zpt]
    refine zrd 7 rfl (fun K hK => ?_)
    go_simp
    refine (num_call HN.out.i2 (by decide) (by decide) HN.out.len _).mono ?_
    rintro e wq ⟨rfl, rfl⟩
    go_wp2_with fail
    refine hK.out _ _ ?q (fun hHeld => ?_)
    case q => (try dsimp only); try exact trivial
    clear hK K
    try simp only [zpt]
    refine zrd 9 rfl (fun K hK => ?_)
    go_simp
    refine (num_call HN.out.n2 (by decide) (by decide) HN.out.len _).mono ?_
    rintro e wq ⟨rfl, rfl⟩
    go_wp2_with fail
    refine hK.out _ _ ?q (fun hHeld => ?_)
    case q => (try dsimp only); try exact trivial
    clear hK K
    try simp only [zpt]
    refine ztk 10 rfl ?_
    refine zrd 12 rfl (fun K hK => ?_)
    go_simp
    refine hK.out _ _ ?q (fun hHeld => ?_)
    case q => (try dsimp only); try exact trivial
    clear hK K
    try simp only [zpt]
    refine wpAnyH_done (by kernel_rfl) ?_ _
    refine NoPanic.normal ?_
    go_wp2_with fail
    go_meet
    exact ⟨rfl, rfl⟩
  ·go_simp
   refine hK.out _ _ ?q (fun hHeld => ?_)
   case q => (try dsimp only); try exact trivial
   clear hK K
   try simp only [zpt]
   refine zrd 3 rfl (fun K hK => ?_)
   go_simp
   refine (num_call HN.out.s8 (by decide) (by decide) HN.out.len _).mono ?_
   rintro e wq ⟨rfl, rfl⟩
   go_wp2_with fail
   refine hK.out _ _ ?q (fun hHeld => ?_)
   case q => (try dsimp only); try exact trivial
   clear hK K
   try simp only [zpt]
   refine zrd 5 rfl (fun K hK => ?_)
   go_simp
   refine (num_call HN.out.k8 (by decide) (by decide) HN.out.len _).mono ?_
   rintro e wq ⟨rfl, rfl⟩
   go_wp2_with fail
   refine hK.out _ _ ?q (fun hHeld => ?_)
   case q => (try dsimp only); try exact trivial
   clear hK K
   try simp only [zpt]
   refine zrd 7 rfl (fun K hK => ?_)
   go_simp
   refine (num_call HN.out.i2 (by decide) (by decide) HN.out.len _).mono ?_
   rintro e wq ⟨rfl, rfl⟩
   go_wp2_with fail
   refine hK.out _ _ ?q (fun hHeld => ?_)
   case q => (try dsimp only); try exact trivial
   clear hK K
   try simp only [zpt]
   refine zrd 9 rfl (fun K hK => ?_)
   go_simp
   refine (num_call HN.out.n2 (by decide) (by decide) HN.out.len _).mono ?_
   rintro e wq ⟨rfl, rfl⟩
   go_wp2_with fail
   refine hK.out _ _ ?q (fun hHeld => ?_)
   case q => (try dsimp only); try exact trivial
   clear hK K
   try simp only [zpt]
   refine ztk 10 rfl ?_
   refine zrd 12 rfl (fun K hK => ?_)
   go_simp
   refine hK.out _ _ ?q (fun hHeld => ?_)
   case q => (try dsimp only); try exact trivial
   clear hK K
   try simp only [zpt]
   refine wpAnyH_done (by kernel_rfl) ?_ _
   refine NoPanic.normal ?_
   go_wp2_with fail
   go_meet
   exact ⟨rfl, rfl⟩
 case rest =>
  obtain ⟨rfl, rfl⟩ := hcut
  have HZ : Hid (RtSt w ((w.alloc (.cells rpart0 142)).alloc (.cells (ptC c s k i n []) 142)).drew (ptC c s k i n [])) := (RtSt.start w (ptC c s k i n [])).drewN 1
  obtain ⟨z, hz⟩ : ∃ z, z = ((w.alloc (.cells rpart0 142)).alloc (.cells (ptC c s k i n []) 142)).drew := ⟨_, rfl⟩
  rw [← hz] at HZ ⊢
  clear hz
  obtain ⟨p0, p1, p2, p3, p4, p5⟩ := z6 HZ.out.pt
  obtain ⟨r0, r1, r2, r3, r4, r5⟩ := z6 HZ.out.res
  have q0 := HZ.out.resfree
  go_upto_region 3 with fail
  go_quiet (fail)
  have HQ : Hid (RtSt w (z.drewN nq) (ptC c s k i n [])) := HZ.out.drewN nq
  go_wp2_with fail
  (try simp only [Exit.inBlock, Exit.then])
  refine bodyPost_ret (results_row_tmp rfl _ _ w.heap.size _ _ _ _ rfl (HQ.out.put _ _ _ _ _ _).1 Tryz.underlying142 rfl (by kernel_rfl)) rfl ?_
  exact ⟨rfl, (HQ.out.put _ _ _ _ _ _).2.1⟩
end Go.Proofs.YtgdedgfohjplmaaGreat.Jnl
