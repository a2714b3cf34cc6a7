/- JournalForged: the walk. -/
import Derived.Test.YtgdedgfohjplmaaJN
namespace Go.Proofs.Ytgdedgfohjplmaa.Jnl
open Go.RowKit Go.Maps Sec

/-- A row that lies below w0's end, seen later. -/
def Arg0 (w0 w : World) (A : Option Addr) (l : List UInt8) (cap : Nat) : Prop := (l = [] ∧ cap = 0) ∨ ∃ g off, A = some ⟨g, off, none⟩ ∧ g < w0.heap.size ∧ g < w.heap.size ∧ w.rangeAt g off (u8s l)
theorem Arg0.off {w0 w : World} {A : Option Addr} {l : List UInt8} {cap : Nat} (h : Arg0 w0 w0 A l cap) (ho : Off (fun b => w0.heap.size ≤ b) w0 w) : Arg0 w0 w A l cap := by
  rcases h with h | ⟨g, off, h1, h2, h3, h4⟩
  · exact .inl h
  · exact .inr ⟨g, off, h1, h2, Nat.lt_of_lt_of_le h3 ho.size, range_keep h4 ho h3 (by omega)⟩
theorem Arg0.arg {w0 w : World} {Sd : Nat → Prop} {A : Option Addr} {l : List UInt8} {cap : Nat} (h : Arg0 w0 w A l cap) (hS : ∀ b, Sd b → w0.heap.size ≤ b) : (l = [] ∧ cap = 0) ∨ ∃ g off, A = some ⟨g, off, none⟩ ∧ g < w.heap.size ∧ ¬ Sd g ∧ w.rangeAt g off (u8s l) := by
  rcases h with h | ⟨g, off, h1, h2, h3, h4⟩
  · exact .inl h
  · exact .inr ⟨g, off, h1, h3, fun hs => by have := hS g hs; omega, h4⟩
theorem run_str_zero (w : World) (x : Addr) (cap : Nat) : (convert 23 9 (.slice (some x) 0 cap)).run Try.prog w = .ok (strV []) w := by kernel_rfl
theorem Arg0.str {w0 w : World} {A : Option Addr} {l : List UInt8} {cap : Nat} (h : Arg0 w0 w A l cap) : (convert 23 9 (.slice A l.length cap)).run Try.prog w = .ok (strV l) w := by
  rcases h with ⟨rfl, rfl⟩ | ⟨g, off, rfl, _, _, hr⟩
  · cases A with
    | none => exact run_str_nil w
    | some x => exact run_str_zero w x 0
  · exact run_string w g off l cap hr
/-- The disk is settled. -/
theorem Both.settle {w0 w w' : World} {S Sd : Nat → Prop} {d jb : Nat} {D : Dsk} {J : Jn} (h : Both w0 w S Sd d jb D J) (hd : DiskAt w' Sd d (settled D)) (ho : Off Sd w w') : Both w0 w' S Sd d jb (settled D) J :=
  ⟨hd, h.jnl.off ho h.apart, h.apart, fun b hb => Nat.lt_of_lt_of_le (h.slt b hb) ho.size, h.dnew, h.jnew, h.off.trans (ho.mono (fun b _ hb => h.dnew b hb))⟩
/-- A disk, opened. -/
theorem Both.opened {w0 w w' : World} {Sn Sj Sd' : Nat → Prop} {d jb : Nat} {D : Dsk} {J : Jn} (h0 : Off (fun b => w0.heap.size ≤ b) w0 w) (hn : ∀ b, Sn b → w0.heap.size ≤ b) (hj : JAt w' Sj jb d J) (hd : DiskAt w' Sd' d D) (hsj : ∀ b, Sj b → w.heap.size ≤ b ∧ ¬ Sd' b) (hsd : ∀ b, Sd' b → (Sn b ∨ w.heap.size ≤ b) ∧ b < w'.heap.size) (ho : Off Sn w w') : Both w0 w' Sj Sd' d jb D J := by
  have hs := h0.size
  exact ⟨hd, hj, fun b hb => (hsj b hb).2, fun b hb => (hsd b hb).2, fun b hb => (hsd b hb).1.elim (hn b) (fun h => by omega), fun b hb => by have := (hsj b hb).1; omega, h0.trans (ho.mono (fun b _ hb => hn b hb))⟩
/-- A cut disk, new. -/
theorem cut_new {w0 w w' : World} {c : Nat} {D : Dsk} (h0 : Off (fun b => w0.heap.size ≤ b) w0 w) (hd : DiskAt w' (fun b => w.heap.size ≤ b) c D) (ho : Off (fun _ => False) w w') : DiskAt w' (fun b => w.heap.size ≤ b ∧ b < w'.heap.size) c D ∧ (∀ b, (w.heap.size ≤ b ∧ b < w'.heap.size) → b < w'.heap.size) ∧ (∀ b, (w.heap.size ≤ b ∧ b < w'.heap.size) → w0.heap.size ≤ b) ∧ Off (fun b => w0.heap.size ≤ b) w0 w' :=
  ⟨hd.mono (fun k hk h => ⟨h, hk⟩), fun b h => h.2, fun b h => by have := h0.size; omega, h0.trans (ho.mono (fun _ _ h => h.elim))⟩
theorem parts_2000 {n : Nat} (h : n ≤ 2000) : 1 ≤ parts n ∧ parts n ≤ 20 := by unfold parts; omega
set_option maxRecDepth 100000 in
set_option maxHeartbeats 16000000 in
theorem forged_walk (w : World) (a b : List UInt8) (A B : Option Addr) (ca cb : Nat) (t u : UInt8) (hca : a.length ≤ ca ∧ ca ≤ maxLen) (hcb : b.length ≤ cb ∧ cb ≤ maxLen)
    (hA : Arg0 w w A a ca) (hB : Arg0 w w B b cb) :
    Calls Try.prog 5 #[.slice A a.length ca, .slice B b.length cb, .int .u8 (t.toNat : Int), .int .u8 (u.toNat : Int)] w fun e w' => e = .returned (.bool true) ∧ Below w.heap.size w w' := by
  obtain ⟨la, hla⟩ : ∃ n, n = a.length := ⟨_, rfl⟩
  obtain ⟨lb, hlb⟩ : ∃ n, n = b.length := ⟨_, rfl⟩
  have HA0 := Lib.hid hA
  have HB0 := Lib.hid hB
  have HCA := Lib.hid hca
  have HCB := Lib.hid hcb
  rw [← hla, ← hlb]
  have HLA := Lib.hid hla
  have HLB := Lib.hid hlb
  have i1 : (la : Int) ≤ (ca : Int) := by omega
  have i2 : (lb : Int) ≤ (cb : Int) := by omega
  obtain ⟨tn, htn⟩ : ∃ n, n = t.toNat := ⟨_, rfl⟩
  obtain ⟨un, hun⟩ : ∃ n, n = u.toNat := ⟨_, rfl⟩
  have t256 : tn < 256 := by rw [htn]; exact t.toNat_lt
  have u256 : un < 256 := by rw [hun]; exact u.toNat_lt
  rw [← htn, ← hun]
  clear hA hB hla hlb htn hun hca hcb
  have big : (2000 < la ∨ 2000 < lb) → Calls Try.prog 5 #[.slice A la ca, .slice B lb cb, .int .u8 (tn : Int), .int .u8 (un : Int)] w fun e w' => e = .returned (.bool true) ∧ Below w.heap.size w w' := by
    intro hbig
    by_cases h1 : 2000 < la
    · have d1 : decide ((2000 : Int) < (la : Int)) = true := by simp; omega
      clear hbig h1
      go_enter Try.func5, Try.ntmps5
      go_wp2_with fail
      refine (works_at w).mono ?_
      rintro e w2 ⟨rfl, ho⟩
      go_wp2_with fail
      go_ret
      exact ⟨rfl, off_to_below ho⟩
    · have d1 : decide ((2000 : Int) < (la : Int)) = false := by simp; omega
      have d2 : decide ((2000 : Int) < (lb : Int)) = true := by simp; omega
      clear hbig h1
      go_enter Try.func5, Try.ntmps5
      go_wp2_with fail
      refine (works_at w).mono ?_
      rintro e w2 ⟨rfl, ho⟩
      go_wp2_with fail
      go_ret
      exact ⟨rfl, off_to_below ho⟩
  by_cases h1 : 2000 < la
  · exact big (.inl h1)
  by_cases h2 : 2000 < lb
  · exact big (.inr h2)
  clear big
  have d1 : decide ((2000 : Int) < (la : Int)) = false := by simp; omega
  have d2 : decide ((2000 : Int) < (lb : Int)) = false := by simp; omega
  have HPA : Hid (1 ≤ parts a.length ∧ parts a.length ≤ 20) := parts_2000 (by have := HLA.out; omega)
  have HPB : Hid (1 ≤ parts b.length ∧ parts b.length ≤ 20) := parts_2000 (by have := HLB.out; omega)
  have HS : Hid (a.length ≤ 2000 ∧ b.length ≤ 2000) := ⟨by have := HLA.out; omega, by have := HLB.out; omega⟩
  clear h1 h2
  go_enter Try.func5, Try.ntmps5
  go_wp2_with fail
  refine (new_at 120 w).mono ?_
  rintro e v0 ⟨d, rfl, hd, ho⟩
  have hd2 : DiskAt v0 (fun b => w.heap.size ≤ b ∧ b < v0.heap.size) d (freshDisk 120) := hd.mono (fun k hk h => ⟨h, hk⟩)
  have HV0 : Hid (Off (fun b => w.heap.size ≤ b) w v0) := ho.mono (fun _ _ h => h.elim)
  have HOP := Lib.hid (open_fresh _ d 120 v0 hd2 (fun b h => h.2) (by decide))
  clear hd hd2 ho
  go_wp2_with fail
  refine HOP.out.mono ?_
  rintro e w1 ⟨jb, Sj, Sd, rfl, hj, hd, hs1, hs2, ho1⟩
  have hb := Both.fresh (w0 := w) HV0.out (fun _ h => h.1) hj hd hs1 hs2 ho1
  obtain ⟨E, hE⟩ : ∃ E, E = (opened (freshDisk 120) none).2 := ⟨_, rfl⟩
  have hen := opened_n 120
  have hf := Fit.fresh 120 (by decide) (by decide)
  rw [← hE] at hb hen hf
  have HB1 := Lib.hid hb
  have HF1 := Lib.hid hf
  have HEN := Lib.hid hen
  clear hj hd hs1 hs2 ho1 hb hf hen hE HV0 HOP
  go_wp2_with fail
  refine (settle_at Sd d E w1 HB1.out.disk).mono ?_
  rintro e w2 ⟨rfl, hd, ho⟩
  have hb2 := HB1.out.settle hd ho
  have hf2 : Fit (settled E) newJ 0 1 := HF1.out.settle
  have hn2 : (settled E).n = 120 := HEN.out.1
  obtain ⟨D2, hD2⟩ : ∃ D, D = settled E := ⟨_, rfl⟩
  have hs2 : D2.base = D2.now ∧ D2.wr = [] := by rw [hD2]; exact ⟨rfl, rfl⟩
  rw [← hD2] at hb2 hf2 hn2
  have HB2 := Lib.hid hb2
  have HF2 := Lib.hid hf2
  have HN2 := Lib.hid (And.intro hn2 hs2)
  clear hd ho hb2 hf2 hn2 hs2 hD2 HB1 HF1 HEN
  go_wp2_with fail
  have hro : ¬ (D2.n / 2 - 1 - newJ.used < parts a.length) := by
    rw [HN2.out.1]
    have := HPA.out
    show ¬ (120 / 2 - 1 - 1 < parts a.length)
    omega
  have HP3 : Hid (putR D2 newJ false a = (appD D2 newJ a, newJ.app a)) := by
    show _ = _
    unfold putR
    rw [if_neg Bool.false_ne_true, if_neg hro]
  have HA2 := Lib.hid (HA0.out.off HB2.out.off)
  have HC3 := Lib.hid (append_any Sd Sj d jb D2 newJ 1 a A ca w2 HB2.out.disk HB2.out.slt HB2.out.jnl HB2.out.apart HF2.out (by decide) (by rw [HN2.out.2.2]; decide) (by have := HS.out; omega) HCA.out.1 HCA.out.2 (HA2.out.arg HB2.out.dnew))
  rw [if_neg hro, HP3.out] at HC3
  have HRO := Lib.hid (show parts a.length ≤ D2.n / 2 - 1 - newJ.used by omega)
  clear hro
  rw [HLA.out]
  refine HC3.out.mono ?_
  rw [← HLA.out]
  rintro e w3 ⟨rfl, hp⟩
  obtain ⟨S3, Sd3, hb3, -, -, -⟩ := HB2.out.put hp
  obtain ⟨D3, hD3⟩ : ∃ D, D = appD D2 newJ a := ⟨_, rfl⟩
  have hb3 : Both w w3 S3 Sd3 d jb (appD D2 newJ a) (newJ.app a) := hb3
  have hw3 : D3.wr.length = parts a.length := by rw [hD3, app_wr, HN2.out.2.2]; exact Nat.zero_add _
  rw [← hD3] at hb3
  have HB3 := Lib.hid hb3
  have HD3 := Lib.hid hD3
  obtain ⟨pa, hpa⟩ : ∃ n, n = parts a.length := ⟨_, rfl⟩
  rw [← hpa] at hw3
  have HW3 := Lib.hid (And.intro hw3 hpa)
  have pa1 : 1 ≤ pa ∧ pa ≤ 20 := by rw [hpa]; exact HPA.out
  obtain ⟨pa1, pa20⟩ := pa1
  clear hp hb3 hD3 hw3 hpa HC3 HP3
  go_wp2_with fail
  refine (writes_at Sd3 d D3 w3 HB3.out.disk).mono ?_
  rintro e wq ⟨rfl, hwq⟩
  subst hwq
  rw [HW3.out.1]
  obtain ⟨k, hk⟩ : ∃ k, k = tn % (pa + 1) := ⟨_, rfl⟩
  have hkn : k ≤ pa := by have := Nat.mod_lt tn (show 0 < pa + 1 by omega); omega
  have hki : (tn : Int) % ((pa : Int) + 1) = (k : Int) := by rw [hk, Int.natCast_emod, Int.natCast_add]; rfl
  have hke : Int.tmod (tn : Int) ((pa : Int) + 1) = (k : Int) := by rw [Int.tmod_eq_emod_of_nonneg (by omega)]; exact hki
  have hp0 : ((pa : Int) + 1 == 0) = false := by simp; omega
  clear hk
  go_wp2_with fail
  refine (cut_at Sd3 d D3 (k : Int) w3 HB3.out.disk (by rw [HW3.out.1]; omega)).mono ?_
  rintro e w4 ⟨c, rfl, hd, ho⟩
  obtain ⟨hd4, hlt4, hnew4, hoff4⟩ := cut_new HB3.out.off hd ho
  have hfa := found_app (q := k) HF2.out (by decide) (Nat.zero_le _) (by have := HS.out; omega) HRO.out HN2.out.2.1 HN2.out.2.2 (by rw [← HD3.out, HW3.out.1]; exact hkn)
  rw [← HD3.out, HW3.out.1] at hfa
  have hcn : (D3.cut (k : Int)).n = 120 := by rw [HD3.out]; exact (pushes_n ..).1.trans HN2.out.1
  obtain ⟨C, hC⟩ : ∃ C, C = D3.cut (k : Int) := ⟨_, rfl⟩
  rw [← hC] at hd4 hfa hcn
  have hcb : C.base = C.now ∧ C.wr = [] := by rw [hC]; exact ⟨rfl, rfl⟩
  obtain ⟨Sc, hSc⟩ : ∃ S : Nat → Prop, S = fun b => w3.heap.size ≤ b ∧ b < w4.heap.size := ⟨_, rfl⟩
  have h4 : DiskAt w4 Sc c C ∧ (∀ b, Sc b → b < w4.heap.size) ∧ (∀ b, Sc b → w.heap.size ≤ b) := by rw [hSc]; exact ⟨hd4, hlt4, hnew4⟩
  have H4 := Lib.hid h4
  have HO4 := Lib.hid hoff4
  have HCN := Lib.hid (And.intro hcn hcb)
  have HFA := Lib.hid hfa
  clear hd ho hd4 hlt4 hnew4 hoff4 hfa hcn hC hcb hSc h4 HB3 hki hke hp0 HF2 HN2 HB2 HRO HD3 HA2
  by_cases hkp : k = pa
  · subst hkp
    obtain ⟨Jc, hJc⟩ : ∃ J, J = newJ.app a := ⟨_, rfl⟩
    have hfc := HFA.out.2 rfl
    rw [← hJc] at hfc
    have hjc : Jc.op = 1 ∧ Jc.first = 1 ∧ Jc.recs.length = 1 ∧ Jc.used ≤ 21 ∧ ∀ l ∈ Jc.recs, l.length ≤ 2000 := by
      rw [hJc]
      refine ⟨rfl, rfl, rfl, by show 1 + parts a.length ≤ 21; have := HPA.out; omega, fun l hl => ?_⟩
      rw [List.mem_singleton.1 (show l ∈ [a] from hl)]
      exact HS.out.1
    have HFC : Hid (Fit C Jc 2 2) := hfc.less (Nat.zero_le _) (Nat.le_refl _)
    have HJC := Lib.hid hjc
    clear hJc hfc hjc HFA
    go_wp2_with fail
    refine (open_fit Sc c C Jc 2 2 w4 H4.out.1 H4.out.2.1 (by rw [HCN.out.2.2]; decide) HFC.out (by decide)).mono ?_
    rintro e w5 ⟨jx, Sx, Sdx, rfl, hj, hd, hs1, hs2, ho⟩
    have hb := Both.opened HO4.out H4.out.2.2 hj hd hs1 hs2 ho
    have hf := HFC.out.reopen
    have hn : (C.push (Jc.area * (C.n / 2)) (headB Jc.gen (Jc.op + 1) Jc.first Jc.size)).n = 120 := HCN.out.1
    obtain ⟨C5, hC5⟩ : ∃ C5, C5 = C.push (Jc.area * (C.n / 2)) (headB Jc.gen (Jc.op + 1) Jc.first Jc.size) := ⟨_, rfl⟩
    obtain ⟨Jx, hJx⟩ : ∃ Jx : Jn, Jx = { Jc with op := Jc.op + 1 } := ⟨_, rfl⟩
    have hjx : Jx.op = 2 ∧ Jx.first = 1 ∧ Jx.recs.length = 1 ∧ Jx.used ≤ 21 ∧ ∀ l ∈ Jx.recs, l.length ≤ 2000 := by rw [hJx]; exact ⟨by show Jc.op + 1 = 2; rw [HJC.out.1], HJC.out.2⟩
    rw [← hC5, ← hJx] at hb hf
    rw [← hC5] at hn
    have HB5 := Lib.hid hb
    have HF5 := Lib.hid hf
    have HN5 := Lib.hid hn
    have HJX := Lib.hid hjx
    clear hj hd hs1 hs2 ho hb hf hn hC5 hJx hjx HFC HJC HCN H4 HO4
    go_wp2_with fail
    refine (next_j Sx c jx Jx w5 HB5.out.jnl (by rw [HJX.out.2.1, HJX.out.2.2.1]; decide)).mono ?_
    rintro e wx ⟨he, m1, rfl⟩
    rw [HJX.out.2.1, HJX.out.2.2.1] at he
    subst he
    have HB5b := Lib.hid (HB5.out.new (off_drew w5 m1))
    go_wp2_with fail
    refine (settle_at Sdx c C5 _ HB5b.out.disk).mono ?_
    rintro e w6 ⟨rfl, hd, ho⟩
    have hb6 := HB5b.out.settle hd ho
    have hf6 : Fit (settled C5) Jx 2 3 := HF5.out.settle
    have hn6 : (settled C5).n = 120 := HN5.out
    obtain ⟨C6, hC6⟩ : ∃ D, D = settled C5 := ⟨_, rfl⟩
    have hs6 : C6.base = C6.now ∧ C6.wr = [] := by rw [hC6]; exact ⟨rfl, rfl⟩
    rw [← hC6] at hb6 hf6 hn6
    have HB6 := Lib.hid hb6
    have HF6 := Lib.hid hf6
    have HN6 := Lib.hid (And.intro hn6 hs6)
    clear hd ho hb6 hf6 hn6 hs6 hC6 HB5 HB5b HF5 HN5
    go_wp2_with fail
    have hro : ¬ (C6.n / 2 - 1 - Jx.used < parts b.length) := by
      rw [HN6.out.1]
      have h1 := HPB.out
      have h2 := HJX.out.2.2.2.1
      omega
    have HP7 : Hid (putR C6 Jx false b = (appD C6 Jx b, Jx.app b)) := by
      show _ = _
      unfold putR
      rw [if_neg Bool.false_ne_true, if_neg hro]
    have HB6a := Lib.hid (HB0.out.off HB6.out.off)
    have HC7 := Lib.hid (append_any Sdx Sx c jx C6 Jx 3 b B cb w6 HB6.out.disk HB6.out.slt HB6.out.jnl HB6.out.apart HF6.out (by decide) (by rw [HN6.out.2.2]; decide) (by have := HS.out; omega) HCB.out.1 HCB.out.2 (HB6a.out.arg HB6.out.dnew))
    rw [if_neg hro, HP7.out] at HC7
    have HRO := Lib.hid (show parts b.length ≤ C6.n / 2 - 1 - Jx.used by omega)
    clear hro
    rw [HLB.out]
    refine HC7.out.mono ?_
    rw [← HLB.out]
    rintro e w7 ⟨rfl, hp⟩
    obtain ⟨S7, Sd7, hb7, -, -, -⟩ := HB6.out.put hp
    obtain ⟨D7, hD7⟩ : ∃ D, D = appD C6 Jx b := ⟨_, rfl⟩
    have hb7 : Both w w7 S7 Sd7 c jx (appD C6 Jx b) (Jx.app b) := hb7
    have hw7 : D7.wr.length = parts b.length := by rw [hD7, app_wr, HN6.out.2.2]; exact Nat.zero_add _
    rw [← hD7] at hb7
    have HB7 := Lib.hid hb7
    have HD7 := Lib.hid hD7
    obtain ⟨pb, hpb⟩ : ∃ n, n = parts b.length := ⟨_, rfl⟩
    rw [← hpb] at hw7
    have HW7 := Lib.hid (And.intro hw7 hpb)
    have pb1 : 1 ≤ pb ∧ pb ≤ 20 := by rw [hpb]; exact HPB.out
    obtain ⟨pb1, pb20⟩ := pb1
    clear hp hb7 hD7 hw7 hpb HC7 HP7
    go_wp2_with fail
    refine (writes_at Sd7 c D7 w7 HB7.out.disk).mono ?_
    rintro e wq ⟨rfl, hwq⟩
    subst hwq
    rw [HW7.out.1]
    obtain ⟨i, hi⟩ : ∃ i, i = un % (pb + 1) := ⟨_, rfl⟩
    have hin : i ≤ pb := by have := Nat.mod_lt un (show 0 < pb + 1 by omega); omega
    have hii : (un : Int) % ((pb : Int) + 1) = (i : Int) := by rw [hi, Int.natCast_emod, Int.natCast_add]; rfl
    have hie : Int.tmod (un : Int) ((pb : Int) + 1) = (i : Int) := by rw [Int.tmod_eq_emod_of_nonneg (by omega)]; exact hii
    have hp0 : ((pb : Int) + 1 == 0) = false := by simp; omega
    clear hi
    go_wp2_with fail
    refine (cut_at Sd7 c D7 (i : Int) w7 HB7.out.disk (by rw [HW7.out.1]; omega)).mono ?_
    rintro e w8 ⟨f, rfl, hd, ho⟩
    obtain ⟨hd8, hlt8, hnew8, hoff8⟩ := cut_new HB7.out.off hd ho
    have hfa := found_app (q := i) HF6.out (by decide) (by rw [HJX.out.1]; decide) (by have := HS.out; omega) HRO.out HN6.out.2.1 HN6.out.2.2 (by rw [← HD7.out, HW7.out.1]; exact hin)
    rw [← HD7.out, HW7.out.1] at hfa
    obtain ⟨F, hF⟩ : ∃ F, F = D7.cut (i : Int) := ⟨_, rfl⟩
    rw [← hF] at hd8 hfa
    have hfw : F.wr = [] := by rw [hF]; rfl
    obtain ⟨Sf, hSf⟩ : ∃ S : Nat → Prop, S = fun b => w7.heap.size ≤ b ∧ b < w8.heap.size := ⟨_, rfl⟩
    have h8 : DiskAt w8 Sf f F ∧ (∀ b, Sf b → b < w8.heap.size) ∧ (∀ b, Sf b → w.heap.size ≤ b) := by rw [hSf]; exact ⟨hd8, hlt8, hnew8⟩
    have H8 := Lib.hid h8
    have HO8 := Lib.hid hoff8
    have HFW := Lib.hid hfw
    have HFA := Lib.hid hfa
    clear hd ho hd8 hlt8 hnew8 hoff8 hfa hF hfw hSf h8 HB7 hii hie hp0 HF6 HN6 HB6 HRO HD7 HB6a
    by_cases hip : i = pb
    · subst hip
      obtain ⟨Jd, hJd⟩ : ∃ J, J = Jx.app b := ⟨_, rfl⟩
      have hfd := HFA.out.2 rfl
      rw [← hJd] at hfd
      have hjd : Jd.first = 1 ∧ Jd.recs.length = 2 ∧ Jd.recs[1]? = some b := by
        rw [hJd]
        refine ⟨HJX.out.2.1, ?_, ?_⟩
        · show (Jx.recs ++ [b]).length = 2
          rw [List.length_append, HJX.out.2.2.1]
          rfl
        · show (Jx.recs ++ [b])[1]? = some b
          rw [List.getElem?_append_right (by rw [HJX.out.2.2.1]; exact Nat.le_refl _), HJX.out.2.2.1]
          rfl
      have HFD : Hid (Fit F Jd 3 4) := hfd.less (Nat.zero_le _) (Nat.le_refl _)
      have HBL : Hid (b.length ≤ 100000000) := by show _ ≤ _; have := HS.out; omega
      have HJD := Lib.hid hjd
      clear hJd hfd hjd HFA
      go_wp2_with fail
      refine (open_fit Sf f F Jd 3 4 w8 H8.out.1 H8.out.2.1 (by rw [HFW.out]; decide) HFD.out (by decide)).mono ?_
      rintro e w9 ⟨jy, Sy, Sdy, rfl, hj, hd, hs1, hs2, ho⟩
      have hb := Both.opened HO8.out H8.out.2.2 hj hd hs1 hs2 ho
      obtain ⟨Jy, hJy⟩ : ∃ Jy : Jn, Jy = { Jd with op := Jd.op + 1 } := ⟨_, rfl⟩
      have hjy : Jy.first = 1 ∧ Jy.recs.length = 2 ∧ Jy.recs[1]? = some b := by rw [hJy]; exact HJD.out
      rw [← hJy] at hb
      have HB9 := Lib.hid hb
      have HJY := Lib.hid hjy
      clear hj hd hs1 hs2 ho hb hJy hjy HFD HJD H8 HO8
      go_wp2_with fail
      refine (next_j Sy f jy Jy w9 HB9.out.jnl (by rw [HJY.out.1, HJY.out.2.1]; decide)).mono ?_
      rintro e wx ⟨he, m2, rfl⟩
      rw [HJY.out.1, HJY.out.2.1] at he
      subst he
      have HB10 := Lib.hid (HB9.out.new (off_drew w9 m2))
      go_wp2_with fail
      have hlast := HJY.out.2.2
      have hrec := record_at Sy jy f Jy 1 b _ HB10.out.jnl hlast HBL.out (by rw [HJY.out.1, HJY.out.2.1]; decide)
      rw [HJY.out.1] at hrec
      refine Calls.mono (show Calls _ _ #[.pointer (some ⟨jy, 0, none⟩), .int .i64 2] _ _ from hrec) ?_
      clear hrec
      rintro e w10 ⟨v10, rfl, hr10, hb10⟩
      have HE0 := Lib.hid (HB10.out.off.trans ((off_below hb10).mono (fun _ _ h => h.elim)))
      have hcv := run_str hr10
      have HA10 := HB0.out.off (HB10.out.off.trans ((off_below hb10).mono (fun _ _ h => h.elim)))
      have hcb := HA10.str
      rw [← HLB.out] at hcb
      obtain ⟨A10, cap10, rfl, _, _⟩ := row_len hr10
      rw [← HLB.out] at hcv ⊢
      have hbb : ((bs b).toList == (bs b).toList) = true := by simp
      clear hr10 hb10 HA10 hlast
      go_wp2_with fail
      refine (works_at _).mono ?_
      rintro e wz ⟨rfl, hwz⟩
      have HE := Lib.hid (off_to_below (Off.zero (HE0.out.trans (hwz.mono (fun _ _ h => h.elim)))))
      clear hwz
      go_wp2_with fail
      go_ret
      exact ⟨rfl, HE.out⟩
    · have hipe : ((i : Int) == (pb : Int)) = false := by simp; omega
      obtain ⟨Jd, hJd⟩ : ∃ J, J = Jx := ⟨_, rfl⟩
      have hfd := HFA.out.1 (by omega)
      rw [← hJd] at hfd
      have hjd : Jd.first = 1 ∧ Jd.recs.length = 1 ∧ ∀ l ∈ Jd.recs, l.length ≤ 2000 := by rw [hJd]; exact ⟨HJX.out.2.1, HJX.out.2.2.1, HJX.out.2.2.2.2⟩
      have HFD : Hid (Fit F Jd 3 4) := hfd.less (by rw [hJd, HJX.out.1]; exact Nat.le_refl _) (by decide)
      have HJD := Lib.hid hjd
      clear hJd hfd hjd HFA
      go_wp2_with fail
      refine (open_fit Sf f F Jd 3 4 w8 H8.out.1 H8.out.2.1 (by rw [HFW.out]; decide) HFD.out (by decide)).mono ?_
      rintro e w9 ⟨jy, Sy, Sdy, rfl, hj, hd, hs1, hs2, ho⟩
      have hb := Both.opened HO8.out H8.out.2.2 hj hd hs1 hs2 ho
      obtain ⟨Jy, hJy⟩ : ∃ Jy : Jn, Jy = { Jd with op := Jd.op + 1 } := ⟨_, rfl⟩
      have hjy : Jy.first = 1 ∧ Jy.recs.length = 1 ∧ ∀ l ∈ Jy.recs, l.length ≤ 2000 := by rw [hJy]; exact HJD.out
      rw [← hJy] at hb
      have HB9 := Lib.hid hb
      have HJY := Lib.hid hjy
      clear hj hd hs1 hs2 ho hb hJy hjy HFD HJD H8 HO8
      go_wp2_with fail
      refine (next_j Sy f jy Jy w9 HB9.out.jnl (by rw [HJY.out.1, HJY.out.2.1]; decide)).mono ?_
      rintro e wx ⟨he, m2, rfl⟩
      rw [HJY.out.1, HJY.out.2.1] at he
      subst he
      have HB10 := Lib.hid (HB9.out.new (off_drew w9 m2))
      go_wp2_with fail
      obtain ⟨l, hlast⟩ : ∃ l, Jy.recs[0]? = some l := ⟨_, List.getElem?_eq_getElem (by rw [HJY.out.2.1]; decide)⟩
      have HBL : Hid (l.length ≤ 100000000) := by show _ ≤ _; have := HJY.out.2.2 l (List.mem_of_getElem? hlast); omega
      have hrec := record_at Sy jy f Jy 0 l _ HB10.out.jnl hlast HBL.out (by rw [HJY.out.1, HJY.out.2.1]; decide)
      rw [HJY.out.1] at hrec
      refine Calls.mono (show Calls _ _ #[.pointer (some ⟨jy, 0, none⟩), .int .i64 1] _ _ from hrec) ?_
      clear hrec
      rintro e w10 ⟨v10, rfl, hr10, hb10⟩
      have HE0 := Lib.hid (HB10.out.off.trans ((off_below hb10).mono (fun _ _ h => h.elim)))
      obtain ⟨A10, cap10, rfl, _, _⟩ := row_len hr10
      clear hr10 hb10 hlast
      go_wp2_with fail
      refine (works_at _).mono ?_
      rintro e wz ⟨rfl, hwz⟩
      have HE := Lib.hid (off_to_below (Off.zero (HE0.out.trans (hwz.mono (fun _ _ h => h.elim)))))
      clear hwz
      go_wp2_with fail
      go_ret
      exact ⟨rfl, HE.out⟩
  · have hkpe : ((k : Int) == (pa : Int)) = false := by simp; omega
    obtain ⟨Jc, hJc⟩ : ∃ J, J = newJ := ⟨_, rfl⟩
    have hfc := HFA.out.1 (by omega)
    rw [← hJc] at hfc
    have hjc : Jc.op = 1 ∧ Jc.first = 1 ∧ Jc.recs.length = 0 ∧ Jc.used ≤ 21 ∧ ∀ l ∈ Jc.recs, l.length ≤ 2000 := by
      rw [hJc]
      exact ⟨rfl, rfl, rfl, by decide, fun l hl => by cases hl⟩
    have HFC : Hid (Fit C Jc 2 2) := hfc.less (by rw [hjc.1]; exact Nat.le_refl _) (by decide)
    have HJC := Lib.hid hjc
    clear hJc hfc hjc HFA
    go_wp2_with fail
    refine (open_fit Sc c C Jc 2 2 w4 H4.out.1 H4.out.2.1 (by rw [HCN.out.2.2]; decide) HFC.out (by decide)).mono ?_
    rintro e w5 ⟨jx, Sx, Sdx, rfl, hj, hd, hs1, hs2, ho⟩
    have hb := Both.opened HO4.out H4.out.2.2 hj hd hs1 hs2 ho
    have hf := HFC.out.reopen
    have hn : (C.push (Jc.area * (C.n / 2)) (headB Jc.gen (Jc.op + 1) Jc.first Jc.size)).n = 120 := HCN.out.1
    obtain ⟨C5, hC5⟩ : ∃ C5, C5 = C.push (Jc.area * (C.n / 2)) (headB Jc.gen (Jc.op + 1) Jc.first Jc.size) := ⟨_, rfl⟩
    obtain ⟨Jx, hJx⟩ : ∃ Jx : Jn, Jx = { Jc with op := Jc.op + 1 } := ⟨_, rfl⟩
    have hjx : Jx.op = 2 ∧ Jx.first = 1 ∧ Jx.recs.length = 0 ∧ Jx.used ≤ 21 ∧ ∀ l ∈ Jx.recs, l.length ≤ 2000 := by rw [hJx]; exact ⟨by show Jc.op + 1 = 2; rw [HJC.out.1], HJC.out.2⟩
    rw [← hC5, ← hJx] at hb hf
    rw [← hC5] at hn
    have HB5 := Lib.hid hb
    have HF5 := Lib.hid hf
    have HN5 := Lib.hid hn
    have HJX := Lib.hid hjx
    clear hj hd hs1 hs2 ho hb hf hn hC5 hJx hjx HFC HJC HCN H4 HO4
    go_wp2_with fail
    refine (next_j Sx c jx Jx w5 HB5.out.jnl (by rw [HJX.out.2.1, HJX.out.2.2.1]; decide)).mono ?_
    rintro e wx ⟨he, m1, rfl⟩
    rw [HJX.out.2.1, HJX.out.2.2.1] at he
    subst he
    have HB5b := Lib.hid (HB5.out.new (off_drew w5 m1))
    go_wp2_with fail
    refine (settle_at Sdx c C5 _ HB5b.out.disk).mono ?_
    rintro e w6 ⟨rfl, hd, ho⟩
    have hb6 := HB5b.out.settle hd ho
    have hf6 : Fit (settled C5) Jx 2 3 := HF5.out.settle
    have hn6 : (settled C5).n = 120 := HN5.out
    obtain ⟨C6, hC6⟩ : ∃ D, D = settled C5 := ⟨_, rfl⟩
    have hs6 : C6.base = C6.now ∧ C6.wr = [] := by rw [hC6]; exact ⟨rfl, rfl⟩
    rw [← hC6] at hb6 hf6 hn6
    have HB6 := Lib.hid hb6
    have HF6 := Lib.hid hf6
    have HN6 := Lib.hid (And.intro hn6 hs6)
    clear hd ho hb6 hf6 hn6 hs6 hC6 HB5 HB5b HF5 HN5
    go_wp2_with fail
    have hro : ¬ (C6.n / 2 - 1 - Jx.used < parts b.length) := by
      rw [HN6.out.1]
      have h1 := HPB.out
      have h2 := HJX.out.2.2.2.1
      omega
    have HP7 : Hid (putR C6 Jx false b = (appD C6 Jx b, Jx.app b)) := by
      show _ = _
      unfold putR
      rw [if_neg Bool.false_ne_true, if_neg hro]
    have HB6a := Lib.hid (HB0.out.off HB6.out.off)
    have HC7 := Lib.hid (append_any Sdx Sx c jx C6 Jx 3 b B cb w6 HB6.out.disk HB6.out.slt HB6.out.jnl HB6.out.apart HF6.out (by decide) (by rw [HN6.out.2.2]; decide) (by have := HS.out; omega) HCB.out.1 HCB.out.2 (HB6a.out.arg HB6.out.dnew))
    rw [if_neg hro, HP7.out] at HC7
    have HRO := Lib.hid (show parts b.length ≤ C6.n / 2 - 1 - Jx.used by omega)
    clear hro
    rw [HLB.out]
    refine HC7.out.mono ?_
    rw [← HLB.out]
    rintro e w7 ⟨rfl, hp⟩
    obtain ⟨S7, Sd7, hb7, -, -, -⟩ := HB6.out.put hp
    obtain ⟨D7, hD7⟩ : ∃ D, D = appD C6 Jx b := ⟨_, rfl⟩
    have hb7 : Both w w7 S7 Sd7 c jx (appD C6 Jx b) (Jx.app b) := hb7
    have hw7 : D7.wr.length = parts b.length := by rw [hD7, app_wr, HN6.out.2.2]; exact Nat.zero_add _
    rw [← hD7] at hb7
    have HB7 := Lib.hid hb7
    have HD7 := Lib.hid hD7
    obtain ⟨pb, hpb⟩ : ∃ n, n = parts b.length := ⟨_, rfl⟩
    rw [← hpb] at hw7
    have HW7 := Lib.hid (And.intro hw7 hpb)
    have pb1 : 1 ≤ pb ∧ pb ≤ 20 := by rw [hpb]; exact HPB.out
    obtain ⟨pb1, pb20⟩ := pb1
    clear hp hb7 hD7 hw7 hpb HC7 HP7
    go_wp2_with fail
    refine (writes_at Sd7 c D7 w7 HB7.out.disk).mono ?_
    rintro e wq ⟨rfl, hwq⟩
    subst hwq
    rw [HW7.out.1]
    obtain ⟨i, hi⟩ : ∃ i, i = un % (pb + 1) := ⟨_, rfl⟩
    have hin : i ≤ pb := by have := Nat.mod_lt un (show 0 < pb + 1 by omega); omega
    have hii : (un : Int) % ((pb : Int) + 1) = (i : Int) := by rw [hi, Int.natCast_emod, Int.natCast_add]; rfl
    have hie : Int.tmod (un : Int) ((pb : Int) + 1) = (i : Int) := by rw [Int.tmod_eq_emod_of_nonneg (by omega)]; exact hii
    have hp0 : ((pb : Int) + 1 == 0) = false := by simp; omega
    clear hi
    go_wp2_with fail
    refine (cut_at Sd7 c D7 (i : Int) w7 HB7.out.disk (by rw [HW7.out.1]; omega)).mono ?_
    rintro e w8 ⟨f, rfl, hd, ho⟩
    obtain ⟨hd8, hlt8, hnew8, hoff8⟩ := cut_new HB7.out.off hd ho
    have hfa := found_app (q := i) HF6.out (by decide) (by rw [HJX.out.1]; decide) (by have := HS.out; omega) HRO.out HN6.out.2.1 HN6.out.2.2 (by rw [← HD7.out, HW7.out.1]; exact hin)
    rw [← HD7.out, HW7.out.1] at hfa
    obtain ⟨F, hF⟩ : ∃ F, F = D7.cut (i : Int) := ⟨_, rfl⟩
    rw [← hF] at hd8 hfa
    have hfw : F.wr = [] := by rw [hF]; rfl
    obtain ⟨Sf, hSf⟩ : ∃ S : Nat → Prop, S = fun b => w7.heap.size ≤ b ∧ b < w8.heap.size := ⟨_, rfl⟩
    have h8 : DiskAt w8 Sf f F ∧ (∀ b, Sf b → b < w8.heap.size) ∧ (∀ b, Sf b → w.heap.size ≤ b) := by rw [hSf]; exact ⟨hd8, hlt8, hnew8⟩
    have H8 := Lib.hid h8
    have HO8 := Lib.hid hoff8
    have HFW := Lib.hid hfw
    have HFA := Lib.hid hfa
    clear hd ho hd8 hlt8 hnew8 hoff8 hfa hF hfw hSf h8 HB7 hii hie hp0 HF6 HN6 HB6 HRO HD7 HB6a
    by_cases hip : i = pb
    · subst hip
      obtain ⟨Jd, hJd⟩ : ∃ J, J = Jx.app b := ⟨_, rfl⟩
      have hfd := HFA.out.2 rfl
      rw [← hJd] at hfd
      have hjd : Jd.first = 1 ∧ Jd.recs.length = 1 ∧ Jd.recs[0]? = some b := by
        rw [hJd]
        refine ⟨HJX.out.2.1, ?_, ?_⟩
        · show (Jx.recs ++ [b]).length = 1
          rw [List.length_append, HJX.out.2.2.1]
          rfl
        · show (Jx.recs ++ [b])[0]? = some b
          rw [List.getElem?_append_right (by rw [HJX.out.2.2.1]; exact Nat.le_refl _), HJX.out.2.2.1]
          rfl
      have HFD : Hid (Fit F Jd 3 4) := hfd.less (Nat.zero_le _) (Nat.le_refl _)
      have HBL : Hid (b.length ≤ 100000000) := by show _ ≤ _; have := HS.out; omega
      have HJD := Lib.hid hjd
      clear hJd hfd hjd HFA
      go_wp2_with fail
      refine (open_fit Sf f F Jd 3 4 w8 H8.out.1 H8.out.2.1 (by rw [HFW.out]; decide) HFD.out (by decide)).mono ?_
      rintro e w9 ⟨jy, Sy, Sdy, rfl, hj, hd, hs1, hs2, ho⟩
      have hb := Both.opened HO8.out H8.out.2.2 hj hd hs1 hs2 ho
      obtain ⟨Jy, hJy⟩ : ∃ Jy : Jn, Jy = { Jd with op := Jd.op + 1 } := ⟨_, rfl⟩
      have hjy : Jy.first = 1 ∧ Jy.recs.length = 1 ∧ Jy.recs[0]? = some b := by rw [hJy]; exact HJD.out
      rw [← hJy] at hb
      have HB9 := Lib.hid hb
      have HJY := Lib.hid hjy
      clear hj hd hs1 hs2 ho hb hJy hjy HFD HJD H8 HO8
      go_wp2_with fail
      refine (next_j Sy f jy Jy w9 HB9.out.jnl (by rw [HJY.out.1, HJY.out.2.1]; decide)).mono ?_
      rintro e wx ⟨he, m2, rfl⟩
      rw [HJY.out.1, HJY.out.2.1] at he
      subst he
      have HB10 := Lib.hid (HB9.out.new (off_drew w9 m2))
      go_wp2_with fail
      have hlast := HJY.out.2.2
      have hrec := record_at Sy jy f Jy 0 b _ HB10.out.jnl hlast HBL.out (by rw [HJY.out.1, HJY.out.2.1]; decide)
      rw [HJY.out.1] at hrec
      refine Calls.mono (show Calls _ _ #[.pointer (some ⟨jy, 0, none⟩), .int .i64 1] _ _ from hrec) ?_
      clear hrec
      rintro e w10 ⟨v10, rfl, hr10, hb10⟩
      have HE0 := Lib.hid (HB10.out.off.trans ((off_below hb10).mono (fun _ _ h => h.elim)))
      have hcv := run_str hr10
      have HA10 := HB0.out.off (HB10.out.off.trans ((off_below hb10).mono (fun _ _ h => h.elim)))
      have hcb := HA10.str
      rw [← HLB.out] at hcb
      obtain ⟨A10, cap10, rfl, _, _⟩ := row_len hr10
      rw [← HLB.out] at hcv ⊢
      have hbb : ((bs b).toList == (bs b).toList) = true := by simp
      clear hr10 hb10 HA10 hlast
      go_wp2_with fail
      refine (works_at _).mono ?_
      rintro e wz ⟨rfl, hwz⟩
      have HE := Lib.hid (off_to_below (Off.zero (HE0.out.trans (hwz.mono (fun _ _ h => h.elim)))))
      clear hwz
      go_wp2_with fail
      go_ret
      exact ⟨rfl, HE.out⟩
    · have hipe : ((i : Int) == (pb : Int)) = false := by simp; omega
      obtain ⟨Jd, hJd⟩ : ∃ J, J = Jx := ⟨_, rfl⟩
      have hfd := HFA.out.1 (by omega)
      rw [← hJd] at hfd
      have hjd : Jd.first = 1 ∧ Jd.recs.length = 0 ∧ ∀ l ∈ Jd.recs, l.length ≤ 2000 := by rw [hJd]; exact ⟨HJX.out.2.1, HJX.out.2.2.1, HJX.out.2.2.2.2⟩
      have HFD : Hid (Fit F Jd 3 4) := hfd.less (by rw [hJd, HJX.out.1]; exact Nat.le_refl _) (by decide)
      have HJD := Lib.hid hjd
      clear hJd hfd hjd HFA
      go_wp2_with fail
      refine (open_fit Sf f F Jd 3 4 w8 H8.out.1 H8.out.2.1 (by rw [HFW.out]; decide) HFD.out (by decide)).mono ?_
      rintro e w9 ⟨jy, Sy, Sdy, rfl, hj, hd, hs1, hs2, ho⟩
      have hb := Both.opened HO8.out H8.out.2.2 hj hd hs1 hs2 ho
      obtain ⟨Jy, hJy⟩ : ∃ Jy : Jn, Jy = { Jd with op := Jd.op + 1 } := ⟨_, rfl⟩
      have hjy : Jy.first = 1 ∧ Jy.recs.length = 0 ∧ ∀ l ∈ Jy.recs, l.length ≤ 2000 := by rw [hJy]; exact HJD.out
      rw [← hJy] at hb
      have HB9 := Lib.hid hb
      have HJY := Lib.hid hjy
      clear hj hd hs1 hs2 ho hb hJy hjy HFD HJD H8 HO8
      go_wp2_with fail
      refine (next_j Sy f jy Jy w9 HB9.out.jnl (by rw [HJY.out.1, HJY.out.2.1]; decide)).mono ?_
      rintro e wx ⟨he, m2, rfl⟩
      rw [HJY.out.1, HJY.out.2.1] at he
      subst he
      have HB10 := Lib.hid (HB9.out.new (off_drew w9 m2))
      go_wp2_with fail
      refine (record_none Sy jy f Jy 0 _ HB10.out.jnl (.inl (by rw [HJY.out.1]; decide)) (by rw [HJY.out.1, HJY.out.2.1]; decide)).mono ?_
      rintro e wx ⟨rfl, m3, rfl⟩
      have HE0 := Lib.hid (HB9.out.new (off_drew w9 (m2 + m3))).off
      go_wp2_with fail
      refine (works_at _).mono ?_
      rintro e wz ⟨rfl, hwz⟩
      have HE := Lib.hid (off_to_below (Off.zero (HE0.out.trans (hwz.mono (fun _ _ h => h.elim)))))
      clear hwz
      go_wp2_with fail
      go_ret
      exact ⟨rfl, HE.out⟩

end Go.Proofs.Ytgdedgfohjplmaa.Jnl

/- What comes in: rows of bytes, bytes. -/
namespace Go.Proofs.Ytgdedgfohjplmaa.Jnl
open Go.RowKit Go.Maps Sec

def IsRow8 (w : World) (a : Option Addr) (len cap : Nat) (zs : List Int) : Prop :=
  (a = none ∧ len = 0 ∧ cap = 0 ∧ zs = []) ∨
  ∃ x, a = some x ∧ len ≤ cap ∧ cap ≤ maxLen ∧ zs.length = cap ∧ (∀ i, i < zs.length → w.cell? (x.add i) = some (.int .u8 (zs.getD i 0))) ∧ ∀ n ∈ zs, (Lit.int .u8 n).wf = true
theorem u8_wf {n : Int} (h : (Lit.int .u8 n).wf = true) : 0 ≤ n ∧ n ≤ 255 := by
  simp [Lit.wf, IntKind.min, IntKind.max, IntKind.bits, IntKind.signed] at h
  simpa using h
theorem u8_of {n : Int} (h : (Lit.int .u8 n).wf = true) : ∃ t : UInt8, n = (t.toNat : Int) := by
  have hb := u8_wf h
  refine ⟨UInt8.ofNat n.toNat, ?_⟩
  rw [UInt8.toNat_ofNat']
  omega
theorem arg_of_row {w : World} {a : Option Addr} {len cap : Nat} {zs : List Int} (h : IsRow8 w a len cap zs) : ∃ l : List UInt8, l.length = len ∧ len ≤ cap ∧ cap ≤ maxLen ∧ Arg0 w w a l cap := by
  rcases h with ⟨rfl, rfl, rfl, rfl⟩ | ⟨x, rfl, hl, hm, hz, hcell, hwz⟩
  · exact ⟨[], rfl, Nat.le_refl _, by unfold maxLen; omega, .inl ⟨rfl, rfl⟩⟩
  · refine ⟨(zs.take len).map fun n => UInt8.ofNat n.toNat, by simp; omega, hl, hm, ?_⟩
    by_cases h0 : cap = 0
    · refine .inl ⟨?_, h0⟩
      rw [show len = 0 by omega]
      rfl
    · obtain ⟨b, off, spot⟩ := x
      have hc := hcell 0 (by omega)
      have hspot : spot = none := by simpa [Addr.add] using World.cell?_spot hc
      subst hspot
      have hb : b < w.heap.size := World.block_lt_of_cell? w _ (show w.cell? ⟨b, off, none⟩ = _ by simpa [Addr.add] using hc)
      refine .inr ⟨b, off, rfl, hb, hb, fun i v hi => ?_⟩
      have hi2 : i < len := by
        have := (List.getElem?_eq_some_iff.1 hi).1
        simp [u8s] at this
        omega
      have hcc := hcell i (by omega)
      rw [Addr.add_mid] at hcc
      rw [hcc]
      have hw := u8_wf (hwz (zs.getD i 0) (by rw [show zs.getD i 0 = zs[i]'(by omega) by simp [show i < zs.length by omega]]; exact List.getElem_mem _))
      have hv : v = .int .u8 (((UInt8.ofNat (zs.getD i 0).toNat).toNat : Nat) : Int) := by
        have h1 : zs[i]? = some (zs.getD i 0) := by simp [show i < zs.length by omega]
        simp only [u8s, List.getElem?_map, List.getElem?_take, hi2, if_true, h1, Option.map_some] at hi
        exact (Option.some.inj hi).symm
      rw [hv, UInt8.toNat_ofNat']
      congr 2
      omega
end Go.Proofs.Ytgdedgfohjplmaa.Jnl
