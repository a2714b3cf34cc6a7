/- A part of the proof of JournalKnown: JnlCutsW KToldP. -/
import Derived.Deep.OwnRows
import Derived.Lib.SlBytesConst
import Derived.Test.YtgdedgfohjplmaaGreatK09
import Derived.Test.YtgdedgfohjplmaaGreatK00
set_option maxRecDepth 100000
set_option maxHeartbeats 40000000
namespace Go.Proofs.YtgdedgfohjplmaaGreat.Jnl
open Go.RowKit Go.Maps Sec
def CutsInv (w : World) (N k : Nat) (S Sd : Nat → Prop) (d jb : Nat) (D : Dsk) (J : Jn) (wr : World) : Prop := Both w wr S Sd d jb D J ∧ Fit D J 0 (1 + 2 * k) ∧ D.n = N ∧ D.wr.length ≤ 2 + 900 * k ∧ Coh D
theorem CutsInv.put {w wr w2 : World} {N k : Nat} {S Sd S2 Sd2 : Nat → Prop} {d jb : Nat} {D : Dsk} {J : Jn} (h : CutsInv w N k S Sd d jb D J wr) (hk : k ≤ 60) (ck : Bool) {l : List UInt8} (hl : l.length ≤ 1048576 ∧ parts l.length ≤ 890) (hb : Both w w2 S2 Sd2 d jb (putR D J ck l).1 (putR D J ck l).2) : Both w w2 S2 Sd2 d jb (putR D J ck l).1 (putR D J ck l).2 ∧ Fit (putR D J ck l).1 (putR D J ck l).2 0 (2 + 2 * k) ∧ (putR D J ck l).1.n = N ∧ (putR D J ck l).1.wr.length ≤ 893 + 900 * k ∧ Coh (putR D J ck l).1 := by
 obtain ⟨_, h2, h3, h4, h5⟩ := h
 obtain ⟨a1, a2, a3, a4⟩ := putR_fit ck h2 (by omega) hl.1
 exact ⟨hb, a1.less (Nat.le_refl _) (by omega), a2.trans h3, by omega, a4 h5⟩
theorem cuts_walk (w : World) (l : List CallJ) (A : Option Addr) (cap : Nat) (nn wh qt ag : UInt8) (hl : CJs w w A l) (hlc : l.length ≤ cap) (hcap : cap ≤ maxLen) :
  Calls Tryz.prog 18 #[.int .u8 (nn.toNat : Int), .slice A l.length cap, .int .u8 (wh.toNat : Int), .int .u8 (qt.toNat : Int), .int .u8 (ag.toNat : Int)] w fun e w' => e = .returned (.bool true) ∧ Below w.heap.size w w' := by
 obtain ⟨n1, hn1⟩ : ∃ n, n = nn.toNat := ⟨_, rfl⟩
 obtain ⟨n2, hn2⟩ : ∃ n, n = wh.toNat := ⟨_, rfl⟩
 obtain ⟨n3, hn3⟩ : ∃ n, n = qt.toNat := ⟨_, rfl⟩
 obtain ⟨n4, hn4⟩ : ∃ n, n = ag.toNat := ⟨_, rfl⟩
 have b1 : n1 < 256 := by rw [hn1]; exact nn.toNat_lt
 have b2 : n2 < 256 := by rw [hn2]; exact wh.toNat_lt
 have b3 : n3 < 256 := by rw [hn3]; exact qt.toNat_lt
 have b4 : n4 < 256 := by rw [hn4]; exact ag.toNat_lt
 rw [← hn1, ← hn2, ← hn3, ← hn4]
 have HL := Lib.hid hl
 have HC := Lib.hid (And.intro hlc hcap)
 have HLG := Lib.hid (large_at w A l cap w hl hlc hcap)
 clear hn1 hn2 hn3 hn4 hl hcap
 obtain ⟨bg, hbg⟩ : ∃ b, b = bigJ l := ⟨_, rfl⟩
 rw [← hbg] at HLG
 obtain ⟨len, hlen⟩ : ∃ n, n = l.length := ⟨_, rfl⟩
 rw [← hlen] at HLG hlc ⊢
 have HLEN := Lib.hid hlen
 have i1 : (len : Int) ≤ (cap : Int) := by omega
 by_cases hbig : bg = true ∨ len = 0
 ·cases bg with
  | true =>
   clear hbig hbg hlc hlen
   go_enter Tryz.func18, Tryz.ntmps18
   go_wp2_with fail
   refine HLG.out.mono ?_
   rintro e wq ⟨rfl, rfl⟩
   go_wp2_with fail
   refine (works_at _).mono ?_
   rintro e w2 ⟨rfl, ho⟩
   go_wp2_with fail
   go_ret
   exact ⟨rfl, off_to_below ho⟩
  | false =>
   have h0 : len = 0 := hbig.resolve_left (fun h => by cases h)
   subst h0
   clear hbig hbg hlc hlen
   go_enter Tryz.func18, Tryz.ntmps18
   go_wp2_with fail
   refine HLG.out.mono ?_
   rintro e wq ⟨rfl, rfl⟩
   go_wp2_with fail
   refine (works_at _).mono ?_
   rintro e w2 ⟨rfl, ho⟩
   go_wp2_with fail
   go_ret
   exact ⟨rfl, off_to_below ho⟩
 have hbgf : bg = false := by
  cases bg with
  | true => exact absurd (.inl rfl) hbig
  | false => rfl
 have hln0 : 0 < len := Nat.pos_of_ne_zero (fun h => hbig (.inr h))
 subst hbgf
 have hsm : len ≤ 60 ∧ totalJ l ≤ 3000 := by
  have h1 := hbg
  unfold bigJ at h1
  have h2 := of_decide_eq_false h1.symm
  omega
 have HSM := Lib.hid hsm
 have HCS : Hid (∀ k, k < len → ∃ g off c, A = some ⟨g, off, none⟩ ∧ l[k]? = some c ∧ c.b.length ≤ 3000 ∧ ∀ wr, Off (fun b => w.heap.size ≤ b) w wr → CJAt w wr g (off + k * 3) c) := fun k hk => by
  obtain ⟨g, off, c, h1, h2, h3⟩ := HL.out.at_ (j := k) (by omega)
  refine ⟨g, off, c, h1, h2, by have := totalJ_one l k c h2; omega, fun wr ho => h3.off ?_ ho⟩
  exact World.block_lt_of_cell? w _ h3.1
 have hl60 : len ≤ 60 := hsm.1
 have hlz : ((len : Int) == 0) = false := by simp; omega
 obtain ⟨N, hN⟩ : ∃ N, N = 8 + n1 % 64 := ⟨_, rfl⟩
 have hNi : (8 : Int) + (n1 : Int) % 64 = (N : Int) := by omega
 have hN8 : 8 ≤ N ∧ N ≤ 71 := by omega
 have HN8 := Lib.hid hN8
 obtain ⟨m, hm⟩ : ∃ m, m = n2 % len := ⟨_, rfl⟩
 have hmi : (n2 : Int) % (len : Int) = (m : Int) := by rw [hm, Int.natCast_emod]
 have hml : m < len := by rw [hm]; exact Nat.mod_lt _ hln0
 have hmt : Int.tmod (n2 : Int) (len : Int) = (m : Int) := by rw [Int.tmod_eq_emod_of_nonneg (by omega)]; exact hmi
 clear hbig hbg hsm hlen hN hm hN8
 go_enter Tryz.func18, Tryz.ntmps18
 go_wp2_with fail
 refine HLG.out.mono ?_
 rintro e wq ⟨rfl, hwq⟩
 subst hwq
 clear HLG
 go_wp2_with fail
 refine (new_at (N : Int) wq).mono ?_
 rintro e v0 ⟨d, rfl, hd, ho⟩
 rw [show (max 0 (min 16384 (N : Int))).toNat = N by have := HN8.out; omega] at hd
 have hd2 : DiskAt v0 (fun b => wq.heap.size ≤ b ∧ b < v0.heap.size) d (freshDisk N) := hd.mono (fun k hk h => ⟨h, hk⟩)
 have HV0 : Hid (Off (fun b => wq.heap.size ≤ b) wq v0) := ho.mono (fun _ _ h => h.elim)
 have HOP := Lib.hid (open_fresh _ d N v0 hd2 (fun b h => h.2) HN8.out.1)
 clear hd hd2 ho
 go_wp2_with fail
 refine HOP.out.mono ?_
 rintro e w1 ⟨jb0, Sj, Sd0, rfl, hj, hd, hs1, hs2, ho1⟩
 have hb := Both.fresh (w0 := wq) HV0.out (fun _ h => h.1) hj hd hs1 hs2 ho1
 obtain ⟨E, hE⟩ : ∃ E, E = (opened (freshDisk N) none).2 := ⟨_, rfl⟩
 have hen := opened_n N
 have hf := Fit.fresh N HN8.out.1 (by have := HN8.out.2; omega)
 rw [← hE] at hb hen hf
 have HI1 : Hid (CutsInv wq N 0 Sj Sd0 d jb0 E newJ w1) := ⟨hb, hf, hen.1, by rw [hen.2.1]; omega, hen.2.2⟩
 clear hj hd hs1 hs2 ho1 hb hf hen hE HV0 HOP
 go_wp2_with fail
 go_loopw [12, 13, 14] (fun jv ev iv wr => ∃ (k : Nat) (S Sd : Nat → Prop) (jb : Nat) (D : Dsk) (J : Jn), k ≤ m ∧ jv = .pointer (some ⟨jb, 0, none⟩) ∧ ev = .int .i64 0 ∧ iv = .int .i64 (k : Int) ∧ CutsInv wq N k S Sd d jb D J wr) (fun _ _ iv _ => m - (intOf iv).toNat)
 case atStart => exact ⟨0, Sj, Sd0, jb0, E, newJ, Nat.zero_le _, rfl, rfl, rfl, HI1.out⟩
 case round =>
  obtain ⟨k, S, Sd, jb, D, J, hk, rfl, rfl, rfl, hinv⟩ := hrel
  have HI := Lib.hid hinv
  clear hinv HI1
  by_cases hlt : k < m
  ·have hkd : decide (k < m) = true := by simp; omega
   obtain ⟨g, off, c, hA, hc, hcl, hat⟩ := HCS.out k (by omega)
   subst hA
   obtain ⟨c0, Ab, capb, c1, c2, harg, hb1, hb2⟩ := hat wr HI.out.1.off
   have k0 : (0 : Int) ≤ (k : Int) := by omega
   have k1 : (k : Int) < (len : Int) := by omega
   have hk60 : k ≤ 60 := by omega
   have HPUT := Lib.hid (put_fit (k := c.k) (z := c.z) HI.out.1 HI.out.2.1 (by omega) (by have := HI.out.2.2.2.1; omega) hcl hb1 hb2 harg)
   have HRS := Lib.hid (rep_small (k := c.k) hcl)
   have HAT := Lib.hid hat
   obtain ⟨ck, hck⟩ : ∃ ck, ck = c.k.toNat := ⟨_, rfl⟩
   obtain ⟨bl, hbl⟩ : ∃ bl, bl = c.b.length := ⟨_, rfl⟩
   have hck2 : ck < 256 := by rw [hck]; exact c.k.toNat_lt
   rw [← hck, ← hbl] at HPUT
   rw [← hck] at c0 HRS
   rw [← hbl] at c1
   have HCK := Lib.hid hck
   clear harg hb1 hb2 hcl hc hat hck hbl
   go_wp2_with fail
   refine HPUT.out.mono ?_
   rintro e w2 ⟨rfl, S2, Sd2, hb2, -, -, -⟩
   have hinv2 := HI.out.put hk60 _ HRS.out hb2
   obtain ⟨D2, hD2⟩ : ∃ D2, D2 = (putR D J (decide (ck % 9 = 4)) (rep c.b (ck / 9 + 1))).1 := ⟨_, rfl⟩
   obtain ⟨J2, hJ2⟩ : ∃ J2, J2 = (putR D J (decide (ck % 9 = 4)) (rep c.b (ck / 9 + 1))).2 := ⟨_, rfl⟩
   rw [← hD2, ← hJ2] at hinv2
   have HI2 := Lib.hid hinv2
   have c0' : w2.cell? ⟨g, off + k * 3, none⟩ = some (.int .u8 (ck : Int)) := by rw [HCK.out]; exact (HAT.out w2 HI2.out.1.off).1
   clear hb2 hinv2 hD2 hJ2 HPUT HRS c0 c1 c2
   by_cases h6 : 6 ≤ ck % 9
   ·have hd6 : decide ((6 : Int) ≤ (ck : Int) % 9) = true := by simp; omega
    clear h6
    go_wp2_with fail
    refine (open_both HI2.out.1.disk HI2.out.1.slt HI2.out.1.dnew HI2.out.1.off HI2.out.2.1 (by omega) (by have := HI2.out.2.2.2.1; omega)).mono ?_
    rintro e w3 ⟨jb3, S3, Sd3, rfl, hb3, -, -, -⟩
    have HI3 : Hid (CutsInv wq N (k + 1) S3 Sd3 d jb3 (D2.push (J2.area * (D2.n / 2)) (headB J2.gen (J2.op + 1) J2.first J2.size)) { J2 with op := J2.op + 1 } w3) :=
     ⟨hb3, HI2.out.2.1.reopen.less (Nat.le_refl _) (by omega), HI2.out.2.2.1, by show (D2.wr ++ [_]).length ≤ _; rw [List.length_append]; have := HI2.out.2.2.2.1; show D2.wr.length + 1 ≤ _; omega, HI2.out.2.2.2.2.push _ _⟩
    clear hb3
    go_wp2_with fail
    go_roundw
    case rel => exact ⟨k + 1, S3, Sd3, jb3, _, _, hlt, rfl, rfl, by go_num, HI3.out⟩
    case measure => simp [intOf]; omega
   ·have hd6 : decide ((6 : Int) ≤ (ck : Int) % 9) = false := by simp; omega
    clear h6
    have HI3 : Hid (CutsInv wq N (k + 1) S2 Sd2 d jb D2 J2 w2) := ⟨HI2.out.1, HI2.out.2.1.less (Nat.le_refl _) (by omega), HI2.out.2.2.1, by have := HI2.out.2.2.2.1; omega, HI2.out.2.2.2.2⟩
    go_wp2_with fail
    go_roundw
    case rel => exact ⟨k + 1, S2, Sd2, jb, _, _, hlt, rfl, rfl, by go_num, HI3.out⟩
    case measure => simp [intOf]; omega
  ·have hkd : decide (k < m) = false := by simp; omega
   obtain rfl : k = m := by omega
   have hk60 : k ≤ 60 := by omega
   clear hlt hk
   obtain ⟨g, off, c, hA, hc, hcl, hat⟩ := HCS.out k hml
   subst hA
   have HAT := Lib.hid hat
   have HCL := Lib.hid hcl
   clear hc hcl hat
   have k0 : (0 : Int) ≤ (k : Int) := by omega
   have k1 : (k : Int) < (len : Int) := by omega
   go_wp2_with fail
   refine (settle_at Sd d D wr HI.out.1.disk).mono ?_
   rintro e w3 ⟨rfl, hd, ho⟩
   have hb3 := HI.out.1.settle hd ho
   have hf3 : Fit (settled D) J 0 200 := HI.out.2.1.settle.less (Nat.le_refl _) (by omega)
   have hn3 : (settled D).n = N := HI.out.2.2.1
   obtain ⟨D3, hD3⟩ : ∃ D3, D3 = settled D := ⟨_, rfl⟩
   have hs3 : D3.base = D3.now ∧ D3.wr = [] := by rw [hD3]; exact ⟨rfl, rfl⟩
   rw [← hD3] at hb3 hf3 hn3
   have HB3 := Lib.hid hb3
   have HF3 := Lib.hid hf3
   have HN3 := Lib.hid (And.intro hn3 hs3)
   clear hd ho hb3 hf3 hn3 hs3 hD3 HI
   go_wp2_with fail
   refine (has_fit HB3.out HF3.out (by decide)).mono ?_
   rintro e w4 ⟨vb, rfl, hrb, ho4⟩
   have HRB := Lib.hid hrb
   have HB4 := Lib.hid (HB3.out.new ho4)
   have HSZ : Hid (w3.heap.size ≤ w4.heap.size) := ho4.size
   clear hrb ho4
   obtain ⟨c0, Ab, capb, c1, c2, harg, hb1, hb2⟩ := HAT.out w4 HB4.out.off
   have HPUT := Lib.hid (put_fit (k := c.k) (z := c.z) HB4.out HF3.out (by decide) (by rw [HN3.out.2.2]; decide) HCL.out hb1 hb2 harg)
   have HRS := Lib.hid (rep_small (k := c.k) HCL.out)
   obtain ⟨ck, hck⟩ : ∃ ck, ck = c.k.toNat := ⟨_, rfl⟩
   obtain ⟨bl, hbl⟩ : ∃ bl, bl = c.b.length := ⟨_, rfl⟩
   rw [← hck, ← hbl] at HPUT
   rw [← hck] at c0 HRS
   rw [← hbl] at c1
   clear harg hb1 hb2 hck hbl
   go_wp2_with fail
   refine HPUT.out.mono ?_
   rintro e w5 ⟨rfl, S5, Sd5, hb5, -, -, ho5⟩
   have hrb5 := str_off HRB.out ho5 (fun b h1 _ h => h.elim (fun hS => by have := HB3.out.jlt b hS; omega) (fun hS => by have := HB3.out.slt b hS; omega))
   obtain ⟨ckb, hckb⟩ : ∃ b, b = decide (ck % 9 = 4) := ⟨_, rfl⟩
   obtain ⟨lr, hlr⟩ : ∃ lr, lr = rep c.b (ck / 9 + 1) := ⟨_, rfl⟩
   rw [← hckb, ← hlr] at hb5
   rw [← hlr] at HRS
   obtain ⟨a1, a2, a3, a4⟩ := putR_fit ckb HF3.out (by decide) HRS.out.1
   have hcut : ∀ q : Nat, q ≤ (putR D3 J ckb lr).1.wr.length → _ := fun q hq => putR_cut ckb HF3.out (by decide) HRS.out.1 HN3.out.2.1 HN3.out.2.2 hq
   obtain ⟨D5, hD5⟩ : ∃ D5, D5 = (putR D3 J ckb lr).1 := ⟨_, rfl⟩
   obtain ⟨J5, hJ5⟩ : ∃ J5, J5 = (putR D3 J ckb lr).2 := ⟨_, rfl⟩
   rw [← hD5, ← hJ5] at hb5 a1
   rw [← hD5] at a2 a3 a4
   simp only [← hD5, ← hJ5] at hcut
   have HB5 := Lib.hid hb5
   have HF5 := Lib.hid a1
   have HN5 : Hid (D5.n = N ∧ D5.wr.length ≤ 891 ∧ Coh D5) := ⟨a2.trans HN3.out.1, by rw [HN3.out.2.2] at a3; have := HRS.out.2; have h0 : ([] : List (Nat × List UInt8)).length = 0 := rfl; omega, a4 (settled_coh HN3.out.2.1 HN3.out.2.2)⟩
   have HCUT := Lib.hid hcut
   have HRB5 := Lib.hid hrb5
   clear hb5 a1 a2 a3 a4 hcut hrb5 ho5 hD5 hJ5 hckb hlr HPUT HRS HB4 HRB c0 c1 c2 HB3 HN3
   go_wp2_with fail
   refine (has_fit HB5.out HF5.out (by decide)).mono ?_
   rintro e w6 ⟨va, rfl, hra, ho6⟩
   have HRA := Lib.hid hra
   have HB6 := Lib.hid (HB5.out.new ho6)
   have HRB6 := Lib.hid (str_off HRB5.out ho6 (fun _ _ _ h => h))
   clear hra ho6 HRB5 HB5
   obtain ⟨pw, hpw⟩ : ∃ n, n = D5.wr.length := ⟨_, rfl⟩
   have HPW := Lib.hid hpw
   have hpw9 : pw ≤ 891 := by rw [hpw]; exact HN5.out.2.1
   go_wp2_with fail
   refine (writes_at Sd5 d D5 w6 HB6.out.disk).mono ?_
   rintro e wz ⟨rfl, hwz⟩
   subst hwz
   rw [← hpw]
   obtain ⟨q, hq⟩ : ∃ q, q = n3 % (pw + 1) := ⟨_, rfl⟩
   have hqn : q ≤ pw := by have := Nat.mod_lt n3 (show 0 < pw + 1 by omega); omega
   have hqi : (n3 : Int) % ((pw : Int) + 1) = (q : Int) := by rw [hq, Int.natCast_emod, Int.natCast_add]; rfl
   have hqt : Int.tmod (n3 : Int) ((pw : Int) + 1) = (q : Int) := by rw [Int.tmod_eq_emod_of_nonneg (by omega)]; exact hqi
   have hp0 : ((pw : Int) + 1 == 0) = false := by simp; omega
   clear hq hpw
   go_wp2_with fail
   refine (cut_both HB6.out q (by rw [← HPW.out]; omega)).mono ?_
   rintro e w7 ⟨x, Sc, rfl, hdc, hcl, hcn, ho7⟩
   obtain ⟨Jc, hor, hfc⟩ := HCUT.out q (by rw [← HPW.out]; exact hqn)
   obtain ⟨C, hC⟩ : ∃ C, C = D5.cut (q : Int) := ⟨_, rfl⟩
   rw [← hC] at hdc hfc
   have hcs : C.base = C.now ∧ C.wr = [] := by rw [hC]; exact ⟨rfl, rfl⟩
   have HFC := Lib.hid hfc
   have HCS2 := Lib.hid hcs
   have HOR := Lib.hid hor
   have HO7 := Lib.hid ho7
   have HDC := Lib.hid (And.intro hdc (And.intro hcl hcn))
   clear hdc hcl hcn ho7 hor hfc hC hcs hqi hqt hp0 HCUT
   go_wp2_with fail
   refine (open_both (w0 := wq) HDC.out.1 HDC.out.2.1 (fun b hb => Nat.le_trans HB6.out.off.size (HDC.out.2.2 b hb)) (HB6.out.off.trans (HO7.out.mono (fun _ _ h => h.elim))) HFC.out (by decide) (by rw [HCS2.out.2]; decide)).mono ?_
   rintro e w8 ⟨jx, Sx, Sdx, rfl, hb8, hx1, hx2, ho8⟩
   have HO68 : Hid (Off (fun b => w6.heap.size ≤ b) w6 w8) := (HO7.out.mono (fun _ _ h => h.elim)).trans (ho8.mono (fun b _ hb => HDC.out.2.2 b hb))
   have hf8 := HFC.out.reopen
   obtain ⟨C8, hC8⟩ : ∃ C8, C8 = C.push (Jc.area * (C.n / 2)) (headB Jc.gen (Jc.op + 1) Jc.first Jc.size) := ⟨_, rfl⟩
   obtain ⟨Jx, hJx⟩ : ∃ Jx : Jn, Jx = { Jc with op := Jc.op + 1 } := ⟨_, rfl⟩
   have hhx : hasL Jx = hasL Jc := by rw [hJx]; rfl
   have hw8 : C8.wr.length = 1 := by rw [hC8]; show (C.wr ++ [_]).length = 1; rw [HCS2.out.2]; rfl
   have hfo : ∀ r : Nat, r ≤ C8.wr.length → _ := fun r hr => found_open HFC.out HCS2.out.1 HCS2.out.2 (by rw [← hC8]; exact hr)
   rw [← hC8, ← hJx] at hb8 hf8
   simp only [← hC8] at hfo
   have HB8 := Lib.hid hb8
   have HF8 := Lib.hid hf8
   have HHX := Lib.hid hhx
   have HW8 := Lib.hid hw8
   have HFO := Lib.hid hfo
   clear hb8 hx1 hx2 ho8 hf8 hhx hw8 hfo hC8 hJx HO7 HDC
   go_wp2_with fail
   refine (has_fit HB8.out HF8.out (by decide)).mono ?_
   rintro e w9 ⟨vf, rfl, hrf, ho9⟩
   have HRF := Lib.hid hrf
   have HB9 := Lib.hid (HB8.out.new ho9)
   have HO69 : Hid (Off (fun b => w6.heap.size ≤ b) w6 w9) := HO68.out.trans (ho9.mono (fun _ _ h => h.elim))
   have HRB9 := Lib.hid (str_off HRB6.out HO69.out (fun b _ h1 h2 => by omega))
   have HRA9 := Lib.hid (str_off HRA.out HO69.out (fun b _ h1 h2 => by omega))
   have hlb : (hasL J).length < 100000 := by have := HF3.out.first; show J.recs.length + 1 < _; omega
   have hla : (hasL J5).length < 100000 := by have := HF5.out.first; show J5.recs.length + 1 < _; omega
   have hlx : (hasL Jx).length < 100000 := by have := HF8.out.first; show Jx.recs.length + 1 < _; omega
   have HLN := Lib.hid (And.intro hlb (And.intro hla hlx))
   clear hrf ho9 hlb hla hlx HRB6 HO68
   obtain ⟨r1, hr1⟩ : ∃ r, r = decide (hasL Jx = hasL J ∧ hasL Jx ≠ []) := ⟨_, rfl⟩
   have HR1 := Lib.hid hr1
   clear hr1
   go_wp2_with fail
   refine (same_at _ _ vf vb (hasL Jx) (hasL J) w9 HRF.out HRB9.out HLN.out.2.2 HLN.out.1 r1 HR1.out).mono ?_
   rintro e wz ⟨rfl, m1, rfl⟩
   cases r1 with
   | true =>
    go_wp2_with fail
    have HB10 := Lib.hid (HB9.out.new (off_drew w9 m1))
    refine (writes_at Sdx x C8 _ HB10.out.disk).mono ?_
    rintro e wz ⟨rfl, hwz⟩
    subst hwz
    rw [HW8.out]
    obtain ⟨r, hr⟩ : ∃ r, r = n4 % 2 := ⟨_, rfl⟩
    have hr2 : r ≤ 1 := by omega
    have hri : (n4 : Int) % 2 = (r : Int) := by omega
    clear hr
    go_wp2_with fail
    refine (cut_both HB10.out r (by rw [HW8.out]; decide)).mono ?_
    rintro e w11 ⟨f, Sf, rfl, hdf, hfl, hfn, ho11⟩
    obtain ⟨op1, hop1, hff⟩ := HFO.out r (by rw [HW8.out]; exact hr2)
    obtain ⟨F, hF⟩ : ∃ F, F = C8.cut (r : Int) := ⟨_, rfl⟩
    obtain ⟨Jd, hJd⟩ : ∃ Jd : Jn, Jd = { Jc with op := op1 } := ⟨_, rfl⟩
    have hhd : hasL Jd = hasL Jc := by rw [hJd]; rfl
    have hfw : F.wr = [] := by rw [hF]; rfl
    rw [← hF] at hdf
    rw [← hF, ← hJd] at hff
    have HFF := Lib.hid hff
    have HHD := Lib.hid (And.intro hhd hfw)
    have HO11 := Lib.hid ho11
    have HDF := Lib.hid (And.intro hdf (And.intro hfl hfn))
    clear hdf hfl hfn ho11 hop1 hff hhd hfw hF hJd hri HFO
    go_wp2_with fail
    refine (open_both (w0 := wq) HDF.out.1 HDF.out.2.1 (fun b hb => Nat.le_trans HB10.out.off.size (HDF.out.2.2 b hb)) (HB10.out.off.trans (HO11.out.mono (fun _ _ h => h.elim))) HFF.out (by decide) (by rw [HHD.out.2]; decide)).mono ?_
    rintro e w12 ⟨jy, Sy, Sdy, rfl, hb12, hy1, hy2, ho12⟩
    have HO912 : Hid (Off (fun b => w9.heap.size ≤ b) w9 w12) := (((off_drew w9 m1).mono (fun _ _ h => h.elim)).trans (HO11.out.mono (fun _ _ h => h.elim))).trans (ho12.mono (fun b _ hb => HDF.out.2.2 b hb))
    have hf12 := HFF.out.reopen
    obtain ⟨Jy, hJy⟩ : ∃ Jy : Jn, Jy = { Jd with op := Jd.op + 1 } := ⟨_, rfl⟩
    have hhy : hasL Jy = hasL Jx := by rw [hJy, HHX.out, ← HHD.out.1]; rfl
    rw [← hJy] at hb12 hf12
    have HB12 := Lib.hid hb12
    have HF12 := Lib.hid hf12
    have HHY := Lib.hid hhy
    have HBD := Lib.hid (HB6.out.keep (HO69.out.trans (HO912.out.mono (fun b _ hb => Nat.le_trans HO69.out.size hb))) (fun b hb h => by have := HB6.out.jlt b hb; omega) (fun b hb h => by have := HB6.out.slt b hb; omega) (fun b h => Nat.le_trans HB6.out.off.size h))
    clear hb12 hy1 hy2 ho12 hf12 hhy hJy HO11 HDF
    go_wp2_with fail
    refine (writes_at Sd5 d D5 w12 HBD.out.disk).mono ?_
    rintro e wz ⟨rfl, hwz⟩
    subst hwz
    rw [← HPW.out]
    go_wp2_with fail
    refine (cut_both HBD.out pw (by rw [← HPW.out]; omega)).mono ?_
    rintro e w13 ⟨g2, Sg, rfl, hdg, hgl, hgn, ho13⟩
    have hfz := HF5.out.all HN5.out.2.2
    rw [← HPW.out] at hfz
    have hzn : (D5.cut (pw : Int)).n = N := HN5.out.1
    obtain ⟨Z, hZ⟩ : ∃ Z, Z = D5.cut (pw : Int) := ⟨_, rfl⟩
    have hzw : Z.wr = [] := by rw [hZ]; rfl
    rw [← hZ] at hdg hfz hzn
    have HFZ := Lib.hid hfz
    have HZN := Lib.hid (And.intro hzn hzw)
    have HO13 := Lib.hid ho13
    have HDG := Lib.hid (And.intro hdg (And.intro hgl hgn))
    clear hdg hgl hgn ho13 hfz hzn hzw hZ
    go_wp2_with fail
    refine (open_both (w0 := wq) HDG.out.1 HDG.out.2.1 (fun b hb => Nat.le_trans HBD.out.off.size (HDG.out.2.2 b hb)) (HBD.out.off.trans (HO13.out.mono (fun _ _ h => h.elim))) HFZ.out (by decide) (by rw [HZN.out.2]; decide)).mono ?_
    rintro e w14 ⟨jz, Sz, Sdz, rfl, hb14, hz1, hz2, ho14⟩
    have HO1214 : Hid (Off (fun b => w12.heap.size ≤ b) w12 w14) := (HO13.out.mono (fun _ _ h => h.elim)).trans (ho14.mono (fun b _ hb => HDG.out.2.2 b hb))
    have hf14 := HFZ.out.reopen
    obtain ⟨Z4, hZ4⟩ : ∃ Z4, Z4 = Z.push (J5.area * (Z.n / 2)) (headB J5.gen (J5.op + 1) J5.first J5.size) := ⟨_, rfl⟩
    obtain ⟨Jz, hJz⟩ : ∃ Jz : Jn, Jz = { J5 with op := J5.op + 1 } := ⟨_, rfl⟩
    have hhz : hasL Jz = hasL J5 := by rw [hJz]; rfl
    have hz4 : Z4.n = N ∧ Z4.wr.length = 1 := by rw [hZ4]; exact ⟨HZN.out.1, by show (Z.wr ++ [_]).length = 1; rw [HZN.out.2]; rfl⟩
    rw [← hZ4, ← hJz] at hb14 hf14
    have HB14 := Lib.hid hb14
    have HF14 := Lib.hid hf14
    have HHZ := Lib.hid hhz
    have HZ4 := Lib.hid hz4
    have HBY := Lib.hid (HB12.out.keep HO1214.out (fun b hb h => by have := HB12.out.jlt b hb; omega) (fun b hb h => by have := HB12.out.slt b hb; omega) (fun b h => Nat.le_trans HB12.out.off.size h))
    have HO914 : Hid (Off (fun b => w9.heap.size ≤ b) w9 w14) := HO912.out.trans (HO1214.out.mono (fun b _ hb => Nat.le_trans HO912.out.size hb))
    clear hb14 hz1 hz2 ho14 hf14 hhz hz4 hZ4 hJz HO13 HDG
    go_wp2_with fail
    refine (has_fit HBY.out HF12.out (by decide)).mono ?_
    rintro e w15 ⟨vy, rfl, hry, ho15⟩
    have HRY := Lib.hid hry
    have HO915 : Hid (Off (fun b => w9.heap.size ≤ b) w9 w15) := HO914.out.trans (ho15.mono (fun _ _ h => h.elim))
    have HRF15 := Lib.hid (str_off HRF.out HO915.out (fun b _ h1 h2 => by omega))
    have HB15 := Lib.hid (HB14.out.new ho15)
    clear hry ho15
    go_wp2_with fail
    refine (same_at _ _ vy vf (hasL Jy) (hasL Jx) w15 HRY.out HRF15.out (by rw [HHY.out]; exact HLN.out.2.2) HLN.out.2.2 true (decide_eq_true ⟨HHY.out, by simp [hasL]⟩).symm).mono ?_
    rintro e wz ⟨rfl, m3, rfl⟩
    have HB16 := Lib.hid (HB15.out.new (off_drew w15 m3))
    go_wp2_with fail
    refine (has_fit HB16.out HF14.out (by decide)).mono ?_
    rintro e w17 ⟨vz, rfl, hrz, ho17⟩
    have HRZ := Lib.hid hrz
    have HO917 : Hid (Off (fun b => w9.heap.size ≤ b) w9 w17) := (HO915.out.trans ((off_drew w15 m3).mono (fun _ _ h => h.elim))).trans (ho17.mono (fun _ _ h => h.elim))
    have HRA17 := Lib.hid (str_off HRA9.out HO917.out (fun b _ h1 h2 => by omega))
    have HB17 := Lib.hid (HB16.out.new ho17)
    clear hrz ho17
    go_wp2_with fail
    refine (same_at _ _ vz va (hasL Jz) (hasL J5) w17 HRZ.out HRA17.out (by rw [HHZ.out]; exact HLN.out.2.1) HLN.out.2.1 true (decide_eq_true ⟨HHZ.out, by simp [hasL]⟩).symm).mono ?_
    rintro e wz ⟨rfl, m4, rfl⟩
    have kc : (convert 28 28 (.slice (some ⟨w17.heap.size, 0, none⟩) 1 1)).run Tryz.prog ((w17.drewN m4).alloc (.cells #[.int .u8 122] 5)) = .ok (.slice (some ⟨w17.heap.size, 0, none⟩) 1 1) ((w17.drewN m4).alloc (.cells #[.int .u8 122] 5 (1, 2))) := Lib.run_convert_bytes_const (P := Tryz.prog) (w17.drewN m4) 28 5 #[.int .u8 122] 1 1 Tryz.underlying28 Tryz.underlying5
    have hg18 := World.grownBy_alloc (w17.drewN m4) (.cells #[.int .u8 122] 5 (1, 2)) none
    have hb18 := (HB17.out.new (off_drew w17 m4)).new (off_grown hg18)
    have hz : ¬ (Z4.n / 2 - 1 < parts ([122] : List UInt8).length) := by
     rw [HZ4.out.1]
     have h1 := HN8.out
     have h2 : parts ([122] : List UInt8).length = 1 := by decide
     omega
    have HCK := Lib.hid (ck_any Sdz Sz g2 jz Z4 Jz _ [122] _ 1 _ hb18.disk hb18.slt hb18.jnl hb18.apart HF14.out (by decide) (by rw [HZ4.out.2]; decide) (by decide) (by decide) (by unfold maxLen; omega) (new_arg (w := w17.drewN m4) (t := 5) (sp := (1, 2)) (l := [122]) rfl 1) (fun g off e h => by cases e; have h1 := HB17.out.sltj _ h; have h2 : (w17.drewN m4).heap.size = w17.heap.size := rfl; omega))
    have HP19 : putR Z4 Jz true [122] = (ckD Z4 Jz [122], Jz.ck [122]) := by
     unfold putR
     rw [if_pos rfl, if_neg hz]
    rw [if_neg hz, HP19] at HCK
    have HF19 := Lib.hid (HF14.out.ck (l := [122]) (by decide) (by decide) (by omega))
    have HB18 := Lib.hid hb18
    clear hg18 hb18 hz HP19
    go_wp2_with fail
    clear kc
    refine HCK.out.mono ?_
    rintro e w19 ⟨rfl, hp⟩
    obtain ⟨S19, Sd19, hb19, -, -, -⟩ := HB18.out.put hp
    have HB19 : Hid (Both wq w19 S19 Sd19 g2 jz (ckD Z4 Jz [122]) (Jz.ck [122])) := hb19
    clear hp hb19 HCK HB18
    go_wp2_with fail
    refine (has_fit HB19.out HF19.out (by decide)).mono ?_
    rintro e w20 ⟨vq, rfl, hrq, ho20⟩
    have HRQ := Lib.hid hrq
    have hrow := World.ownsRow_lit (base := w20.heap.size) (e := 9) (size := 1) w20 #[strV [122]] 1 (Nat.le_refl _) (by decide) rfl
    have hg21 := World.grownBy_alloc w20 (.cells #[strV [122]] 9) none
    have HRL := Lib.hid hrow
    have HRQ21 := Lib.hid (str_off HRQ.out (off_grown hg21) (fun _ _ _ h => h))
    have HE0 := Lib.hid ((HB19.out.off.trans (ho20.mono (fun _ _ h => h.elim))).trans ((off_grown hg21).mono (fun _ _ h => h.elim)))
    clear hrq ho20 hrow hg21
    go_wp2_with fail
    refine (same_at _ _ vq _ (hasL (Jz.ck [122])) [[122]] _ (by exact HRQ21.out) (by exact HRL.out) (by show 1 < 100000; decide) (by decide) true (decide_eq_true ⟨rfl, by simp [hasL]⟩).symm).mono ?_
    rintro e wz ⟨rfl, m5, rfl⟩
    go_wp2_with fail
    refine (works_at _).mono ?_
    rintro e wz ⟨rfl, hwz⟩
    have HE := Lib.hid (off_to_below (Off.zero (HE0.out.trans (((off_drew _ m5).mono (fun _ _ h => h.elim)).trans (hwz.mono (fun _ _ h => h.elim))))))
    clear hwz
    go_wp2_with fail
    go_ret
    exact ⟨rfl, HE.out⟩
   | false =>
    have HJC : Hid (Jc = J5) := by
     rcases HOR.out with h | h
     ·have h1 : hasL Jx = hasL J := by rw [HHX.out, h]
      have h2 := of_decide_eq_false HR1.out.symm
      exact absurd ⟨h1, by simp [hasL]⟩ h2
     ·exact h
    go_wp2_with fail
    refine (same_at _ _ vf va (hasL Jx) (hasL J5) _ (by exact HRF.out) (by exact HRA9.out) HLN.out.2.2 HLN.out.2.1 true (decide_eq_true ⟨by rw [HHX.out, HJC.out], by simp [hasL]⟩).symm).mono ?_
    rintro e wz ⟨rfl, m2, rfl⟩
    go_wp2_with fail
    have HB10 := Lib.hid (HB9.out.new (off_drew w9 (m1 + m2)))
    refine (writes_at Sdx x C8 _ HB10.out.disk).mono ?_
    rintro e wz ⟨rfl, hwz⟩
    subst hwz
    rw [HW8.out]
    obtain ⟨r, hr⟩ : ∃ r, r = n4 % 2 := ⟨_, rfl⟩
    have hr2 : r ≤ 1 := by omega
    have hri : (n4 : Int) % 2 = (r : Int) := by omega
    clear hr
    go_wp2_with fail
    refine (cut_both HB10.out r (by rw [HW8.out]; decide)).mono ?_
    rintro e w11 ⟨f, Sf, rfl, hdf, hfl, hfn, ho11⟩
    obtain ⟨op1, hop1, hff⟩ := HFO.out r (by rw [HW8.out]; exact hr2)
    obtain ⟨F, hF⟩ : ∃ F, F = C8.cut (r : Int) := ⟨_, rfl⟩
    obtain ⟨Jd, hJd⟩ : ∃ Jd : Jn, Jd = { Jc with op := op1 } := ⟨_, rfl⟩
    have hhd : hasL Jd = hasL Jc := by rw [hJd]; rfl
    have hfw : F.wr = [] := by rw [hF]; rfl
    rw [← hF] at hdf
    rw [← hF, ← hJd] at hff
    have HFF := Lib.hid hff
    have HHD := Lib.hid (And.intro hhd hfw)
    have HO11 := Lib.hid ho11
    have HDF := Lib.hid (And.intro hdf (And.intro hfl hfn))
    clear hdf hfl hfn ho11 hop1 hff hhd hfw hF hJd hri HFO
    go_wp2_with fail
    refine (open_both (w0 := wq) HDF.out.1 HDF.out.2.1 (fun b hb => Nat.le_trans HB10.out.off.size (HDF.out.2.2 b hb)) (HB10.out.off.trans (HO11.out.mono (fun _ _ h => h.elim))) HFF.out (by decide) (by rw [HHD.out.2]; decide)).mono ?_
    rintro e w12 ⟨jy, Sy, Sdy, rfl, hb12, hy1, hy2, ho12⟩
    have HO912 : Hid (Off (fun b => w9.heap.size ≤ b) w9 w12) := (((off_drew w9 (m1 + m2)).mono (fun _ _ h => h.elim)).trans (HO11.out.mono (fun _ _ h => h.elim))).trans (ho12.mono (fun b _ hb => HDF.out.2.2 b hb))
    have hf12 := HFF.out.reopen
    obtain ⟨Jy, hJy⟩ : ∃ Jy : Jn, Jy = { Jd with op := Jd.op + 1 } := ⟨_, rfl⟩
    have hhy : hasL Jy = hasL Jx := by rw [hJy, HHX.out, ← HHD.out.1]; rfl
    rw [← hJy] at hb12 hf12
    have HB12 := Lib.hid hb12
    have HF12 := Lib.hid hf12
    have HHY := Lib.hid hhy
    have HBD := Lib.hid (HB6.out.keep (HO69.out.trans (HO912.out.mono (fun b _ hb => Nat.le_trans HO69.out.size hb))) (fun b hb h => by have := HB6.out.jlt b hb; omega) (fun b hb h => by have := HB6.out.slt b hb; omega) (fun b h => Nat.le_trans HB6.out.off.size h))
    clear hb12 hy1 hy2 ho12 hf12 hhy hJy HO11 HDF
    go_wp2_with fail
    refine (writes_at Sd5 d D5 w12 HBD.out.disk).mono ?_
    rintro e wz ⟨rfl, hwz⟩
    subst hwz
    rw [← HPW.out]
    go_wp2_with fail
    refine (cut_both HBD.out pw (by rw [← HPW.out]; omega)).mono ?_
    rintro e w13 ⟨g2, Sg, rfl, hdg, hgl, hgn, ho13⟩
    have hfz := HF5.out.all HN5.out.2.2
    rw [← HPW.out] at hfz
    have hzn : (D5.cut (pw : Int)).n = N := HN5.out.1
    obtain ⟨Z, hZ⟩ : ∃ Z, Z = D5.cut (pw : Int) := ⟨_, rfl⟩
    have hzw : Z.wr = [] := by rw [hZ]; rfl
    rw [← hZ] at hdg hfz hzn
    have HFZ := Lib.hid hfz
    have HZN := Lib.hid (And.intro hzn hzw)
    have HO13 := Lib.hid ho13
    have HDG := Lib.hid (And.intro hdg (And.intro hgl hgn))
    clear hdg hgl hgn ho13 hfz hzn hzw hZ
    go_wp2_with fail
    refine (open_both (w0 := wq) HDG.out.1 HDG.out.2.1 (fun b hb => Nat.le_trans HBD.out.off.size (HDG.out.2.2 b hb)) (HBD.out.off.trans (HO13.out.mono (fun _ _ h => h.elim))) HFZ.out (by decide) (by rw [HZN.out.2]; decide)).mono ?_
    rintro e w14 ⟨jz, Sz, Sdz, rfl, hb14, hz1, hz2, ho14⟩
    have HO1214 : Hid (Off (fun b => w12.heap.size ≤ b) w12 w14) := (HO13.out.mono (fun _ _ h => h.elim)).trans (ho14.mono (fun b _ hb => HDG.out.2.2 b hb))
    have hf14 := HFZ.out.reopen
    obtain ⟨Z4, hZ4⟩ : ∃ Z4, Z4 = Z.push (J5.area * (Z.n / 2)) (headB J5.gen (J5.op + 1) J5.first J5.size) := ⟨_, rfl⟩
    obtain ⟨Jz, hJz⟩ : ∃ Jz : Jn, Jz = { J5 with op := J5.op + 1 } := ⟨_, rfl⟩
    have hhz : hasL Jz = hasL J5 := by rw [hJz]; rfl
    have hz4 : Z4.n = N ∧ Z4.wr.length = 1 := by rw [hZ4]; exact ⟨HZN.out.1, by show (Z.wr ++ [_]).length = 1; rw [HZN.out.2]; rfl⟩
    rw [← hZ4, ← hJz] at hb14 hf14
    have HB14 := Lib.hid hb14
    have HF14 := Lib.hid hf14
    have HHZ := Lib.hid hhz
    have HZ4 := Lib.hid hz4
    have HBY := Lib.hid (HB12.out.keep HO1214.out (fun b hb h => by have := HB12.out.jlt b hb; omega) (fun b hb h => by have := HB12.out.slt b hb; omega) (fun b h => Nat.le_trans HB12.out.off.size h))
    have HO914 : Hid (Off (fun b => w9.heap.size ≤ b) w9 w14) := HO912.out.trans (HO1214.out.mono (fun b _ hb => Nat.le_trans HO912.out.size hb))
    clear hb14 hz1 hz2 ho14 hf14 hhz hz4 hZ4 hJz HO13 HDG
    go_wp2_with fail
    refine (has_fit HBY.out HF12.out (by decide)).mono ?_
    rintro e w15 ⟨vy, rfl, hry, ho15⟩
    have HRY := Lib.hid hry
    have HO915 : Hid (Off (fun b => w9.heap.size ≤ b) w9 w15) := HO914.out.trans (ho15.mono (fun _ _ h => h.elim))
    have HRF15 := Lib.hid (str_off HRF.out HO915.out (fun b _ h1 h2 => by omega))
    have HB15 := Lib.hid (HB14.out.new ho15)
    clear hry ho15
    go_wp2_with fail
    refine (same_at _ _ vy vf (hasL Jy) (hasL Jx) w15 HRY.out HRF15.out (by rw [HHY.out]; exact HLN.out.2.2) HLN.out.2.2 true (decide_eq_true ⟨HHY.out, by simp [hasL]⟩).symm).mono ?_
    rintro e wz ⟨rfl, m3, rfl⟩
    have HB16 := Lib.hid (HB15.out.new (off_drew w15 m3))
    go_wp2_with fail
    refine (has_fit HB16.out HF14.out (by decide)).mono ?_
    rintro e w17 ⟨vz, rfl, hrz, ho17⟩
    have HRZ := Lib.hid hrz
    have HO917 : Hid (Off (fun b => w9.heap.size ≤ b) w9 w17) := (HO915.out.trans ((off_drew w15 m3).mono (fun _ _ h => h.elim))).trans (ho17.mono (fun _ _ h => h.elim))
    have HRA17 := Lib.hid (str_off HRA9.out HO917.out (fun b _ h1 h2 => by omega))
    have HB17 := Lib.hid (HB16.out.new ho17)
    clear hrz ho17
    go_wp2_with fail
    refine (same_at _ _ vz va (hasL Jz) (hasL J5) w17 HRZ.out HRA17.out (by rw [HHZ.out]; exact HLN.out.2.1) HLN.out.2.1 true (decide_eq_true ⟨HHZ.out, by simp [hasL]⟩).symm).mono ?_
    rintro e wz ⟨rfl, m4, rfl⟩
    have kc : (convert 28 28 (.slice (some ⟨w17.heap.size, 0, none⟩) 1 1)).run Tryz.prog ((w17.drewN m4).alloc (.cells #[.int .u8 122] 5)) = .ok (.slice (some ⟨w17.heap.size, 0, none⟩) 1 1) ((w17.drewN m4).alloc (.cells #[.int .u8 122] 5 (1, 2))) := Lib.run_convert_bytes_const (P := Tryz.prog) (w17.drewN m4) 28 5 #[.int .u8 122] 1 1 Tryz.underlying28 Tryz.underlying5
    have hg18 := World.grownBy_alloc (w17.drewN m4) (.cells #[.int .u8 122] 5 (1, 2)) none
    have hb18 := (HB17.out.new (off_drew w17 m4)).new (off_grown hg18)
    have hz : ¬ (Z4.n / 2 - 1 < parts ([122] : List UInt8).length) := by
     rw [HZ4.out.1]
     have h1 := HN8.out
     have h2 : parts ([122] : List UInt8).length = 1 := by decide
     omega
    have HCK := Lib.hid (ck_any Sdz Sz g2 jz Z4 Jz _ [122] _ 1 _ hb18.disk hb18.slt hb18.jnl hb18.apart HF14.out (by decide) (by rw [HZ4.out.2]; decide) (by decide) (by decide) (by unfold maxLen; omega) (new_arg (w := w17.drewN m4) (t := 5) (sp := (1, 2)) (l := [122]) rfl 1) (fun g off e h => by cases e; have h1 := HB17.out.sltj _ h; have h2 : (w17.drewN m4).heap.size = w17.heap.size := rfl; omega))
    have HP19 : putR Z4 Jz true [122] = (ckD Z4 Jz [122], Jz.ck [122]) := by
     unfold putR
     rw [if_pos rfl, if_neg hz]
    rw [if_neg hz, HP19] at HCK
    have HF19 := Lib.hid (HF14.out.ck (l := [122]) (by decide) (by decide) (by omega))
    have HB18 := Lib.hid hb18
    clear hg18 hb18 hz HP19
    go_wp2_with fail
    clear kc
    refine HCK.out.mono ?_
    rintro e w19 ⟨rfl, hp⟩
    obtain ⟨S19, Sd19, hb19, -, -, -⟩ := HB18.out.put hp
    have HB19 : Hid (Both wq w19 S19 Sd19 g2 jz (ckD Z4 Jz [122]) (Jz.ck [122])) := hb19
    clear hp hb19 HCK HB18
    go_wp2_with fail
    refine (has_fit HB19.out HF19.out (by decide)).mono ?_
    rintro e w20 ⟨vq, rfl, hrq, ho20⟩
    have HRQ := Lib.hid hrq
    have hrow := World.ownsRow_lit (base := w20.heap.size) (e := 9) (size := 1) w20 #[strV [122]] 1 (Nat.le_refl _) (by decide) rfl
    have hg21 := World.grownBy_alloc w20 (.cells #[strV [122]] 9) none
    have HRL := Lib.hid hrow
    have HRQ21 := Lib.hid (str_off HRQ.out (off_grown hg21) (fun _ _ _ h => h))
    have HE0 := Lib.hid ((HB19.out.off.trans (ho20.mono (fun _ _ h => h.elim))).trans ((off_grown hg21).mono (fun _ _ h => h.elim)))
    clear hrq ho20 hrow hg21
    go_wp2_with fail
    refine (same_at _ _ vq _ (hasL (Jz.ck [122])) [[122]] _ (by exact HRQ21.out) (by exact HRL.out) (by show 1 < 100000; decide) (by decide) true (decide_eq_true ⟨rfl, by simp [hasL]⟩).symm).mono ?_
    rintro e wz ⟨rfl, m5, rfl⟩
    go_wp2_with fail
    refine (works_at _).mono ?_
    rintro e wz ⟨rfl, hwz⟩
    have HE := Lib.hid (off_to_below (Off.zero (HE0.out.trans (((off_drew _ m5).mono (fun _ _ h => h.elim)).trans (hwz.mono (fun _ _ h => h.elim))))))
    clear hwz
    go_wp2_with fail
    go_ret
    exact ⟨rfl, HE.out⟩
theorem part_nums {b : List UInt8} {c : UInt8} {s k i n : Nat} {m : List UInt8} (hp : IsPart b c s k i n m) : Nums b c s k i n := by
 obtain ⟨rfl, _, hs, hk, hi, hn, hl, _⟩ := hp
 obtain ⟨r, e⟩ := part_drop17 c s k i n m
 refine ⟨partB_length _ _ _ _ _ _ hl, part_0 .., ⟨part_d1 .., ?_, hs⟩, ⟨part_d9 .., ?_, hk⟩, ⟨?_, ?_, ?_⟩, ⟨?_, ?_, ?_⟩⟩
 ·exact Nat.lt_trans hs (by decide)
 ·exact Nat.lt_trans hk (by decide)
 ·rw [e, take_app _ _ (numB_length i 2)]
 ·have : (256 : Nat) ^ 2 = 65536 := rfl
  omega
 ·omega
 ·rw [show (19 : Nat) = 17 + 2 from rfl, ← List.drop_drop, e, drop_app _ _ (numB_length i 2), take_app _ _ (numB_length n 2)]
 ·have : (256 : Nat) ^ 2 = 65536 := rfl
  omega
 ·omega
theorem part_head {c : UInt8} {s k i n : Nat} {m : List UInt8} (hl : m.length ≤ 102) : (partB c s k i n m).take 124 = partL c s k i n m := by
 have h1 := partL_length c s k i n m hl
 unfold partB sealB
 rw [List.append_assoc, List.take_append_of_le_length (by omega)]
 exact List.take_of_length_le (by omega)
theorem part_check {c : UInt8} {s k i n : Nat} {m : List UInt8} (hl : m.length ≤ 102) : Num (partB c s k i n m) 124 4 (Crc.sum (partL c s k i n m)).toNat := by
 have h1 := partL_length c s k i n m hl
 have h2 := (Crc.sum (partL c s k i n m)).isLt
 refine ⟨?_, h2, by omega⟩
 unfold partB sealB
 rw [List.append_assoc, drop_app _ _ h1, take_app _ _ (numB_length _ 4)]
theorem part_zero {c : UInt8} {s k i n : Nat} {m : List UInt8} (hl : m.length ≤ 102) (j : Nat) (h1 : 22 + m.length ≤ j) (h2 : j < 124) : (partB c s k i n m)[j]? = some 0 := by
 have hL := partL_length c s k i n m hl
 unfold partB sealB
 rw [List.append_assoc, List.getElem?_append_left (by omega)]
 unfold partL
 rw [List.getElem?_append_right (by simp [numB_length]; omega), List.getElem?_replicate, if_pos (by simp [numB_length]; omega)]
theorem bs_extract (b : List UInt8) (i j : Nat) (_ : j ≤ b.length) : (bs b).extract i j = bs ((b.drop i).take (j - i)) := by
 apply ByteArray.ext
 rw [ByteArray.data_extract]
 show (b.toArray).extract i j = ((b.drop i).take (j - i)).toArray
 apply Array.toList_inj.1
 rw [Array.toList_extract, List.extract_eq_take_drop]
def ByteAt (w : World) (g n : Nat) : Prop := ∀ j, j < n → (∃ z, w.cell? ⟨g, j, none⟩ = some (.int .u8 z)) ∧ w.frozen? ⟨g, j, none⟩ = false
theorem ByteAt.set {w : World} {g n j : Nat} {z : Int} (h : ByteAt w g n) (hj : j < n) : ByteAt (w.setCell ⟨g, j, none⟩ (.int .u8 z)) g n := by
 intro i hi
 refine ⟨?_, by rw [World.frozen?_setCell]; exact (h i hi).2⟩
 by_cases e : i = j
 ·subst e
  obtain ⟨z', hz⟩ := (h i hi).1
  exact ⟨z, World.cell?_setCell_same _ _ _ hz⟩
 ·obtain ⟨z', hz⟩ := (h i hi).1
  exact ⟨z', by rw [World.cell?_setCell_other _ _ _ _ (by first | (simp; done) | (simp; omega))]; exact hz⟩
theorem run_bytes_new (w : World) (l : List UInt8) : ∃ W2 cap, (convert 9 28 (strV l)).run Tryz.prog w = .ok (.slice (some ⟨w.heap.size, 0, none⟩) l.length cap) W2 ∧ W2.rangeAt w.heap.size 0 (u8s l) ∧ ByteAt W2 w.heap.size l.length ∧ w.grownBy W2 none ∧ W2.heap.size = w.heap.size + 1 := by
 have h := run_bytes_of_string (P := Tryz.prog) w 9 28 5 (bs l) Tryz.underlying9 Tryz.underlying28 Tryz.underlying5
 rw [bs_size] at h
 have hcell : ∀ i, (hi : i < l.length) → (w.drew.alloc (.cells (bytesRow (bs l) (grownCap w l.length 0 5)) 5 ((bytesRow (bs l) (grownCap w l.length 0 5)).size, (bytesRow (bs l) (grownCap w l.length 0 5)).size + 1))).cell? ⟨w.heap.size, i, none⟩ = some (.int .u8 (l[i].toNat : Int)) := by
  intro i hi
  refine (cell_of_row (w.drew.alloc _) w.heap.size _ _ _ _ (heap_alloc_new w.drew _)).trans ?_
  unfold bytesRow bs
  simp [Array.getElem?_append, hi]
 refine ⟨_, _, h, fun j v hj => ?_, fun j hj => ⟨⟨_, hcell j hj⟩, ?_⟩, drew_alloc_grown w _ none, by rw [World.size_alloc]; rfl⟩
 ·have hjl : j < l.length := by have := (List.getElem?_eq_some_iff.1 hj).1; simpa [u8s] using this
  rw [Nat.zero_add, hcell j hjl, ← hj]
  simp [u8s, hjl]
 ·have hb : (w.drew.alloc (.cells (bytesRow (bs l) (grownCap w l.length 0 5)) 5 ((bytesRow (bs l) (grownCap w l.length 0 5)).size, (bytesRow (bs l) (grownCap w l.length 0 5)).size + 1))).heap[w.heap.size]? = _ := heap_alloc_new w.drew _
  have hge := grownCap_ge w l.length 0 5
  simp only [World.frozen?, hb]
  simp [bytesRow, bs]
  omega
theorem rtold_part (b : List UInt8) (c : UInt8) (s k i n : Nat) (m : List UInt8) (hp : IsPart b c s k i n m) (w : World) :
  Calls Tryz.prog 100 #[strV b] w fun e w' => e = .returned (.tuple #[.agg (ptC c s k i n m), .bool true]) ∧ Below w.heap.size w w' := by
 have HN := Lib.hid (part_nums hp)
 obtain ⟨ml, hml⟩ : ∃ n, n = m.length := ⟨_, rfl⟩
 have h102 : ml ≤ 102 := by rw [hml]; exact hp.len
 have hin : i < n := hp.lt
 have hn16 : n < 65536 := hp.n16
 have hfull : ml = 102 ∨ i + 1 = n := by rw [hml]; exact hp.full
 have HS : Hid ((bs b).size = 128) := (bs_size b).trans HN.out.len
 obtain ⟨tt, htt⟩ : ∃ t, t = b.take 124 := ⟨_, rfl⟩
 have HCK : Hid (Num b 124 4 (Crc.sum tt).toNat) := by rw [htt, hp.eq, part_head hp.len]; exact part_check hp.len
 have HTL : Hid (tt.length = 124) := by show _ = _; rw [htt, List.length_take, HN.out.len]; rfl
 have HEX : Hid ((bs b).extract 0 124 = bs tt) := by show _ = _; rw [bs_extract _ _ _ (by rw [HN.out.len]; decide), htt]; rfl
 clear htt
 have HBD : Hid ((bs b).extract 22 (22 + ml) = bs m) := by
  show _ = _
  rw [bs_extract _ _ _ (by rw [HN.out.len]; omega), Nat.add_sub_cancel_left, hml, hp.eq, part_body]
 have H0 : Hid (∀ j h, 22 + ml ≤ j → j < 124 → ((bs b)[j]'h).toNat = 0) := fun j h h1 h2 => by
  have : b[j]? = some 0 := by rw [hp.eq]; exact part_zero hp.len j (by omega) h2
  rw [bs_at this]
  rfl
 have H21 : Hid (∀ h, wrap64 (((bs b)[21]'h).toNat : Int) = (ml : Int)) := fun h => by
  have : b[21]? = some (UInt8.ofNat ml) := by rw [hp.eq, hml]; exact (part_17 ..).2.2.2.2
  rw [bs_at this, UInt8.toNat_ofNat']
  unfold wrap64
  omega
 have HCV : Hid (IntKind.u32.wrap ((Crc.sum tt).toNat : Int) = Crc.u (Crc.sum tt)) := by
  show _ = _
  have := (Crc.sum tt).isLt
  rw [IntKind.wrap_u32]
  unfold Crc.u
  omega
 have HW1 : Hid (IntKind.i64.wrap ((n : Int) - 1) = (n : Int) - 1) := by show _ = _; rw [IntKind.wrap_i64]; omega
 have HTAG : Hid (c = 67 ∨ c = 82) := hp.tag
 have HPT := Lib.hid hml
 have hZ0 : 0 < (bs b).size := by rw [HS.out]; decide
 have HZ := Lib.hid hZ0
 have hsz2 : (21 : Int) < ((bs b).size : Int) := by rw [HS.out]; decide
 have hsz3 : 21 < (bs b).size := by rw [HS.out]; decide
 have hsz4 : (124 : Int) ≤ ((bs b).size : Int) := by rw [HS.out]; decide
 have hm0 : (0 : Int) ≤ (ml : Int) := by omega
 have hm1 : (ml : Int) ≤ 102 := by omega
 have d1 : decide ((102 : Int) < (ml : Int)) = false := by simp; omega
 have d2 : decide ((n : Int) ≤ (i : Int)) = false := by simp; omega
 have d2' : decide (n ≤ i) = false := by simp; omega
 have hn1 : (1 : Int) ≤ (n : Int) := by omega
 have hn2 : (n : Int) ≤ 65535 := by omega
 clear hp hml hin hn16 hZ0
 go_enter Tryz.func100, Tryz.ntmps100
 go_upto_region 1 with fail
 go_cut [4] from 7 to 17 (fun v4 wx => v4 = .pointer (some ⟨w.heap.size + 1, 0, none⟩) ∧ wx = ((w.alloc (.cells rpart0 142)).alloc (.cells (ptC c s k i n []) 142)).drew)
 case first =>
  refine wp_region_noPanic ?_
  refine wp_region_held_drew (S := fun _ => True) (by kernel_rfl) ?hSs (fun hHeld => ?_)
  case hSs => exact trivial
  refine ztk 0 rfl ?_
  refine ztk 1 rfl ?_ (v := Value.int .u8 (c.toNat : Int)) (hy := ?hys1)
  case hys1 => (intro wS hSw; (try dsimp only at hSw); go_simp; rw [dif_pos HZ.out, bs_at HN.out.c0]; rfl)
  refine ztk 2 rfl ?_
  refine ztk 4 rfl ?_
  refine ztk 6 rfl ?_
  refine ztk 8 rfl ?_
  refine zrd2 3 11 rfl rfl (fun K hK => ?_) (fun K hK => ?_)
  ·go_simp
   refine (num_call HN.out.s8 (by decide) (by decide) HN.out.len _).mono ?_
   rintro e wq ⟨rfl, rfl⟩
   go_wp2_with fail
   refine hK.out _ _ ?q (fun hHeld => ?_)
   case q => (try dsimp only); try exact trivial
   clear hK K
   try simp only [zpt]
   refine zrd2 5 11 rfl rfl (fun K hK => ?_) (fun K hK => ?_)
   ·go_simp
    refine (num_call HN.out.k8 (by decide) (by decide) HN.out.len _).mono ?_
    rintro e wq ⟨rfl, rfl⟩
    go_wp2_with fail
    refine hK.out _ _ ?q (fun hHeld => ?_)
    case q => (try dsimp only); try exact trivial
    clear hK K
    try simp only [zpt]
    refine zrd2 7 11 rfl rfl (fun K hK => ?_) (fun K hK => ?_)
    ·go_simp
     refine (num_call HN.out.i2 (by decide) (by decide) HN.out.len _).mono ?_
     rintro e wq ⟨rfl, rfl⟩
     go_wp2_with fail
     refine hK.out _ _ ?q (fun hHeld => ?_)
     case q => (try dsimp only); try exact trivial
     clear hK K
     try simp only [zpt]
     refine zrd2 9 11 rfl rfl (fun K hK => ?_) (fun K hK => ?_)
     ·go_simp
      refine (num_call HN.out.n2 (by decide) (by decide) HN.out.len _).mono ?_
      rintro e wq ⟨rfl, rfl⟩
      go_wp2_with fail
      refine hK.out _ _ ?q (fun hHeld => ?_)
      case q => (try dsimp only); try exact trivial
      clear hK K
      try simp only [zpt]
      refine ztk 10 rfl ?_
      refine zrd 11 rfl (fun K hK => ?_)
      go_simp
      refine hK.out _ _ ?q (fun hHeld => ?_)
      case q => (try dsimp only); try exact trivial
      clear hK K
      try simp only [zpt]
      refine zrd 12 rfl (fun K hK => ?_)
      go_simp
      refine hK.out _ _ ?q (fun hHeld => ?_)
      case q => (try dsimp only); try exact trivial
      clear hK K
      try simp only [zpt]
      refine wpAnyH_done (by kernel_rfl) ?_ _
      refine NoPanic.normal ?_
      go_wp2_with fail
      go_meet
      exact ⟨rfl, rfl⟩
     ·go_simp
      refine hK.out _ _ ?q (fun hHeld => ?_)
      case q => (try dsimp only); try exact trivial
      clear hK K
      try simp only [zpt]
      refine zrd 9 rfl (fun K hK => ?_)
      go_simp
      refine (num_call HN.out.n2 (by decide) (by decide) HN.out.len _).mono ?_
      rintro e wq ⟨rfl, rfl⟩
      go_wp2_with fail
      refine hK.out _ _ ?q (fun hHeld => ?_)
      case q => (try dsimp only); try exact trivial
      clear hK K
      try simp only [zpt]
      refine ztk 10 rfl ?_
      refine zrd 12 rfl (fun K hK => ?_)
      go_simp
      refine hK.out _ _ ?q (fun hHeld => ?_)
      case q => (try dsimp only); try exact trivial
      clear hK K
      try simp only [zpt]
      refine wpAnyH_done (by kernel_rfl) ?_ _
      refine NoPanic.normal ?_
      go_wp2_with fail
      go_meet
      exact ⟨rfl, rfl⟩
    ·go_simp
     refine hK.out _ _ ?q (fun hHeld => ?_)
     case q => (try dsimp only); try exact trivial
     clear hK K
     try simp only [zpt]
     refine zrd 7 rfl (fun K hK => ?_)
     go_simp
     refine (num_call HN.out.i2 (by decide) (by decide) HN.out.len _).mono ?_
     rintro e wq ⟨rfl, rfl⟩
     go_wp2_with fail
     refine hK.out _ _ ?q (fun hHeld => ?_)
     case q => (try dsimp only); try exact trivial
     clear hK K
     try simp only [zpt]
     refine zrd 9 rfl (fun K hK => ?_)
     go_simp
     refine (num_call HN.out.n2 (by decide) (by decide) HN.out.len _).mono ?_
     rintro e wq ⟨rfl, rfl⟩
     go_wp2_with fail
     refine hK.out _ _ ?q (fun hHeld => ?_)
     case q => (try dsimp only); try exact trivial
     clear hK K
     try simp only [zpt]
     refine ztk 10 rfl ?_
     refine zrd 12 rfl (fun K hK => ?_)
     go_simp
     refine hK.out _ _ ?q (fun hHeld => ?_)
     case q => (try dsimp only); try exact trivial
     clear hK K
     try simp only [zpt]
     refine wpAnyH_done (by kernel_rfl) ?_ _
     refine NoPanic.normal ?_
     go_wp2_with fail
     go_meet
     exact ⟨rfl, rfl⟩
   ·go_simp
    refine hK.out _ _ ?q (fun hHeld => ?_)
    case q => (try dsimp only); try exact trivial
    clear hK K
    try simp only [zpt]
    refine zrd 5 rfl (fun K hK => ?_)
    go_simp
    refine (num_call HN.out.k8 (by decide) (by decide) HN.out.len _).mono ?_
    rintro e wq ⟨rfl, rfl⟩
    go_wp2_with fail
    refine hK.out _ _ ?q (fun hHeld => ?_)
    case q => (try dsimp only); try exact trivial
    clear hK K
    try simp only [zpt]
    refine zrd 7 rfl (fun K hK => ?_)
    go_simp
    refine (num_call HN.out.i2 (by decide) (by decide) HN.out.len _).mono ?_
    rintro e wq ⟨rfl, rfl⟩
    go_wp2_with fail
    refine hK.out _ _ ?q (fun hHeld => ?_)
    case q => (try dsimp only); try exact trivial
    clear hK K
    try simp only [zpt]
    refine zrd 9 rfl (fun K hK => ?_)
    go_simp
    refine (num_call HN.out.n2 (by decide) (by decide) HN.out.len _).mono ?_
    rintro e wq ⟨rfl, rfl⟩
    go_wp2_with fail
    refine hK.out _ _ ?q (fun hHeld => ?_)
    case q => (try dsimp only); try exact trivial
    clear hK K
    try simp only [zpt]
    refine ztk 10 rfl ?_
    refine zrd 12 rfl (fun K hK => ?_)
    go_simp
    refine hK.out _ _ ?q (fun hHeld => ?_)
    case q => (try dsimp only); try exact trivial
    clear hK K
    try simp only [zpt]
    refine wpAnyH_done (by kernel_rfl) ?_ _
    refine NoPanic.normal ?_
    go_wp2_with fail
    go_meet
    exact ⟨rfl, rfl⟩
  ·go_simp
   refine hK.out _ _ ?q (fun hHeld => ?_)
   case q => (try dsimp only); try exact trivial
   clear hK K
   try simp only [zpt]
   refine zrd 3 rfl (fun K hK => ?_)
   go_simp
   refine (num_call HN.out.s8 (by decide) (by decide) HN.out.len _).mono ?_
   rintro e wq ⟨rfl, rfl⟩
   go_wp2_with fail
   refine hK.out _ _ ?q (fun hHeld => ?_)
   case q => (try dsimp only); try exact trivial
   clear hK K
   try simp only [zpt]
   refine zrd 5 rfl (fun K hK => ?_)
   go_simp
   refine (num_call HN.out.k8 (by decide) (by decide) HN.out.len _).mono ?_
   rintro e wq ⟨rfl, rfl⟩
   go_wp2_with fail
   refine hK.out _ _ ?q (fun hHeld => ?_)
   case q => (try dsimp only); try exact trivial
   clear hK K
   try simp only [zpt]
   refine zrd 7 rfl (fun K hK => ?_)
   go_simp
   refine (num_call HN.out.i2 (by decide) (by decide) HN.out.len _).mono ?_
   rintro e wq ⟨rfl, rfl⟩
   go_wp2_with fail
   refine hK.out _ _ ?q (fun hHeld => ?_)
   case q => (try dsimp only); try exact trivial
   clear hK K
   try simp only [zpt]
   refine zrd 9 rfl (fun K hK => ?_)
   go_simp
   refine (num_call HN.out.n2 (by decide) (by decide) HN.out.len _).mono ?_
   rintro e wq ⟨rfl, rfl⟩
   go_wp2_with fail
   refine hK.out _ _ ?q (fun hHeld => ?_)
   case q => (try dsimp only); try exact trivial
   clear hK K
   try simp only [zpt]
   refine ztk 10 rfl ?_
   refine zrd 12 rfl (fun K hK => ?_)
   go_simp
   refine hK.out _ _ ?q (fun hHeld => ?_)
   case q => (try dsimp only); try exact trivial
   clear hK K
   try simp only [zpt]
   refine wpAnyH_done (by kernel_rfl) ?_ _
   refine NoPanic.normal ?_
   go_wp2_with fail
   go_meet
   exact ⟨rfl, rfl⟩
 case rest =>
  obtain ⟨rfl, rfl⟩ := hcut
  have HZ : Hid (RtSt w ((w.alloc (.cells rpart0 142)).alloc (.cells (ptC c s k i n []) 142)).drew (ptC c s k i n [])) := (RtSt.start w (ptC c s k i n [])).drewN 1
  obtain ⟨z, hz⟩ : ∃ z, z = ((w.alloc (.cells rpart0 142)).alloc (.cells (ptC c s k i n []) 142)).drew := ⟨_, rfl⟩
  rw [← hz] at HZ ⊢
  clear hz
  obtain ⟨p0, p1, p2, p3, p4, p5⟩ := z6 HZ.out.pt
  obtain ⟨r0, r1, r2, r3, r4, r5⟩ := z6 HZ.out.res
  have q0 := HZ.out.resfree
  have HZD : Hid (RtSt w z.drew (ptC c s k i n [])) := HZ.out.drewN 1
  rcases HTAG.out with hc | hc <;> by_cases hsh : ml < 102
  ·have e1 : ((c.toNat : Int) != 67) = false := by rw [hc]; decide
   have d3 : decide ((ml : Int) < 102) = true := by simp; omega
   have d4 : decide ((i : Int) < (n : Int) - 1) = false := by simp; omega
   clear hc hsh hfull h102
   go_upto_region 3 with fail
   rw [H21.out]
   go_cut [61] from 21 to 61 (fun v61 wx => v61 = .bool false ∧ RtSt w wx (ptC c s k i n []))
   case first =>
    refine wp_region_noPanic ?_
    refine wp_region_held_drew (S := fun w' => w'.cell? ⟨w.heap.size + 1, 0, none⟩ = some (Value.int .u8 (c.toNat : Int)) ∧ w'.cell? ⟨w.heap.size + 1, 3, none⟩ = some (Value.int .i64 (i : Int)) ∧ w'.cell? ⟨w.heap.size + 1, 4, none⟩ = some (Value.int .i64 (n : Int))) (by kernel_rfl) ?hSx67s (fun hHeld => ?_)
    case hSx67s => exact ⟨HZ.out.cell 0, HZ.out.cell 3, HZ.out.cell 4⟩
    refine ztk 0 rfl ?_
    refine ztk 1 rfl ?_
    refine ztk 2 rfl ?_
    refine ztk 3 rfl ?_
    refine ztu 4 rfl ?_
    refine ztu 5 rfl ?_
    refine ztu 6 rfl ?_
    refine ztk 7 rfl ?_
    refine ztk 8 rfl ?_
    refine ztk 9 rfl ?_
    refine ztk 10 rfl ?_
    refine ztk 11 rfl ?_
    refine ztk 12 rfl ?_
    refine ztk 13 rfl ?_
    refine ztk 14 rfl ?_
    refine ztk 15 rfl ?_
    refine ztk 16 rfl ?_
    refine ztk 17 rfl ?_
    refine ztk 18 rfl ?_
    refine ztk 19 rfl ?_
    refine ztk 20 rfl ?_
    refine ztk 21 rfl ?_
    refine ztk 22 rfl ?_
    refine ztk 23 rfl ?_
    refine ztk 24 rfl ?_
    refine ztk 25 rfl ?_
    refine ztk 26 rfl ?_
    refine ztk 27 rfl ?_ (v := Value.int .i64 ((n : Int) - 1)) (hy := ?hyx67s27)
    case hyx67s27 => (intro wS hSw; (try dsimp only at hSw); go_simp; rw [HW1.out])
    refine ztk 28 rfl ?_
    refine ztk 29 rfl ?_
    refine ztk 30 rfl ?_
    refine ztk 31 rfl ?_
    refine ztk 32 rfl ?_
    refine ztk 35 rfl ?_
    refine ztk 36 rfl ?_ (v := strV tt) (hy := ?hyx67s36)
    case hyx67s36 => (intro wS hSw; (try dsimp only at hSw); go_simp; rw [HEX.out])
    refine zrd2 33 37 rfl rfl (fun K hK => ?_) (fun K hK => ?_)
    go_simp
    refine (num_call HCK.out (by decide) (by decide) HN.out.len _).mono ?_
    rintro e wq ⟨rfl, rfl⟩
    go_wp2_with fail
    refine hK.out _ _ ?q (fun hHeld => ?_)
    case q => (try dsimp only); exact hHeld
    clear hK K
    try simp only [zpt]
    refine ztk 34 rfl ?_ (v := Value.int .u32 (Crc.u (Crc.sum tt))) (hy := ?hyx67sa34)
    case hyx67sa34 => (intro wS hSw; (try dsimp only at hSw); go_simp; rw [HCV.out])
    refine zrd 37 rfl (fun K hK => ?_)
    go_simp
    obtain ⟨W2, cap2, hrun, hrg, -, hgr, -⟩ := run_bytes_new _ tt
    rw [HTL.out] at hrun
    rw [hrun]
    have HRG := Lib.hid hrg
    have HZ2 := Lib.hid (HZD.out.later (grown_below0 hgr (Nat.le_refl _)))
    clear hrun hrg hgr
    go_wp2_with fail
    refine hK.out _ _ ?q (fun hHeld => ?_)
    case q => (try dsimp only); exact ⟨HZ2.out.cell 0, HZ2.out.cell 3, HZ2.out.cell 4⟩
    clear hK K
    try simp only [zpt]
    rotate_left
    go_simp
    obtain ⟨W2, cap2, hrun, hrg, -, hgr, -⟩ := run_bytes_new _ tt
    rw [HTL.out] at hrun
    rw [hrun]
    have HRG := Lib.hid hrg
    have HZ2 := Lib.hid (HZD.out.later (grown_below0 hgr (Nat.le_refl _)))
    clear hrun hrg hgr
    go_wp2_with fail
    refine hK.out _ _ ?q (fun hHeld => ?_)
    case q => (try dsimp only); exact ⟨HZ2.out.cell 0, HZ2.out.cell 3, HZ2.out.cell 4⟩
    clear hK K
    try simp only [zpt]
    refine zrd 33 rfl (fun K hK => ?_)
    go_simp
    refine (num_call HCK.out (by decide) (by decide) HN.out.len _).mono ?_
    rintro e wq ⟨rfl, rfl⟩
    go_wp2_with fail
    refine hK.out _ _ ?q (fun hHeld => ?_)
    case q => (try dsimp only); exact ⟨HZ2.out.cell 0, HZ2.out.cell 3, HZ2.out.cell 4⟩
    clear hK K
    try simp only [zpt]
    refine ztk 34 rfl ?_ (v := Value.int .u32 (Crc.u (Crc.sum tt))) (hy := ?hyx67sb34)
    case hyx67sb34 => (intro wS hSw; (try dsimp only at hSw); go_simp; rw [HCV.out])
    rotate_left
    all_goals
     refine zrd 38 rfl (fun K hK => ?_)
     go_simp
     refine (rsum_at2 _ tt 124 cap2 _ _ HTL.out (by decide) (row8_of HRG.out)).mono ?_
     rintro e wq ⟨rfl, rfl⟩
     go_wp2_with fail
     refine hK.out _ _ ?q (fun hHeld => ?_)
     case q => (try dsimp only); exact ⟨HZ2.out.cell 0, HZ2.out.cell 3, HZ2.out.cell 4⟩
     clear hK K
     try simp only [zpt]
     refine ztk 39 rfl ?_ (v := Value.bool false) (hy := ?hyx67sa39)
     case hyx67sa39 => (intro wS hSw; (try dsimp only at hSw); go_simp; skip)
     refine ztk 40 rfl ?_
     refine wpAnyH_done (by kernel_rfl) ?_ _
     refine NoPanic.normal ?_
     go_wp2_with fail
     go_meet
     exact ⟨rfl, HZ2.out⟩
   case rest =>
    obtain ⟨rfl, hrt⟩ := hcut
    have HR := Lib.hid hrt
    clear hrt
    clear p0 r0
    clear p1 r1
    clear p2 r2
    clear p3 r3
    clear p4 r4
    clear p5 r5
    clear q0
    go_wp2_with fail
    go_loop [6] (fun v => ∃ j : Nat, 22 + ml ≤ j ∧ j ≤ 124 ∧ v = .int .i64 (j : Int)) (fun v => 124 - (intOf v).toNat)
    case atStart => exact ⟨22 + ml, Nat.le_refl _, by omega, by go_num⟩
    case round =>
     obtain ⟨j, hj1, hj2, rfl⟩ := hrel
     by_cases hlt : j < 124
     ·have hd : decide ((j : Int) < 124) = true := by simp; omega
      have hjs : j < (bs b).size := by omega
      have hji : (j : Int) < ((bs b).size : Int) := by omega
      have e0 : ((((bs b)[j]'hjs).toNat : Int) != 0) = false := by rw [H0.out j hjs hj1 hlt]; rfl
      go_wp2_with fail
      go_round
      case rel => exact ⟨j + 1, by omega, by omega, by go_num⟩
      case measure => simp [intOf]; omega
     ·have hd : decide ((j : Int) < 124) = false := by simp; omega
      obtain rfl : j = 124 := by omega
      have hms : (22 : Int) + (ml : Int) ≤ ((bs b).size : Int) := by omega
      obtain ⟨p0, p1, p2, p3, p4, p5⟩ := z6 HR.out.pt
      obtain ⟨r0, r1, r2, r3, r4, r5⟩ := z6 HR.out.res
      have q0 := HR.out.resfree
      have f0 := HR.out.free
      go_wp2_with fail
      rw [HBD.out]
      have hst : RtSt w (wc.setCell ⟨w.heap.size + 1, 5, none⟩ (strV m)) (ptC c s k i n m) := HR.out.set 5 (strV m)
      (try simp only [Exit.inBlock, Exit.then])
      refine bodyPost_ret (results_row_tmp rfl _ _ w.heap.size _ _ _ _ rfl (hst.put _ _ _ _ _ _).1 Tryz.underlying142 rfl (by kernel_rfl)) rfl ?_
      exact ⟨rfl, (hst.put _ _ _ _ _ _).2.1⟩
  ·have e1 : ((c.toNat : Int) != 67) = false := by rw [hc]; decide
   have d3 : decide ((ml : Int) < 102) = false := by simp; omega
   clear hc hsh hfull h102
   go_upto_region 3 with fail
   rw [H21.out]
   go_cut [61] from 21 to 61 (fun v61 wx => v61 = .bool false ∧ RtSt w wx (ptC c s k i n []))
   case first =>
    refine wp_region_noPanic ?_
    refine wp_region_held_drew (S := fun w' => w'.cell? ⟨w.heap.size + 1, 0, none⟩ = some (Value.int .u8 (c.toNat : Int)) ∧ w'.cell? ⟨w.heap.size + 1, 3, none⟩ = some (Value.int .i64 (i : Int)) ∧ w'.cell? ⟨w.heap.size + 1, 4, none⟩ = some (Value.int .i64 (n : Int))) (by kernel_rfl) ?hSx67l (fun hHeld => ?_)
    case hSx67l => exact ⟨HZ.out.cell 0, HZ.out.cell 3, HZ.out.cell 4⟩
    refine ztk 0 rfl ?_
    refine ztk 1 rfl ?_
    refine ztk 2 rfl ?_
    refine ztk 3 rfl ?_
    refine ztu 4 rfl ?_
    refine ztu 5 rfl ?_
    refine ztu 6 rfl ?_
    refine ztk 7 rfl ?_
    refine ztk 8 rfl ?_
    refine ztk 9 rfl ?_
    refine ztk 10 rfl ?_
    refine ztk 11 rfl ?_
    refine ztk 12 rfl ?_
    refine ztk 13 rfl ?_
    refine ztk 14 rfl ?_
    refine ztk 15 rfl ?_
    refine ztk 16 rfl ?_
    refine ztk 17 rfl ?_
    refine ztk 18 rfl ?_
    refine ztk 19 rfl ?_
    refine ztk 20 rfl ?_
    refine ztk 21 rfl ?_
    refine ztk 22 rfl ?_
    refine ztu 23 rfl ?_
    refine ztu 24 rfl ?_
    refine ztu 25 rfl ?_
    refine ztu 26 rfl ?_
    refine ztu 27 rfl ?_
    refine ztu 28 rfl ?_
    refine ztk 29 rfl ?_
    refine ztk 30 rfl ?_
    refine ztk 31 rfl ?_
    refine ztk 32 rfl ?_
    refine ztk 35 rfl ?_
    refine ztk 36 rfl ?_ (v := strV tt) (hy := ?hyx67l36)
    case hyx67l36 => (intro wS hSw; (try dsimp only at hSw); go_simp; rw [HEX.out])
    refine zrd2 33 37 rfl rfl (fun K hK => ?_) (fun K hK => ?_)
    go_simp
    refine (num_call HCK.out (by decide) (by decide) HN.out.len _).mono ?_
    rintro e wq ⟨rfl, rfl⟩
    go_wp2_with fail
    refine hK.out _ _ ?q (fun hHeld => ?_)
    case q => (try dsimp only); exact hHeld
    clear hK K
    try simp only [zpt]
    refine ztk 34 rfl ?_ (v := Value.int .u32 (Crc.u (Crc.sum tt))) (hy := ?hyx67la34)
    case hyx67la34 => (intro wS hSw; (try dsimp only at hSw); go_simp; rw [HCV.out])
    refine zrd 37 rfl (fun K hK => ?_)
    go_simp
    obtain ⟨W2, cap2, hrun, hrg, -, hgr, -⟩ := run_bytes_new _ tt
    rw [HTL.out] at hrun
    rw [hrun]
    have HRG := Lib.hid hrg
    have HZ2 := Lib.hid (HZD.out.later (grown_below0 hgr (Nat.le_refl _)))
    clear hrun hrg hgr
    go_wp2_with fail
    refine hK.out _ _ ?q (fun hHeld => ?_)
    case q => (try dsimp only); exact ⟨HZ2.out.cell 0, HZ2.out.cell 3, HZ2.out.cell 4⟩
    clear hK K
    try simp only [zpt]
    rotate_left
    go_simp
    obtain ⟨W2, cap2, hrun, hrg, -, hgr, -⟩ := run_bytes_new _ tt
    rw [HTL.out] at hrun
    rw [hrun]
    have HRG := Lib.hid hrg
    have HZ2 := Lib.hid (HZD.out.later (grown_below0 hgr (Nat.le_refl _)))
    clear hrun hrg hgr
    go_wp2_with fail
    refine hK.out _ _ ?q (fun hHeld => ?_)
    case q => (try dsimp only); exact ⟨HZ2.out.cell 0, HZ2.out.cell 3, HZ2.out.cell 4⟩
    clear hK K
    try simp only [zpt]
    refine zrd 33 rfl (fun K hK => ?_)
    go_simp
    refine (num_call HCK.out (by decide) (by decide) HN.out.len _).mono ?_
    rintro e wq ⟨rfl, rfl⟩
    go_wp2_with fail
    refine hK.out _ _ ?q (fun hHeld => ?_)
    case q => (try dsimp only); exact ⟨HZ2.out.cell 0, HZ2.out.cell 3, HZ2.out.cell 4⟩
    clear hK K
    try simp only [zpt]
    refine ztk 34 rfl ?_ (v := Value.int .u32 (Crc.u (Crc.sum tt))) (hy := ?hyx67lb34)
    case hyx67lb34 => (intro wS hSw; (try dsimp only at hSw); go_simp; rw [HCV.out])
    rotate_left
    all_goals
     refine zrd 38 rfl (fun K hK => ?_)
     go_simp
     refine (rsum_at2 _ tt 124 cap2 _ _ HTL.out (by decide) (row8_of HRG.out)).mono ?_
     rintro e wq ⟨rfl, rfl⟩
     go_wp2_with fail
     refine hK.out _ _ ?q (fun hHeld => ?_)
     case q => (try dsimp only); exact ⟨HZ2.out.cell 0, HZ2.out.cell 3, HZ2.out.cell 4⟩
     clear hK K
     try simp only [zpt]
     refine ztk 39 rfl ?_ (v := Value.bool false) (hy := ?hyx67la39)
     case hyx67la39 => (intro wS hSw; (try dsimp only at hSw); go_simp; skip)
     refine ztk 40 rfl ?_
     refine wpAnyH_done (by kernel_rfl) ?_ _
     refine NoPanic.normal ?_
     go_wp2_with fail
     go_meet
     exact ⟨rfl, HZ2.out⟩
   case rest =>
    obtain ⟨rfl, hrt⟩ := hcut
    have HR := Lib.hid hrt
    clear hrt
    clear p0 r0
    clear p1 r1
    clear p2 r2
    clear p3 r3
    clear p4 r4
    clear p5 r5
    clear q0
    go_wp2_with fail
    go_loop [6] (fun v => ∃ j : Nat, 22 + ml ≤ j ∧ j ≤ 124 ∧ v = .int .i64 (j : Int)) (fun v => 124 - (intOf v).toNat)
    case atStart => exact ⟨22 + ml, Nat.le_refl _, by omega, by go_num⟩
    case round =>
     obtain ⟨j, hj1, hj2, rfl⟩ := hrel
     by_cases hlt : j < 124
     ·have hd : decide ((j : Int) < 124) = true := by simp; omega
      have hjs : j < (bs b).size := by omega
      have hji : (j : Int) < ((bs b).size : Int) := by omega
      have e0 : ((((bs b)[j]'hjs).toNat : Int) != 0) = false := by rw [H0.out j hjs hj1 hlt]; rfl
      go_wp2_with fail
      go_round
      case rel => exact ⟨j + 1, by omega, by omega, by go_num⟩
      case measure => simp [intOf]; omega
     ·have hd : decide ((j : Int) < 124) = false := by simp; omega
      obtain rfl : j = 124 := by omega
      have hms : (22 : Int) + (ml : Int) ≤ ((bs b).size : Int) := by omega
      obtain ⟨p0, p1, p2, p3, p4, p5⟩ := z6 HR.out.pt
      obtain ⟨r0, r1, r2, r3, r4, r5⟩ := z6 HR.out.res
      have q0 := HR.out.resfree
      have f0 := HR.out.free
      go_wp2_with fail
      rw [HBD.out]
      have hst : RtSt w (wc.setCell ⟨w.heap.size + 1, 5, none⟩ (strV m)) (ptC c s k i n m) := HR.out.set 5 (strV m)
      (try simp only [Exit.inBlock, Exit.then])
      refine bodyPost_ret (results_row_tmp rfl _ _ w.heap.size _ _ _ _ rfl (hst.put _ _ _ _ _ _).1 Tryz.underlying142 rfl (by kernel_rfl)) rfl ?_
      exact ⟨rfl, (hst.put _ _ _ _ _ _).2.1⟩
  ·have e1 : ((c.toNat : Int) != 67) = true := by rw [hc]; decide
   have e2 : ((c.toNat : Int) != 82) = false := by rw [hc]; decide
   have d3 : decide ((ml : Int) < 102) = true := by simp; omega
   have d4 : decide ((i : Int) < (n : Int) - 1) = false := by simp; omega
   clear hc hsh hfull h102
   go_upto_region 3 with fail
   rw [H21.out]
   go_cut [61] from 21 to 61 (fun v61 wx => v61 = .bool false ∧ RtSt w wx (ptC c s k i n []))
   case first =>
    refine wp_region_noPanic ?_
    refine wp_region_held_drew (S := fun w' => w'.cell? ⟨w.heap.size + 1, 0, none⟩ = some (Value.int .u8 (c.toNat : Int)) ∧ w'.cell? ⟨w.heap.size + 1, 3, none⟩ = some (Value.int .i64 (i : Int)) ∧ w'.cell? ⟨w.heap.size + 1, 4, none⟩ = some (Value.int .i64 (n : Int))) (by kernel_rfl) ?hSx82s (fun hHeld => ?_)
    case hSx82s => exact ⟨HZ.out.cell 0, HZ.out.cell 3, HZ.out.cell 4⟩
    refine ztk 0 rfl ?_
    refine ztk 1 rfl ?_
    refine ztk 2 rfl ?_
    refine ztk 3 rfl ?_
    refine ztk 4 rfl ?_
    refine ztk 5 rfl ?_
    refine ztk 6 rfl ?_
    refine ztk 7 rfl ?_
    refine ztk 8 rfl ?_
    refine ztk 9 rfl ?_
    refine ztk 10 rfl ?_
    refine ztk 11 rfl ?_
    refine ztk 12 rfl ?_
    refine ztk 13 rfl ?_
    refine ztk 14 rfl ?_
    refine ztk 15 rfl ?_
    refine ztk 16 rfl ?_
    refine ztk 17 rfl ?_
    refine ztk 18 rfl ?_
    refine ztk 19 rfl ?_
    refine ztk 20 rfl ?_
    refine ztk 21 rfl ?_
    refine ztk 22 rfl ?_
    refine ztk 23 rfl ?_
    refine ztk 24 rfl ?_
    refine ztk 25 rfl ?_
    refine ztk 26 rfl ?_
    refine ztk 27 rfl ?_ (v := Value.int .i64 ((n : Int) - 1)) (hy := ?hyx82s27)
    case hyx82s27 => (intro wS hSw; (try dsimp only at hSw); go_simp; rw [HW1.out])
    refine ztk 28 rfl ?_
    refine ztk 29 rfl ?_
    refine ztk 30 rfl ?_
    refine ztk 31 rfl ?_
    refine ztk 32 rfl ?_
    refine ztk 35 rfl ?_
    refine ztk 36 rfl ?_ (v := strV tt) (hy := ?hyx82s36)
    case hyx82s36 => (intro wS hSw; (try dsimp only at hSw); go_simp; rw [HEX.out])
    refine zrd2 33 37 rfl rfl (fun K hK => ?_) (fun K hK => ?_)
    go_simp
    refine (num_call HCK.out (by decide) (by decide) HN.out.len _).mono ?_
    rintro e wq ⟨rfl, rfl⟩
    go_wp2_with fail
    refine hK.out _ _ ?q (fun hHeld => ?_)
    case q => (try dsimp only); exact hHeld
    clear hK K
    try simp only [zpt]
    refine ztk 34 rfl ?_ (v := Value.int .u32 (Crc.u (Crc.sum tt))) (hy := ?hyx82sa34)
    case hyx82sa34 => (intro wS hSw; (try dsimp only at hSw); go_simp; rw [HCV.out])
    refine zrd 37 rfl (fun K hK => ?_)
    go_simp
    obtain ⟨W2, cap2, hrun, hrg, -, hgr, -⟩ := run_bytes_new _ tt
    rw [HTL.out] at hrun
    rw [hrun]
    have HRG := Lib.hid hrg
    have HZ2 := Lib.hid (HZD.out.later (grown_below0 hgr (Nat.le_refl _)))
    clear hrun hrg hgr
    go_wp2_with fail
    refine hK.out _ _ ?q (fun hHeld => ?_)
    case q => (try dsimp only); exact ⟨HZ2.out.cell 0, HZ2.out.cell 3, HZ2.out.cell 4⟩
    clear hK K
    try simp only [zpt]
    rotate_left
    go_simp
    obtain ⟨W2, cap2, hrun, hrg, -, hgr, -⟩ := run_bytes_new _ tt
    rw [HTL.out] at hrun
    rw [hrun]
    have HRG := Lib.hid hrg
    have HZ2 := Lib.hid (HZD.out.later (grown_below0 hgr (Nat.le_refl _)))
    clear hrun hrg hgr
    go_wp2_with fail
    refine hK.out _ _ ?q (fun hHeld => ?_)
    case q => (try dsimp only); exact ⟨HZ2.out.cell 0, HZ2.out.cell 3, HZ2.out.cell 4⟩
    clear hK K
    try simp only [zpt]
    refine zrd 33 rfl (fun K hK => ?_)
    go_simp
    refine (num_call HCK.out (by decide) (by decide) HN.out.len _).mono ?_
    rintro e wq ⟨rfl, rfl⟩
    go_wp2_with fail
    refine hK.out _ _ ?q (fun hHeld => ?_)
    case q => (try dsimp only); exact ⟨HZ2.out.cell 0, HZ2.out.cell 3, HZ2.out.cell 4⟩
    clear hK K
    try simp only [zpt]
    refine ztk 34 rfl ?_ (v := Value.int .u32 (Crc.u (Crc.sum tt))) (hy := ?hyx82sb34)
    case hyx82sb34 => (intro wS hSw; (try dsimp only at hSw); go_simp; rw [HCV.out])
    rotate_left
    all_goals
     refine zrd 38 rfl (fun K hK => ?_)
     go_simp
     refine (rsum_at2 _ tt 124 cap2 _ _ HTL.out (by decide) (row8_of HRG.out)).mono ?_
     rintro e wq ⟨rfl, rfl⟩
     go_wp2_with fail
     refine hK.out _ _ ?q (fun hHeld => ?_)
     case q => (try dsimp only); exact ⟨HZ2.out.cell 0, HZ2.out.cell 3, HZ2.out.cell 4⟩
     clear hK K
     try simp only [zpt]
     refine ztk 39 rfl ?_ (v := Value.bool false) (hy := ?hyx82sa39)
     case hyx82sa39 => (intro wS hSw; (try dsimp only at hSw); go_simp; skip)
     refine ztk 40 rfl ?_
     refine wpAnyH_done (by kernel_rfl) ?_ _
     refine NoPanic.normal ?_
     go_wp2_with fail
     go_meet
     exact ⟨rfl, HZ2.out⟩
   case rest =>
    obtain ⟨rfl, hrt⟩ := hcut
    have HR := Lib.hid hrt
    clear hrt
    clear p0 r0
    clear p1 r1
    clear p2 r2
    clear p3 r3
    clear p4 r4
    clear p5 r5
    clear q0
    go_wp2_with fail
    go_loop [6] (fun v => ∃ j : Nat, 22 + ml ≤ j ∧ j ≤ 124 ∧ v = .int .i64 (j : Int)) (fun v => 124 - (intOf v).toNat)
    case atStart => exact ⟨22 + ml, Nat.le_refl _, by omega, by go_num⟩
    case round =>
     obtain ⟨j, hj1, hj2, rfl⟩ := hrel
     by_cases hlt : j < 124
     ·have hd : decide ((j : Int) < 124) = true := by simp; omega
      have hjs : j < (bs b).size := by omega
      have hji : (j : Int) < ((bs b).size : Int) := by omega
      have e0 : ((((bs b)[j]'hjs).toNat : Int) != 0) = false := by rw [H0.out j hjs hj1 hlt]; rfl
      go_wp2_with fail
      go_round
      case rel => exact ⟨j + 1, by omega, by omega, by go_num⟩
      case measure => simp [intOf]; omega
     ·have hd : decide ((j : Int) < 124) = false := by simp; omega
      obtain rfl : j = 124 := by omega
      have hms : (22 : Int) + (ml : Int) ≤ ((bs b).size : Int) := by omega
      obtain ⟨p0, p1, p2, p3, p4, p5⟩ := z6 HR.out.pt
      obtain ⟨r0, r1, r2, r3, r4, r5⟩ := z6 HR.out.res
      have q0 := HR.out.resfree
      have f0 := HR.out.free
      go_wp2_with fail
      rw [HBD.out]
      have hst : RtSt w (wc.setCell ⟨w.heap.size + 1, 5, none⟩ (strV m)) (ptC c s k i n m) := HR.out.set 5 (strV m)
      (try simp only [Exit.inBlock, Exit.then])
      refine bodyPost_ret (results_row_tmp rfl _ _ w.heap.size _ _ _ _ rfl (hst.put _ _ _ _ _ _).1 Tryz.underlying142 rfl (by kernel_rfl)) rfl ?_
      exact ⟨rfl, (hst.put _ _ _ _ _ _).2.1⟩
  ·have e1 : ((c.toNat : Int) != 67) = true := by rw [hc]; decide
   have e2 : ((c.toNat : Int) != 82) = false := by rw [hc]; decide
   have d3 : decide ((ml : Int) < 102) = false := by simp; omega
   clear hc hsh hfull h102
   go_upto_region 3 with fail
   rw [H21.out]
   go_cut [61] from 21 to 61 (fun v61 wx => v61 = .bool false ∧ RtSt w wx (ptC c s k i n []))
   case first =>
    refine wp_region_noPanic ?_
    refine wp_region_held_drew (S := fun w' => w'.cell? ⟨w.heap.size + 1, 0, none⟩ = some (Value.int .u8 (c.toNat : Int)) ∧ w'.cell? ⟨w.heap.size + 1, 3, none⟩ = some (Value.int .i64 (i : Int)) ∧ w'.cell? ⟨w.heap.size + 1, 4, none⟩ = some (Value.int .i64 (n : Int))) (by kernel_rfl) ?hSx82l (fun hHeld => ?_)
    case hSx82l => exact ⟨HZ.out.cell 0, HZ.out.cell 3, HZ.out.cell 4⟩
    refine ztk 0 rfl ?_
    refine ztk 1 rfl ?_
    refine ztk 2 rfl ?_
    refine ztk 3 rfl ?_
    refine ztk 4 rfl ?_
    refine ztk 5 rfl ?_
    refine ztk 6 rfl ?_
    refine ztk 7 rfl ?_
    refine ztk 8 rfl ?_
    refine ztk 9 rfl ?_
    refine ztk 10 rfl ?_
    refine ztk 11 rfl ?_
    refine ztk 12 rfl ?_
    refine ztk 13 rfl ?_
    refine ztk 14 rfl ?_
    refine ztk 15 rfl ?_
    refine ztk 16 rfl ?_
    refine ztk 17 rfl ?_
    refine ztk 18 rfl ?_
    refine ztk 19 rfl ?_
    refine ztk 20 rfl ?_
    refine ztk 21 rfl ?_
    refine ztk 22 rfl ?_
    refine ztu 23 rfl ?_
    refine ztu 24 rfl ?_
    refine ztu 25 rfl ?_
    refine ztu 26 rfl ?_
    refine ztu 27 rfl ?_
    refine ztu 28 rfl ?_
    refine ztk 29 rfl ?_
    refine ztk 30 rfl ?_
    refine ztk 31 rfl ?_
    refine ztk 32 rfl ?_
    refine ztk 35 rfl ?_
    refine ztk 36 rfl ?_ (v := strV tt) (hy := ?hyx82l36)
    case hyx82l36 => (intro wS hSw; (try dsimp only at hSw); go_simp; rw [HEX.out])
    refine zrd2 33 37 rfl rfl (fun K hK => ?_) (fun K hK => ?_)
    go_simp
    refine (num_call HCK.out (by decide) (by decide) HN.out.len _).mono ?_
    rintro e wq ⟨rfl, rfl⟩
    go_wp2_with fail
    refine hK.out _ _ ?q (fun hHeld => ?_)
    case q => (try dsimp only); exact hHeld
    clear hK K
    try simp only [zpt]
    refine ztk 34 rfl ?_ (v := Value.int .u32 (Crc.u (Crc.sum tt))) (hy := ?hyx82la34)
    case hyx82la34 => (intro wS hSw; (try dsimp only at hSw); go_simp; rw [HCV.out])
    refine zrd 37 rfl (fun K hK => ?_)
    go_simp
    obtain ⟨W2, cap2, hrun, hrg, -, hgr, -⟩ := run_bytes_new _ tt
    rw [HTL.out] at hrun
    rw [hrun]
    have HRG := Lib.hid hrg
    have HZ2 := Lib.hid (HZD.out.later (grown_below0 hgr (Nat.le_refl _)))
    clear hrun hrg hgr
    go_wp2_with fail
    refine hK.out _ _ ?q (fun hHeld => ?_)
    case q => (try dsimp only); exact ⟨HZ2.out.cell 0, HZ2.out.cell 3, HZ2.out.cell 4⟩
    clear hK K
    try simp only [zpt]
    rotate_left
    go_simp
    obtain ⟨W2, cap2, hrun, hrg, -, hgr, -⟩ := run_bytes_new _ tt
    rw [HTL.out] at hrun
    rw [hrun]
    have HRG := Lib.hid hrg
    have HZ2 := Lib.hid (HZD.out.later (grown_below0 hgr (Nat.le_refl _)))
    clear hrun hrg hgr
    go_wp2_with fail
    refine hK.out _ _ ?q (fun hHeld => ?_)
    case q => (try dsimp only); exact ⟨HZ2.out.cell 0, HZ2.out.cell 3, HZ2.out.cell 4⟩
    clear hK K
    try simp only [zpt]
    refine zrd 33 rfl (fun K hK => ?_)
    go_simp
    refine (num_call HCK.out (by decide) (by decide) HN.out.len _).mono ?_
    rintro e wq ⟨rfl, rfl⟩
    go_wp2_with fail
    refine hK.out _ _ ?q (fun hHeld => ?_)
    case q => (try dsimp only); exact ⟨HZ2.out.cell 0, HZ2.out.cell 3, HZ2.out.cell 4⟩
    clear hK K
    try simp only [zpt]
    refine ztk 34 rfl ?_ (v := Value.int .u32 (Crc.u (Crc.sum tt))) (hy := ?hyx82lb34)
    case hyx82lb34 => (intro wS hSw; (try dsimp only at hSw); go_simp; rw [HCV.out])
    rotate_left
    all_goals
     refine zrd 38 rfl (fun K hK => ?_)
     go_simp
     refine (rsum_at2 _ tt 124 cap2 _ _ HTL.out (by decide) (row8_of HRG.out)).mono ?_
     rintro e wq ⟨rfl, rfl⟩
     go_wp2_with fail
     refine hK.out _ _ ?q (fun hHeld => ?_)
     case q => (try dsimp only); exact ⟨HZ2.out.cell 0, HZ2.out.cell 3, HZ2.out.cell 4⟩
     clear hK K
     try simp only [zpt]
     refine ztk 39 rfl ?_ (v := Value.bool false) (hy := ?hyx82la39)
     case hyx82la39 => (intro wS hSw; (try dsimp only at hSw); go_simp; skip)
     refine ztk 40 rfl ?_
     refine wpAnyH_done (by kernel_rfl) ?_ _
     refine NoPanic.normal ?_
     go_wp2_with fail
     go_meet
     exact ⟨rfl, HZ2.out⟩
   case rest =>
    obtain ⟨rfl, hrt⟩ := hcut
    have HR := Lib.hid hrt
    clear hrt
    clear p0 r0
    clear p1 r1
    clear p2 r2
    clear p3 r3
    clear p4 r4
    clear p5 r5
    clear q0
    go_wp2_with fail
    go_loop [6] (fun v => ∃ j : Nat, 22 + ml ≤ j ∧ j ≤ 124 ∧ v = .int .i64 (j : Int)) (fun v => 124 - (intOf v).toNat)
    case atStart => exact ⟨22 + ml, Nat.le_refl _, by omega, by go_num⟩
    case round =>
     obtain ⟨j, hj1, hj2, rfl⟩ := hrel
     by_cases hlt : j < 124
     ·have hd : decide ((j : Int) < 124) = true := by simp; omega
      have hjs : j < (bs b).size := by omega
      have hji : (j : Int) < ((bs b).size : Int) := by omega
      have e0 : ((((bs b)[j]'hjs).toNat : Int) != 0) = false := by rw [H0.out j hjs hj1 hlt]; rfl
      go_wp2_with fail
      go_round
      case rel => exact ⟨j + 1, by omega, by omega, by go_num⟩
      case measure => simp [intOf]; omega
     ·have hd : decide ((j : Int) < 124) = false := by simp; omega
      obtain rfl : j = 124 := by omega
      have hms : (22 : Int) + (ml : Int) ≤ ((bs b).size : Int) := by omega
      obtain ⟨p0, p1, p2, p3, p4, p5⟩ := z6 HR.out.pt
      obtain ⟨r0, r1, r2, r3, r4, r5⟩ := z6 HR.out.res
      have q0 := HR.out.resfree
      have f0 := HR.out.free
      go_wp2_with fail
      rw [HBD.out]
      have hst : RtSt w (wc.setCell ⟨w.heap.size + 1, 5, none⟩ (strV m)) (ptC c s k i n m) := HR.out.set 5 (strV m)
      (try simp only [Exit.inBlock, Exit.then])
      refine bodyPost_ret (results_row_tmp rfl _ _ w.heap.size _ _ _ _ rfl (hst.put _ _ _ _ _ _).1 Tryz.underlying142 rfl (by kernel_rfl)) rfl ?_
      exact ⟨rfl, (hst.put _ _ _ _ _ _).2.1⟩
end Go.Proofs.YtgdedgfohjplmaaGreat.Jnl
