/- JournalAgain: the walk. -/
import Derived.Test.YtgdedgfohjplmaaJP
namespace Go.Proofs.Ytgdedgfohjplmaa.Jnl
open Go.RowKit Go.Maps Sec

section
variable {ops : Array Oper} {o : Oper} {a : Act} {w : World} {K : Act → World → Prop} {Q : Exit → Act → World → Prop} {E : Prop}
set_option maxRecDepth 100000 in
theorem step_append_strw (hw : Region.wanted o (yielded ops a.tmps) = true) (s x : Operand) (hop : o.op = Op.call { callee := Callee.builtin Builtin.append, args := #[s, x], argTypes := #[35, 35] })
    (B : Nat) (v : Value) (xs : List Value) (y : Value) (hy : y.oneCell' = true) (hown : StrRow w B v xs) (hs : a.eval s = v) (g : Nat) (hx : a.eval x = .slice (some ⟨g, 0, none⟩) 1 1) (hc : w.cell? ⟨g, 0, none⟩ = some y) (hb : xs.length < 100000) (hbase : B ≤ w.heap.size)
    (hK : ∀ v' w', StrRow w' B v' (xs ++ [y]) → w.grownBy w' v.ownBlock → K (a.put o.dst v') w') :
    if Region.wanted o (yielded ops a.tmps) = true then Oper.wp Try.prog o a w K Q else E := by
  rw [if_pos hw]
  obtain ⟨i0, hi0, he⟩ := Option.map_eq_some_iff.1 info_str
  simp only [Prod.mk.injEq] at he
  obtain ⟨v', w', hrun, hown', hgr, _⟩ := run_append_own (P := Try.prog) w B 35 o.type 9 i0 _ 1 16 Try.underlying35 hi0 he.1 he.2.1 he.2.2 rfl (by decide) v xs.length _ hown ⟨g, 0, none⟩ 1 1 [y] rfl
    (by
      intro j z hj
      match j, hj with
      | 0, hj =>
        simp at hj
        rw [Addr.add_lit, ← hj]
        exact hc
      | j + 1, hj => simp at hj) (by intro z hz; simp at hz; subst hz; exact hy) (by unfold maxLen; omega) (by omega) hbase
  unfold Oper.wp
  simp [execOp, hop, resolve, invoke, builtin, hs, hx, hrun, Result.andThen]
  refine hK v' w' ?_ hgr
  unfold StrRow
  rw [List.length_append]
  exact hown'
end
/-- A row of strings whose block lies between B and E. -/
def RowIn (w : World) (B E : Nat) (v : Value) (xs : List Value) : Prop := StrRow w B v xs ∧ ∀ g, v.ownBlock = some g → g < E
theorem RowIn.off {w w' : World} {T : Nat → Prop} {B E : Nat} {v : Value} {xs : List Value} (h : RowIn w B E v xs) (ho : Off T w w') (hT : ∀ b, T b → b < B ∨ E ≤ b) : RowIn w' B E v xs :=
  ⟨Sec.row_off h.1 ho (fun g hg ht => by have h1 := World.ownsRow.lt h.1 g hg; have h2 := h.2 g hg; have h3 := hT g ht; omega), h.2⟩
theorem parts_102 (n : Nat) : parts n * 102 ≤ n + 102 := by unfold parts; omega
theorem putR_used (D : Dsk) (J : Jn) (ck : Bool) (l : List UInt8) : (putR D J ck l).2.used ≤ J.used + parts l.length := by
  unfold putR
  cases ck with
  | true =>
    rw [if_pos rfl]
    split
    · show J.used ≤ _; omega
    · show parts l.length ≤ _; omega
  | false =>
    rw [if_neg Bool.false_ne_true]
    split
    · show J.used ≤ _; omega
    · show J.used + parts l.length ≤ _; omega
/-- The first loop's state. -/
def AgInv1 (w : World) (l : List CallJ) (k : Nat) (S Sd : Nat → Prop) (d jb : Nat) (D : Dsk) (J : Jn) (wr : World) : Prop := Both w wr S Sd d jb D J ∧ Fit D J 0 (1 + k) ∧ D.n = 16384 ∧ D.wr.length ≤ 2 + 900 * k ∧ 102 * J.used ≤ 102 + 29 * totalJ (l.take k) + 102 * k
theorem AgInv1.put {w wr w2 : World} {l : List CallJ} {k : Nat} {S Sd S2 Sd2 : Nat → Prop} {d jb : Nat} {D : Dsk} {J : Jn} {c : CallJ} (h : AgInv1 w l k S Sd d jb D J wr) (hk : k ≤ 60) (hc : l[k]? = some c) (hcl : c.b.length ≤ 3000) (hb : Both w w2 S2 Sd2 d jb (putR D J (decide (c.k.toNat % 9 = 4)) (rep c.b (c.k.toNat / 9 + 1))).1 (putR D J (decide (c.k.toNat % 9 = 4)) (rep c.b (c.k.toNat / 9 + 1))).2) : AgInv1 w l (k + 1) S2 Sd2 d jb (putR D J (decide (c.k.toNat % 9 = 4)) (rep c.b (c.k.toNat / 9 + 1))).1 (putR D J (decide (c.k.toNat % 9 = 4)) (rep c.b (c.k.toNat / 9 + 1))).2 w2 := by
  obtain ⟨_, h2, h3, h4, h5⟩ := h
  have hr := rep_small (k := c.k) hcl
  obtain ⟨a1, a2, a3, a4⟩ := putR_fit (decide (c.k.toNat % 9 = 4)) h2 (by omega) hr.1
  have hu := putR_used D J (decide (c.k.toNat % 9 = 4)) (rep c.b (c.k.toNat / 9 + 1))
  have hp := parts_102 (rep c.b (c.k.toNat / 9 + 1)).length
  have hl := rep_length c.b (c.k.toNat / 9 + 1)
  have h256 : c.k.toNat < 256 := c.k.toNat_lt
  have h29 : (c.k.toNat / 9 + 1) * c.b.length ≤ 29 * c.b.length := Nat.mul_le_mul (by omega) (Nat.le_refl _)
  have ht := totalJ_succ l k c hc
  exact ⟨hb, a1.less (Nat.le_refl _) (by omega), a2.trans h3, by omega, by omega⟩
/-- The second loop's state. -/
def AgInv2 (w : World) (B E : Nat) (vw : Value) (S : Nat → Prop) (d jb : Nat) (J : Jn) (t : Nat) (Sd : Nat → Prop) (D : Dsk) (p : Nat) (wr : World) : Prop :=
  Both w wr S Sd d jb D J ∧ Fit D { J with op := p } 0 (100 + t) ∧ D.n = 16384 ∧ D.wr.length ≤ 40000 ∧ RowIn wr B E vw (hasV (hasL J)) ∧ (∀ b, Sd b → b < B ∨ E ≤ b) ∧ E ≤ wr.heap.size
/-- The disk has been opened again; the first journal stands beside. -/
theorem Both.again {w0 w w' : World} {S Sd Sj Sd' : Nat → Prop} {d jb jx : Nat} {D D' : Dsk} {J J' : Jn} (h : Both w0 w S Sd d jb D J) (hx : Both w0 w' Sj Sd' d jx D' J') (hs : ∀ b, Sd' b → Sd b ∨ w.heap.size ≤ b) (ho : Off Sd w w') : Both w0 w' S Sd' d jb D' J :=
  ⟨hx.disk, h.jnl.off ho h.apart, fun b hb hd => by
    rcases hs b hd with h1 | h1
    · exact h.apart b hb h1
    · have := h.jlt b hb
      omega, hx.slt, hx.dnew, h.jnew, hx.off⟩
set_option maxRecDepth 100000 in
set_option maxHeartbeats 32000000 in
theorem again_walk (w : World) (l : List CallJ) (A : Option Addr) (cap : Nat) (tm : UInt8) (mo : List UInt8) (B : Option Addr) (cm : Nat) (hl : CJs w w A l) (hlc : l.length ≤ cap) (hcap : cap ≤ maxLen) (hB : Arg0 w w B mo cm) (hmc : mo.length ≤ cm) (hmm : cm ≤ maxLen) :
    Calls Try.prog 3 #[.slice A l.length cap, .int .u8 (tm.toNat : Int), .slice B mo.length cm] w fun e w' => e = .returned (.bool true) ∧ Below w.heap.size w w' := by
  obtain ⟨tn, htn⟩ : ∃ n, n = tm.toNat := ⟨_, rfl⟩
  have b1 : tn < 256 := by rw [htn]; exact tm.toNat_lt
  rw [← htn]
  have HL := Lib.hid hl
  have HB0 := Lib.hid hB
  have HCB := Lib.hid (And.intro hmc hmm)
  have HLG := Lib.hid (large_at w A l cap w hl hlc hcap)
  clear htn hl hcap hB hmm
  obtain ⟨bg, hbg⟩ : ∃ b, b = bigJ l := ⟨_, rfl⟩
  rw [← hbg] at HLG
  obtain ⟨len, hlen⟩ : ∃ n, n = l.length := ⟨_, rfl⟩
  obtain ⟨lm, hlm⟩ : ∃ n, n = mo.length := ⟨_, rfl⟩
  rw [← hlen] at HLG hlc ⊢
  rw [← hlm] at hmc ⊢
  have HLEN := Lib.hid hlen
  have HLM := Lib.hid hlm
  have i1 : (len : Int) ≤ (cap : Int) := by omega
  have i2 : (lm : Int) ≤ (cm : Int) := by omega
  by_cases h30 : 30 < len
  · have d30 : decide ((30 : Int) < (len : Int)) = true := by simp; omega
    clear h30 hbg hlc hlen hlm hmc
    go_enter Try.func3, Try.ntmps3
    go_wp2_with fail
    refine (works_at _).mono ?_
    rintro e w2 ⟨rfl, ho⟩
    go_wp2_with fail
    go_ret
    exact ⟨rfl, off_to_below ho⟩
  have d30 : decide ((30 : Int) < (len : Int)) = false := by simp; omega
  by_cases hbig : bg = true
  · subst hbig
    clear h30 hbg hlc hlen hlm hmc
    go_enter Try.func3, Try.ntmps3
    go_wp2_with fail
    refine HLG.out.mono ?_
    rintro e wq ⟨rfl, rfl⟩
    go_wp2_with fail
    refine (works_at _).mono ?_
    rintro e w2 ⟨rfl, ho⟩
    go_wp2_with fail
    go_ret
    exact ⟨rfl, off_to_below ho⟩
  have hbgf : bg = false := by
    cases bg with
    | true => exact absurd rfl hbig
    | false => rfl
  subst hbgf
  by_cases h300 : 300 < lm
  · have d300 : decide ((300 : Int) < (lm : Int)) = true := by simp; omega
    clear h30 hbig hbg hlc hlen hlm hmc h300
    go_enter Try.func3, Try.ntmps3
    go_wp2_with fail
    refine HLG.out.mono ?_
    rintro e wq ⟨rfl, rfl⟩
    go_wp2_with fail
    refine (works_at _).mono ?_
    rintro e w2 ⟨rfl, ho⟩
    go_wp2_with fail
    go_ret
    exact ⟨rfl, off_to_below ho⟩
  have d300 : decide ((300 : Int) < (lm : Int)) = false := by simp; omega
  have hsm : totalJ l ≤ 3000 := by
    have h1 := hbg
    unfold bigJ at h1
    have h2 := of_decide_eq_false h1.symm
    omega
  have HSM := Lib.hid hsm
  have HMO : Hid (mo.length ≤ 300) := by show _ ≤ _; omega
  have HCS : Hid (∀ k, k < len → ∃ g off c, A = some ⟨g, off, none⟩ ∧ l[k]? = some c ∧ c.b.length ≤ 3000 ∧ ∀ wr, Off (fun b => w.heap.size ≤ b) w wr → CJAt w wr g (off + k * 3) c) := fun k hk => by
    obtain ⟨g, off, c, h1, h2, h3⟩ := HL.out.at_ (j := k) (by omega)
    refine ⟨g, off, c, h1, h2, by have := totalJ_one l k c h2; omega, fun wr ho => h3.off ?_ ho⟩
    exact World.block_lt_of_cell? w _ h3.1
  have hl30 : len ≤ 30 := by omega
  obtain ⟨m, hm⟩ : ∃ m, m = tn % 20 := ⟨_, rfl⟩
  have hmi : (tn : Int) % 20 = (m : Int) := by omega
  have hm20 : m < 20 := by omega
  clear h30 hbig hbg hsm hlen hlm hmc h300 hm
  go_enter Try.func3, Try.ntmps3
  go_wp2_with fail
  refine HLG.out.mono ?_
  rintro e wq ⟨rfl, hwq⟩
  subst hwq
  clear HLG
  go_wp2_with fail
  refine (new_at 16384 wq).mono ?_
  rintro e v0 ⟨d, rfl, hd, ho⟩
  rw [show (max 0 (min 16384 (16384 : Int))).toNat = 16384 from rfl] at hd
  have hd2 : DiskAt v0 (fun b => wq.heap.size ≤ b ∧ b < v0.heap.size) d (freshDisk 16384) := hd.mono (fun k hk h => ⟨h, hk⟩)
  have HV0 : Hid (Off (fun b => wq.heap.size ≤ b) wq v0) := ho.mono (fun _ _ h => h.elim)
  have HOP := Lib.hid (open_fresh _ d 16384 v0 hd2 (fun b h => h.2) (by decide))
  clear hd hd2 ho
  go_wp2_with fail
  refine HOP.out.mono ?_
  rintro e w1 ⟨jb, Sj, Sd0, rfl, hj, hd, hs1, hs2, ho1⟩
  have hb := Both.fresh (w0 := wq) HV0.out (fun _ h => h.1) hj hd hs1 hs2 ho1
  obtain ⟨E, hE⟩ : ∃ E, E = (opened (freshDisk 16384) none).2 := ⟨_, rfl⟩
  have hen := opened_n 16384
  have hf := Fit.fresh 16384 (by decide) (by decide)
  rw [← hE] at hb hen hf
  have HI1 : Hid (AgInv1 wq l 0 Sj Sd0 d jb E newJ w1) := ⟨hb, hf, hen.1, by rw [hen.2.1]; omega, by show 102 * 1 ≤ _; omega⟩
  clear hj hd hs1 hs2 ho1 hb hf hen hE HV0 HOP
  go_wp2_with fail
  go_loopw [10] (fun iv wr => ∃ (k : Nat) (S Sd : Nat → Prop) (D : Dsk) (J : Jn), k ≤ len ∧ iv = .int .i64 (k : Int) ∧ AgInv1 wq l k S Sd d jb D J wr) (fun iv _ => len - (intOf iv).toNat)
  case atStart => exact ⟨0, Sj, Sd0, E, newJ, Nat.zero_le _, rfl, HI1.out⟩
  case round =>
    obtain ⟨k, S, Sd, D, J, hk, rfl, hinv⟩ := hrel
    have HI := Lib.hid hinv
    clear hinv HI1
    by_cases hlt : k < len
    · have hkd : decide (k < len) = true := by simp; omega
      obtain ⟨g, off, c, hA, hc, hcl, hat⟩ := HCS.out k (by omega)
      subst hA
      obtain ⟨c0, Ab, capb, c1, c2, harg, hb1, hb2⟩ := hat wr HI.out.1.off
      have k0 : (0 : Int) ≤ (k : Int) := by omega
      have k1 : (k : Int) < (len : Int) := by omega
      have hk60 : k ≤ 60 := by omega
      have HPUT := Lib.hid (put_fit (k := c.k) (z := c.z) HI.out.1 HI.out.2.1 (by omega) (by have := HI.out.2.2.2.1; omega) hcl hb1 hb2 harg)
      have HCC := Lib.hid (And.intro hc hcl)
      obtain ⟨ck, hck⟩ : ∃ ck, ck = c.k.toNat := ⟨_, rfl⟩
      obtain ⟨bl, hbl⟩ : ∃ bl, bl = c.b.length := ⟨_, rfl⟩
      rw [← hck, ← hbl] at HPUT
      rw [← hck] at c0
      rw [← hbl] at c1
      have HCK := Lib.hid hck
      clear harg hb1 hb2 hcl hc hat hck hbl
      go_wp2_with fail
      refine HPUT.out.mono ?_
      rintro e w2 ⟨rfl, S2, Sd2, hb2, -, -, -⟩
      rw [HCK.out] at hb2
      have HI2 := Lib.hid (HI.out.put hk60 HCC.out.1 HCC.out.2 hb2)
      clear hb2 HPUT c0 c1 c2
      go_wp2_with fail
      go_roundw
      case rel => exact ⟨k + 1, S2, Sd2, _, _, hlt, by go_num, HI2.out⟩
      case measure => simp [intOf]; omega
    · have hkd : decide (k < len) = false := by simp; omega
      obtain rfl : k = len := by omega
      clear hlt hk
      have hus : J.used ≤ 883 := by
        have h1 := HI.out.2.2.2.2
        have h2 := totalJ_le l k
        have h3 := HSM.out
        omega
      have HUS := Lib.hid hus
      have HF2 : Hid (Fit D J 0 100) := HI.out.2.1.less (Nat.le_refl _) (by omega)
      have HWR : Hid (D.wr.length ≤ 40000) := by show _ ≤ _; have := HI.out.2.2.2.1; omega
      have HDN : Hid (D.n = 16384) := HI.out.2.2.1
      have HB4 := Lib.hid HI.out.1
      clear hus HI
      go_wp2_with fail
      refine (has_fit HB4.out HF2.out (by decide)).mono ?_
      rintro e w5 ⟨vw, rfl, hrw, ho5⟩
      have HI2 : Hid (AgInv2 wq wr.heap.size w5.heap.size vw S d jb J 0 Sd D J.op w5) := ⟨HB4.out.new ho5, HF2.out, HDN.out, HWR.out, ⟨hrw, fun g hg => (World.ownsRow.lt hrw g hg).2⟩, fun b hb => .inl (HB4.out.slt b hb), Nat.le_refl _⟩
      have HLJ : Hid ((hasL J).length < 100000) := by show J.recs.length + 1 < _; have := HF2.out.first; omega
      have HBE : Hid (wr.heap.size ≤ w5.heap.size) := ho5.size
      have HBQ : Hid (wq.heap.size ≤ wr.heap.size) := HB4.out.off.size
      clear hrw ho5 HB4 HF2 HWR HDN
      obtain ⟨B4, hB4⟩ : ∃ n, n = wr.heap.size := ⟨_, rfl⟩
      obtain ⟨E5, hE5⟩ : ∃ n, n = w5.heap.size := ⟨_, rfl⟩
      rw [← hB4, ← hE5] at HI2 HBE
      rw [← hB4] at HBQ
      clear hB4 hE5
      go_wp2_with fail
      go_loopw [12] (fun iv wr => ∃ (t : Nat) (Sd : Nat → Prop) (D : Dsk) (p : Nat), t ≤ m ∧ iv = .int .i64 (t : Int) ∧ AgInv2 wq B4 E5 vw S d jb J t Sd D p wr) (fun iv _ => m - (intOf iv).toNat)
      case atStart => exact ⟨0, Sd, D, J.op, Nat.zero_le _, rfl, HI2.out⟩
      case round =>
        obtain ⟨t, Sd, D, p, ht, rfl, hinv⟩ := hrel
        have HI := Lib.hid hinv
        clear hinv HI2
        by_cases hlt : t < m
        · have hkd : decide (t < m) = true := by simp; omega
          go_wp2_with fail
          refine (settle_at Sd d D wr HI.out.1.disk).mono ?_
          rintro e w6 ⟨rfl, hd, ho⟩
          have hb6 := HI.out.1.settle hd ho
          have hf6 : Fit (settled D) { J with op := p } 0 (100 + t) := HI.out.2.1.settle
          have hn6 : (settled D).n = 16384 ∧ (settled D).wr = [] := ⟨HI.out.2.2.1, rfl⟩
          have hr6 := HI.out.2.2.2.2.1.off ho HI.out.2.2.2.2.2.1
          have hs6 : E5 ≤ w6.heap.size := Nat.le_trans HI.out.2.2.2.2.2.2 ho.size
          obtain ⟨D6, hD6⟩ : ∃ D6, D6 = settled D := ⟨_, rfl⟩
          rw [← hD6] at hb6 hf6 hn6
          have HB6 := Lib.hid hb6
          have HF6 := Lib.hid hf6
          have HN6 := Lib.hid hn6
          have HR6 := Lib.hid hr6
          have HS6 := Lib.hid (And.intro hs6 HI.out.2.2.2.2.2.1)
          clear hd ho hb6 hf6 hn6 hr6 hs6 hD6 HI
          go_wp2_with fail
          refine (open_both HB6.out.disk HB6.out.slt HB6.out.dnew HB6.out.off HF6.out (by omega) (by rw [HN6.out.2]; decide)).mono ?_
          rintro e w7 ⟨jx, Sx, Sd7, rfl, hx, hx1, hx2, ho7⟩
          have hj7 := HB6.out.again hx hx2 ho7
          have hf7 := HF6.out.reopen
          have hr7 := HR6.out.off ho7 HS6.out.2
          have hs7 : E5 ≤ w7.heap.size := Nat.le_trans HS6.out.1 ho7.size
          have ha7 : ∀ b, Sd7 b → b < B4 ∨ E5 ≤ b := fun b hb => (hx2 b hb).elim (HS6.out.2 b) (fun h => .inr (Nat.le_trans HS6.out.1 h))
          obtain ⟨Jx, hJx⟩ : ∃ Jx : Jn, Jx = { J with op := p + 1 } := ⟨_, rfl⟩
          have hjx : hasL Jx = hasL J ∧ Jx.first = J.first ∧ Jx.recs.length = J.recs.length ∧ Jx.used = J.used := by rw [hJx]; exact ⟨rfl, rfl, rfl, rfl⟩
          have hx : Both wq w7 Sx Sd7 d jx (D6.push (J.area * (D6.n / 2)) (headB J.gen (p + 1) J.first J.size)) { J with op := p + 1 } := hx
          have hf7 : Fit (D6.push (J.area * (D6.n / 2)) (headB J.gen (p + 1) J.first J.size)) { J with op := p + 1 } 0 (100 + t + 1) := hf7
          have hj7 : Both wq w7 S Sd7 d jb (D6.push (J.area * (D6.n / 2)) (headB J.gen (p + 1) J.first J.size)) J := hj7
          obtain ⟨D7, hD7⟩ : ∃ D7, D7 = D6.push (J.area * (D6.n / 2)) (headB J.gen (p + 1) J.first J.size) := ⟨_, rfl⟩
          have hn7 : D7.n = 16384 ∧ D7.wr.length = 1 := by rw [hD7]; exact ⟨HN6.out.1, by show (D6.wr ++ [_]).length = 1; rw [HN6.out.2]; rfl⟩
          rw [← hD7] at hx hf7 hj7
          have HF7 := Lib.hid hf7
          rw [← hJx] at hx hf7
          have HX := Lib.hid hx
          have HFX := Lib.hid hf7
          have HJ7 := Lib.hid hj7
          have HR7 := Lib.hid hr7
          have HS7 := Lib.hid (And.intro hs7 ha7)
          have HJX := Lib.hid hjx
          have HN7 := Lib.hid hn7
          clear hx hx1 hx2 ho7 hj7 hf7 hr7 hs7 ha7 hJx hjx hD7 hn7 HB6 HF6 HN6 HR6 HS6
          go_wp2_with fail
          refine (writes_at Sd7 d D7 w7 HX.out.disk).mono ?_
          rintro e wz ⟨rfl, hwz⟩
          subst hwz
          rw [HN7.out.2]
          go_wp2_with fail
          refine (has_fit HX.out HFX.out (by omega)).mono ?_
          rintro e w8 ⟨vx, rfl, hrx, ho8⟩
          have HX8 := Lib.hid (HX.out.new ho8)
          have HJ8 := Lib.hid (HJ7.out.new ho8)
          have HR8 := Lib.hid (HR7.out.off ho8 (fun _ h => h.elim))
          have HRX := Lib.hid hrx
          have HS8 : Hid (E5 ≤ w8.heap.size) := Nat.le_trans HS7.out.1 ho8.size
          clear hrx ho8
          go_wp2_with fail
          refine (same_at _ _ vx vw (hasL Jx) (hasL J) w8 HRX.out HR8.out.1 (by rw [HJX.out.1]; exact HLJ.out) HLJ.out true (decide_eq_true ⟨HJX.out.1, by simp [hasL]⟩).symm).mono ?_
          rintro e wz ⟨rfl, m1, rfl⟩
          go_wp2_with fail
          refine (first_at Sx jx d Jx _ (HX8.out.new (off_drew w8 m1)).jnl).mono ?_
          rintro e wz ⟨he, hwz⟩
          rw [HJX.out.2.1] at he
          subst he
          have hwz := hwz.symm
          subst hwz
          go_wp2_with fail
          refine (first_at S jb d J _ (HJ8.out.new (off_drew w8 m1)).jnl).mono ?_
          rintro e wz ⟨rfl, hwz⟩
          have hwz := hwz.symm
          subst hwz
          have HFI : Hid (J.first + J.recs.length < 9223372036854775808) := by show _ < _; have h1 := HF7.out.first; have h2 : J.first + J.recs.length ≤ 100 + t + 1 := h1.2; omega
          have HUU : Hid (J.used ≤ D7.n / 2 - 1 ∧ 4 ≤ D7.n) := by refine ⟨?_, ?_⟩ <;> (rw [HN7.out.1]; have h1 := HUS.out; omega)
          go_wp2_with fail
          refine (next_j Sx d jx Jx _ (HX8.out.new (off_drew w8 m1)).jnl (by rw [HJX.out.2.1, HJX.out.2.2.1]; exact HFI.out)).mono ?_
          rintro e wz ⟨he, m2, rfl⟩
          rw [HJX.out.2.1, HJX.out.2.2.1] at he
          subst he
          go_wp2_with fail
          refine (next_j S d jb J _ (HJ8.out.new (off_drew w8 (m1 + m2))).jnl HFI.out).mono ?_
          rintro e wz ⟨rfl, m3, rfl⟩
          go_wp2_with fail
          refine (free_at Sd7 Sx d jx D7 Jx _ (HX8.out.new (off_drew w8 (m1 + m2 + m3))).disk (HX8.out.new (off_drew w8 (m1 + m2 + m3))).jnl (by rw [HJX.out.2.2.2]; exact HUU.out.1) HUU.out.2).mono ?_
          rintro e wz ⟨he, m4, rfl⟩
          rw [HJX.out.2.2.2] at he
          subst he
          go_wp2_with fail
          refine (free_at Sd7 S d jb D7 J _ (HJ8.out.new (off_drew w8 (m1 + m2 + m3 + m4))).disk (HJ8.out.new (off_drew w8 (m1 + m2 + m3 + m4))).jnl HUU.out.1 HUU.out.2).mono ?_
          rintro e wz ⟨rfl, m5, rfl⟩
          have HI9 : Hid (AgInv2 wq B4 E5 vw S d jb J (t + 1) Sd7 D7 (p + 1) (w8.drewN (m1 + m2 + m3 + m4 + m5))) := ⟨HJ8.out.new (off_drew w8 _), HF7.out, HN7.out.1, by rw [HN7.out.2]; decide, HR8.out.off (off_drew w8 _) (fun _ h => h.elim), HS7.out.2, HS8.out⟩
          go_wp2_with fail
          go_roundw
          case rel => exact ⟨t + 1, Sd7, D7, p + 1, hlt, by go_num, HI9.out⟩
          case measure => simp [intOf]; omega
        · have hkd : decide (t < m) = false := by simp; omega
          have ht20 : t < 20 := by omega
          clear hlt ht
          go_wp2_with fail
          refine (open_both HI.out.1.disk HI.out.1.slt HI.out.1.dnew HI.out.1.off HI.out.2.1 (by omega) (by have := HI.out.2.2.2.1; omega)).mono ?_
          rintro e w10 ⟨jx, Sx, Sd10, rfl, hx, hx1, hx2, ho10⟩
          have hfx : Fit (D.push (J.area * (D.n / 2)) (headB J.gen (p + 1) J.first J.size)) { J with op := p + 1 } 0 (100 + t + 1) := HI.out.2.1.reopen
          have hx : Both wq w10 Sx Sd10 d jx (D.push (J.area * (D.n / 2)) (headB J.gen (p + 1) J.first J.size)) { J with op := p + 1 } := hx
          have hr10 := HI.out.2.2.2.2.1.off ho10 HI.out.2.2.2.2.2.1
          have hs10 : E5 ≤ w10.heap.size := Nat.le_trans HI.out.2.2.2.2.2.2 ho10.size
          have ha10 : ∀ b, Sx b ∨ Sd10 b → b < B4 ∨ E5 ≤ b := fun b hb => by
            rcases hb with hb | hb
            · exact .inr (Nat.le_trans HI.out.2.2.2.2.2.2 (hx1 b hb))
            · rcases hx2 b hb with h | h
              · exact HI.out.2.2.2.2.2.1 b h
              · exact .inr (Nat.le_trans HI.out.2.2.2.2.2.2 h)
          obtain ⟨D10, hD10⟩ : ∃ D10, D10 = D.push (J.area * (D.n / 2)) (headB J.gen (p + 1) J.first J.size) := ⟨_, rfl⟩
          obtain ⟨Jx, hJx⟩ : ∃ Jx : Jn, Jx = { J with op := p + 1 } := ⟨_, rfl⟩
          have hn10 : D10.n = 16384 ∧ D10.wr.length ≤ 40001 := by rw [hD10]; exact ⟨HI.out.2.2.1, by show (D.wr ++ [_]).length ≤ _; rw [List.length_append]; have := HI.out.2.2.2.1; show D.wr.length + 1 ≤ _; omega⟩
          have hjx : hasL Jx = hasL J ∧ Jx.used = J.used := by rw [hJx]; exact ⟨rfl, rfl⟩
          rw [← hD10, ← hJx] at hx hfx
          have HX := Lib.hid hx
          have HFX := Lib.hid hfx
          have HR10 := Lib.hid hr10
          have HS10 := Lib.hid (And.intro hs10 ha10)
          have HN10 := Lib.hid hn10
          have HJX := Lib.hid hjx
          clear hx hx1 hx2 ho10 hfx hr10 hs10 ha10 hD10 hJx hn10 hjx HI
          go_wp2_with fail
          have hro : ¬ (D10.n / 2 - 1 - Jx.used < parts mo.length) := by
            rw [HN10.out.1, HJX.out.2]
            have h1 := HUS.out
            have h2 := parts_102 mo.length
            have h3 := HMO.out
            omega
          have hp11 : putR D10 Jx false mo = (appD D10 Jx mo, Jx.app mo) := by
            unfold putR
            rw [if_neg Bool.false_ne_true, if_neg hro]
          have harg := (HB0.out.off HX.out.off).arg HX.out.dnew
          have hc11 := append_any Sd10 Sx d jx D10 Jx _ mo B cm w10 HX.out.disk HX.out.slt HX.out.jnl HX.out.apart HFX.out (by omega) (by have := HN10.out.2; omega) (by have := HMO.out; omega) HCB.out.1 HCB.out.2 harg
          rw [if_neg hro, hp11, ← HLM.out] at hc11
          have hf11 := HFX.out.app (l := mo) (by omega) (by have := HMO.out; omega) (by omega)
          have HC11 := Lib.hid hc11
          have HF11 := Lib.hid hf11
          clear hro hp11 harg hc11 hf11
          refine HC11.out.mono ?_
          rintro e w11 ⟨rfl, hp⟩
          obtain ⟨S11, Sd11, hb11, -, hsd11, ho11⟩ := HX.out.put hp
          have hr11 := HR10.out.off ho11 HS10.out.2
          have hs11 : E5 ≤ w11.heap.size := Nat.le_trans HS10.out.1 ho11.size
          have ha11 : ∀ b, Sd11 b → b < B4 ∨ E5 ≤ b := fun b hb => (hsd11 b hb).elim (fun h => HS10.out.2 b (.inr h)) (fun h => .inr (Nat.le_trans HS10.out.1 h))
          obtain ⟨D11, hD11⟩ : ∃ D11, D11 = appD D10 Jx mo := ⟨_, rfl⟩
          obtain ⟨J11, hJ11⟩ : ∃ J11, J11 = Jx.app mo := ⟨_, rfl⟩
          have hw11 : D11.wr.length ≤ 41000 := by rw [hD11, app_wr]; have h1 := HN10.out.2; have h2 := parts_102 mo.length; have h3 := HMO.out; omega
          have hh11 : hasL J11 = hasL J ++ [mo] := by rw [hJ11, ← HJX.out.1]; rfl
          have hb11 : Both wq w11 S11 Sd11 d jx (appD D10 Jx mo) (Jx.app mo) := hb11
          rw [← hD11, ← hJ11] at HF11 hb11
          have HB11 := Lib.hid hb11
          have HR11 := Lib.hid hr11
          have HS11 := Lib.hid (And.intro hs11 ha11)
          have HW11 := Lib.hid (And.intro hw11 hh11)
          clear hp hb11 hsd11 ho11 hr11 hs11 ha11 hD11 hJ11 hw11 hh11 HC11 HX HFX HR10 HS10 HN10 HJX
          go_wp2_with fail
          refine (open_both HB11.out.disk HB11.out.slt HB11.out.dnew HB11.out.off HF11.out (by omega) (by have := HW11.out.1; omega)).mono ?_
          rintro e w12 ⟨jy, Sy, Sd12, rfl, hy, hy1, hy2, ho12⟩
          have hfy := HF11.out.reopen
          have hr12 := HR11.out.off ho12 HS11.out.2
          have hs12 : E5 ≤ w12.heap.size := Nat.le_trans HS11.out.1 ho12.size
          obtain ⟨Jy, hJy⟩ : ∃ Jy : Jn, Jy = { J11 with op := J11.op + 1 } := ⟨_, rfl⟩
          have hhy : hasL Jy = hasL J ++ [mo] := by rw [hJy, ← HW11.out.2]; rfl
          rw [← hJy] at hy hfy
          have HY := Lib.hid hy
          have HFY := Lib.hid hfy
          have HR12 := Lib.hid hr12
          have HS12 := Lib.hid hs12
          have HHY := Lib.hid hhy
          have HLY : Hid ((hasL Jy).length < 100000) := by show Jy.recs.length + 1 < _; have := hfy.first; omega
          have HCV : Hid (∀ x, Off (fun b => wq.heap.size ≤ b) wq x → (convert 23 9 (.slice B lm cm)).run Try.prog x = .ok (strV mo) x) := fun x ho => by rw [HLM.out]; exact (HB0.out.off ho).str
          clear hy hy1 hy2 ho12 hfy hr12 hs12 hJy hhy HB11 HF11 HR11 HS11 HW11
          go_upto_region 23 with fail
          refine wp_region_noPanic ?_
          refine wp_region_held_drew (S := fun w' => (convert 23 9 (.slice B lm cm)).run Try.prog w' = .ok (strV mo) w') (by kernel_rfl) ?hSz (fun hHeld => ?_)
          case hSz => exact HCV.out _ ⟨HY.out.off.os, HY.out.off.tape, HY.out.off.output, HY.out.off.size, HY.out.off.block⟩
          refine wpAnyH_take (i := 0) (oi := ⟨_, _, _, _, _, _⟩) (v := ?vz0) rfl (by kernel_rfl) (by kernel_rfl) (by kernel_rfl) (fun _ _ _ h => h) (Or.inl ⟨by rfl, ?hyz0⟩) hHeld ?_
          case hyz0 => (intro wS hSw; (try dsimp only at hSw); go_simp; (first | done | with_reducible rfl))
          try simp only [Act.put, List.setIfInBounds_toArray, List.set_cons_zero, List.set_cons_succ]
          refine wpAnyH_take (i := 1) (oi := ⟨_, _, _, _, _, _⟩) (v := ?vz1) rfl (by kernel_rfl) (by kernel_rfl) (by kernel_rfl) (fun _ _ _ h => h) (Or.inl ⟨by rfl, ?hyz1⟩) hHeld ?_
          case hyz1 => (intro wS hSw; (try dsimp only at hSw); go_simp; (first | done | with_reducible rfl))
          try simp only [Act.put, List.setIfInBounds_toArray, List.set_cons_zero, List.set_cons_succ]
          refine wpAnyH_take (i := 2) (oi := ⟨_, _, _, _, _, _⟩) (v := ?vz2) rfl (by kernel_rfl) (by kernel_rfl) (by kernel_rfl) (fun _ _ _ h => h) (Or.inl ⟨by rfl, ?hyz2⟩) hHeld ?_
          case hyz2 => (intro wS hSw; (try dsimp only at hSw); go_simp; (first | done | with_reducible rfl))
          try simp only [Act.put, List.setIfInBounds_toArray, List.set_cons_zero, List.set_cons_succ]
          refine wpAnyH_take (i := 3) (oi := ⟨_, _, _, _, _, _⟩) (v := ?vz3) rfl (by kernel_rfl) (by kernel_rfl) (by kernel_rfl) (fun _ _ _ h => h) (Or.inl ⟨by rfl, ?hyz3⟩) hHeld ?_
          case hyz3 => (intro wS hSw; (try dsimp only at hSw); go_simp; (first | done | with_reducible rfl))
          try simp only [Act.put, List.setIfInBounds_toArray, List.set_cons_zero, List.set_cons_succ]
          refine wpAnyH_take (i := 5) (oi := ⟨_, _, _, _, _, _⟩) (v := ?vz5) rfl (by kernel_rfl) (by kernel_rfl) (by kernel_rfl) (fun _ _ _ h => h) (Or.inl ⟨by rfl, ?hyz5⟩) hHeld ?_
          case hyz5 => (intro wS hSw; (try dsimp only at hSw); go_simp; (first | done | with_reducible rfl))
          try simp only [Act.put, List.setIfInBounds_toArray, List.set_cons_zero, List.set_cons_succ]
          refine wpAnyH_take (i := 6) (oi := ⟨_, _, _, _, _, _⟩) (v := ?vz6) rfl (by kernel_rfl) (by kernel_rfl) (by kernel_rfl) (fun _ _ _ h => h) (Or.inl ⟨by rfl, ?hyz6⟩) hHeld ?_
          case hyz6 => (intro wS hSw; (try dsimp only at hSw); go_simp; (first | done | with_reducible rfl))
          try simp only [Act.put, List.setIfInBounds_toArray, List.set_cons_zero, List.set_cons_succ]
          refine wpAnyH_take (i := 7) (oi := ⟨_, _, _, _, _, _⟩) (v := ?vz7) rfl (by kernel_rfl) (by kernel_rfl) (by kernel_rfl) (fun _ _ _ h => h) (Or.inl ⟨by rfl, ?hyz7⟩) hHeld ?_
          case hyz7 => (intro wS hSw; (try dsimp only at hSw); go_simp; (first | done | with_reducible rfl))
          try simp only [Act.put, List.setIfInBounds_toArray, List.set_cons_zero, List.set_cons_succ]
          refine wpAnyH_ready (rs := [4, 8]) (by kernel_rfl) (by simp) ?_
          refine AllReadyH.cons (o := ⟨_, _, _, _, _, _⟩) rfl (fun K hK => ?_) (AllReadyH.cons (o := ⟨_, _, _, _, _, _⟩) rfl (fun K hK => ?_) AllReadyH.nil)
          · go_simp
            refine (has_fit (w := w12.drew) (HY.out.new ⟨rfl, rfl, rfl, Nat.le_refl _, fun _ _ _ => rfl⟩) HFY.out (by omega)).mono ?_
            rintro e w13 ⟨vy, rfl, hry, ho13⟩
            have HRY := Lib.hid hry
            have HO13 : Hid (Off (fun _ => False) w12 w13) := Off.trans (b := w12.drew) ⟨rfl, rfl, rfl, Nat.le_refl _, fun _ _ _ => rfl⟩ ho13
            go_wp2_with fail
            refine hK.out _ _ ?kza4 (fun hNew => ?_)
            case kza4 => (try dsimp only); exact HCV.out _ (HY.out.off.trans (HO13.out.mono (fun _ _ h => h.elim)))
            clear hK K hHeld
            have hHeld := hNew
            clear hNew
            try simp only [Act.put, List.setIfInBounds_toArray, List.set_cons_zero, List.set_cons_succ]
            refine wpAnyH_ready (rs := [8]) (by kernel_rfl) (by simp) ?_
            refine AllReadyH.cons (o := ⟨_, _, _, _, _, _⟩) rfl (fun K hK => ?_) AllReadyH.nil
            go_simp
            have HRYb := Lib.hid (str_off HRY.out (off_grown (World.grownBy_alloc w13 (.cells #[strV mo] 9) none)) (fun _ _ _ h => h))
            have HRb := Lib.hid ((HR12.out.off HO13.out (fun _ h => h.elim)).off (off_grown (World.grownBy_alloc w13 (.cells #[strV mo] 9) none)) (fun _ h => h.elim))
            have HCb := Lib.hid (cell_new w13 (strV mo) 9)
            have HEb : Hid (Off (fun b => wq.heap.size ≤ b) wq (w13.alloc (.cells #[strV mo] 9))) := (HY.out.off.trans (HO13.out.mono (fun _ _ h => h.elim))).trans ((off_grown (World.grownBy_alloc w13 (.cells #[strV mo] 9) none)).mono (fun _ _ h => h.elim))
            have HBb : Hid (B4 ≤ (w13.alloc (.cells #[strV mo] 9)).heap.size) := by show _ ≤ _; rw [World.size_alloc]; have h1 := HBE.out; have h2 := HS12.out; have h3 := HO13.out.size; omega
            refine hK.out _ _ ?kza8 (fun hNew => ?_)
            case kza8 => (try dsimp only); exact HCV.out _ HEb.out
            clear hK K hHeld
            have hHeld := hNew
            clear hNew
            try simp only [Act.put, List.setIfInBounds_toArray, List.set_cons_zero, List.set_cons_succ]
            refine wpAnyH_ready (rs := [9]) (by kernel_rfl) (by simp) ?_
            refine AllReadyH.cons (o := ⟨_, _, _, _, _, _⟩) rfl (fun K hK => ?_) AllReadyH.nil
            have hlen : (hasV (hasL J)).length < 100000 := by rw [hasV_length]; exact HLJ.out
            refine step_append_strw (by rfl) (.tmp 126) (.tmp 129) rfl B4 vw (hasV (hasL J)) (strV mo) rfl HRb.out.1 rfl w13.heap.size rfl HCb.out hlen HBb.out ?_
            intro v2 w14 h14 hg14
            have HR14 : Hid (StrRow w14 B4 v2 (hasV (hasL J ++ [mo]))) := by show StrRow _ _ _ _; rw [show hasV (hasL J ++ [mo]) = hasV (hasL J) ++ [strV mo] by simp [hasV]]; exact h14
            have HRY14 := Lib.hid (str_off HRYb.out (Off.of_grown hg14 (fun k e => e)) (fun b h1 _ e => by have h2 := HRb.out.2 b e; have h3 := HS12.out; have h4 : w12.heap.size ≤ b := (by first | exact h1 | (rw [World.size_alloc] at h1; exact Nat.le_trans (Nat.le_succ _) h1)); omega))
            have HE14 : Hid (Off (fun b => wq.heap.size ≤ b) wq w14) := HEb.out.trans (Off.of_grown hg14 (fun k e => by have h2 := (World.ownsRow.lt HRb.out.1 k e).1; have h3 := HBQ.out; omega))
            clear h14 hg14 hlen
            refine hK.out _ _ ?kza9 (fun hNew => ?_)
            case kza9 => (try dsimp only); exact HCV.out _ HE14.out
            clear hK K hHeld
            have hHeld := hNew
            clear hNew
            try simp only [Act.put, List.setIfInBounds_toArray, List.set_cons_zero, List.set_cons_succ]
            refine wpAnyH_ready (rs := [10]) (by kernel_rfl) (by simp) ?_
            refine AllReadyH.cons (o := ⟨_, _, _, _, _, _⟩) rfl (fun K hK => ?_) AllReadyH.nil
            go_simp
            refine (same_at _ _ vy v2 (hasL Jy) (hasL J ++ [mo]) _ (by exact HRY14.out) (by exact HR14.out) HLY.out (by rw [← HHY.out]; exact HLY.out) true (decide_eq_true ⟨HHY.out, by simp [hasL]⟩).symm).mono ?_
            rintro e wz ⟨rfl, m6, rfl⟩
            go_wp2_with fail
            refine hK.out _ _ ?kza10 (fun hNew => ?_)
            case kza10 => (try dsimp only); exact HCV.out _ (HE14.out.trans ((off_drew w14 m6).mono (fun _ _ h => h.elim)))
            clear hK K hHeld
            have hHeld := hNew
            clear hNew
            try simp only [Act.put, List.setIfInBounds_toArray, List.set_cons_zero, List.set_cons_succ]
            refine wpAnyH_take (i := 11) (oi := ⟨_, _, _, _, _, _⟩) (v := ?vza11) rfl (by kernel_rfl) (by kernel_rfl) (by kernel_rfl) (fun _ _ _ h => h) (Or.inl ⟨by rfl, ?hyza11⟩) hHeld ?_
            case hyza11 => (intro wS hSw; (try dsimp only at hSw); go_simp; (first | done | with_reducible rfl))
            try simp only [Act.put, List.setIfInBounds_toArray, List.set_cons_zero, List.set_cons_succ]
            refine wpAnyH_take (i := 12) (oi := ⟨_, _, _, _, _, _⟩) (v := ?vza12) rfl (by kernel_rfl) (by kernel_rfl) (by kernel_rfl) (fun _ _ _ h => h) (Or.inl ⟨by rfl, ?hyza12⟩) hHeld ?_
            case hyza12 => (intro wS hSw; (try dsimp only at hSw); go_simp; (first | done | with_reducible rfl))
            try simp only [Act.put, List.setIfInBounds_toArray, List.set_cons_zero, List.set_cons_succ]
            refine wpAnyH_ready (rs := [13]) (by kernel_rfl) (by simp) ?_
            refine AllReadyH.cons (o := ⟨_, _, _, _, _, _⟩) rfl (fun K hK => ?_) AllReadyH.nil
            go_simp
            refine (works_at _).mono ?_
            rintro e w15 ⟨rfl, hwz⟩
            have HE15 : Hid (Off (fun b => wq.heap.size ≤ b) wq w15) := HE14.out.trans (((off_drew w14 m6).mono (fun _ _ h => h.elim)).trans (hwz.mono (fun _ _ h => h.elim)))
            clear hwz
            go_wp2_with fail
            refine hK.out _ _ ?kza13 (fun hNew => ?_)
            case kza13 => (try dsimp only); exact HCV.out _ HE15.out
            clear hK K hHeld
            have hHeld := hNew
            clear hNew
            try simp only [Act.put, List.setIfInBounds_toArray, List.set_cons_zero, List.set_cons_succ]
            refine wpAnyH_take (i := 14) (oi := ⟨_, _, _, _, _, _⟩) (v := ?vza14) rfl (by kernel_rfl) (by kernel_rfl) (by kernel_rfl) (fun _ _ _ h => h) (Or.inl ⟨by rfl, ?hyza14⟩) hHeld ?_
            case hyza14 => (intro wS hSw; (try dsimp only at hSw); go_simp; (first | done | with_reducible rfl))
            try simp only [Act.put, List.setIfInBounds_toArray, List.set_cons_zero, List.set_cons_succ]
            refine wpAnyH_take (i := 15) (oi := ⟨_, _, _, _, _, _⟩) (v := ?vza15) rfl (by kernel_rfl) (by kernel_rfl) (by kernel_rfl) (fun _ _ _ h => h) (Or.inl ⟨by rfl, ?hyza15⟩) hHeld ?_
            case hyza15 => (intro wS hSw; (try dsimp only at hSw); go_simp; (first | done | with_reducible rfl))
            try simp only [Act.put, List.setIfInBounds_toArray, List.set_cons_zero, List.set_cons_succ]
            refine wpAnyH_done (by kernel_rfl) ?_ _
            refine NoPanic.normal ?_
            clear hHeld
            go_wp2_with fail
            go_ret
            exact ⟨rfl, off_to_below (Off.zero HE15.out)⟩
          · go_simp
            refine hK.out _ _ ?kzb8 (fun hNew => ?_)
            case kzb8 => (try dsimp only); exact HCV.out _ (HY.out.off.trans (Off.mono (Off.trans (b := w12.drew) ⟨rfl, rfl, rfl, Nat.le_refl _, fun _ _ _ => rfl⟩ (off_grown (World.grownBy_alloc w12.drew (.cells #[strV mo] 9) none))) (fun _ _ h => h.elim)))
            clear hK K hHeld
            have hHeld := hNew
            clear hNew
            try simp only [Act.put, List.setIfInBounds_toArray, List.set_cons_zero, List.set_cons_succ]
            refine wpAnyH_ready (rs := [4]) (by kernel_rfl) (by simp) ?_
            refine AllReadyH.cons (o := ⟨_, _, _, _, _, _⟩) rfl (fun K hK => ?_) AllReadyH.nil
            go_simp
            refine (has_fit (w := (w12.drew.alloc (.cells #[strV mo] 9))) (HY.out.new (Off.trans (b := w12.drew) ⟨rfl, rfl, rfl, Nat.le_refl _, fun _ _ _ => rfl⟩ (off_grown (World.grownBy_alloc w12.drew (.cells #[strV mo] 9) none)))) HFY.out (by omega)).mono ?_
            rintro e w13 ⟨vy, rfl, hry, ho13⟩
            have HRY := Lib.hid hry
            have HO13 : Hid (Off (fun _ => False) w12 w13) := Off.trans (b := (w12.drew.alloc (.cells #[strV mo] 9))) (Off.trans (b := w12.drew) ⟨rfl, rfl, rfl, Nat.le_refl _, fun _ _ _ => rfl⟩ (off_grown (World.grownBy_alloc w12.drew (.cells #[strV mo] 9) none))) ho13
            have HRYb := HRY
            have HRb := Lib.hid (HR12.out.off HO13.out (fun _ h => h.elim))
            have HCb : Hid (w13.cell? ⟨w12.heap.size, 0, none⟩ = some (strV mo)) := cell_blk ((ho13.block w12.heap.size (by rw [World.size_alloc]; exact Nat.lt_succ_self _) (fun h => h)).trans (MapKept.heap_alloc w12.drew (.cells #[strV mo] 9)).1) 0
            have HEb : Hid (Off (fun b => wq.heap.size ≤ b) wq w13) := HY.out.off.trans (HO13.out.mono (fun _ _ h => h.elim))
            have HBb : Hid (B4 ≤ w13.heap.size) := by show _ ≤ _; have h1 := HBE.out; have h2 := HS12.out; have h3 := HO13.out.size; omega
            clear ho13
            go_wp2_with fail
            refine hK.out _ _ ?kzb4 (fun hNew => ?_)
            case kzb4 => (try dsimp only); exact HCV.out _ HEb.out
            clear hK K hHeld
            have hHeld := hNew
            clear hNew
            try simp only [Act.put, List.setIfInBounds_toArray, List.set_cons_zero, List.set_cons_succ]
            refine wpAnyH_ready (rs := [9]) (by kernel_rfl) (by simp) ?_
            refine AllReadyH.cons (o := ⟨_, _, _, _, _, _⟩) rfl (fun K hK => ?_) AllReadyH.nil
            have hlen : (hasV (hasL J)).length < 100000 := by rw [hasV_length]; exact HLJ.out
            refine step_append_strw (by rfl) (.tmp 126) (.tmp 129) rfl B4 vw (hasV (hasL J)) (strV mo) rfl HRb.out.1 rfl w12.heap.size rfl HCb.out hlen HBb.out ?_
            intro v2 w14 h14 hg14
            have HR14 : Hid (StrRow w14 B4 v2 (hasV (hasL J ++ [mo]))) := by show StrRow _ _ _ _; rw [show hasV (hasL J ++ [mo]) = hasV (hasL J) ++ [strV mo] by simp [hasV]]; exact h14
            have HRY14 := Lib.hid (str_off HRYb.out (Off.of_grown hg14 (fun k e => e)) (fun b h1 _ e => by have h2 := HRb.out.2 b e; have h3 := HS12.out; have h4 : w12.heap.size ≤ b := (by first | exact h1 | (rw [World.size_alloc] at h1; exact Nat.le_trans (Nat.le_succ _) h1)); omega))
            have HE14 : Hid (Off (fun b => wq.heap.size ≤ b) wq w14) := HEb.out.trans (Off.of_grown hg14 (fun k e => by have h2 := (World.ownsRow.lt HRb.out.1 k e).1; have h3 := HBQ.out; omega))
            clear h14 hg14 hlen
            refine hK.out _ _ ?kzb9 (fun hNew => ?_)
            case kzb9 => (try dsimp only); exact HCV.out _ HE14.out
            clear hK K hHeld
            have hHeld := hNew
            clear hNew
            try simp only [Act.put, List.setIfInBounds_toArray, List.set_cons_zero, List.set_cons_succ]
            refine wpAnyH_ready (rs := [10]) (by kernel_rfl) (by simp) ?_
            refine AllReadyH.cons (o := ⟨_, _, _, _, _, _⟩) rfl (fun K hK => ?_) AllReadyH.nil
            go_simp
            refine (same_at _ _ vy v2 (hasL Jy) (hasL J ++ [mo]) _ (by exact HRY14.out) (by exact HR14.out) HLY.out (by rw [← HHY.out]; exact HLY.out) true (decide_eq_true ⟨HHY.out, by simp [hasL]⟩).symm).mono ?_
            rintro e wz ⟨rfl, m6, rfl⟩
            go_wp2_with fail
            refine hK.out _ _ ?kzb10 (fun hNew => ?_)
            case kzb10 => (try dsimp only); exact HCV.out _ (HE14.out.trans ((off_drew w14 m6).mono (fun _ _ h => h.elim)))
            clear hK K hHeld
            have hHeld := hNew
            clear hNew
            try simp only [Act.put, List.setIfInBounds_toArray, List.set_cons_zero, List.set_cons_succ]
            refine wpAnyH_take (i := 11) (oi := ⟨_, _, _, _, _, _⟩) (v := ?vzb11) rfl (by kernel_rfl) (by kernel_rfl) (by kernel_rfl) (fun _ _ _ h => h) (Or.inl ⟨by rfl, ?hyzb11⟩) hHeld ?_
            case hyzb11 => (intro wS hSw; (try dsimp only at hSw); go_simp; (first | done | with_reducible rfl))
            try simp only [Act.put, List.setIfInBounds_toArray, List.set_cons_zero, List.set_cons_succ]
            refine wpAnyH_take (i := 12) (oi := ⟨_, _, _, _, _, _⟩) (v := ?vzb12) rfl (by kernel_rfl) (by kernel_rfl) (by kernel_rfl) (fun _ _ _ h => h) (Or.inl ⟨by rfl, ?hyzb12⟩) hHeld ?_
            case hyzb12 => (intro wS hSw; (try dsimp only at hSw); go_simp; (first | done | with_reducible rfl))
            try simp only [Act.put, List.setIfInBounds_toArray, List.set_cons_zero, List.set_cons_succ]
            refine wpAnyH_ready (rs := [13]) (by kernel_rfl) (by simp) ?_
            refine AllReadyH.cons (o := ⟨_, _, _, _, _, _⟩) rfl (fun K hK => ?_) AllReadyH.nil
            go_simp
            refine (works_at _).mono ?_
            rintro e w15 ⟨rfl, hwz⟩
            have HE15 : Hid (Off (fun b => wq.heap.size ≤ b) wq w15) := HE14.out.trans (((off_drew w14 m6).mono (fun _ _ h => h.elim)).trans (hwz.mono (fun _ _ h => h.elim)))
            clear hwz
            go_wp2_with fail
            refine hK.out _ _ ?kzb13 (fun hNew => ?_)
            case kzb13 => (try dsimp only); exact HCV.out _ HE15.out
            clear hK K hHeld
            have hHeld := hNew
            clear hNew
            try simp only [Act.put, List.setIfInBounds_toArray, List.set_cons_zero, List.set_cons_succ]
            refine wpAnyH_take (i := 14) (oi := ⟨_, _, _, _, _, _⟩) (v := ?vzb14) rfl (by kernel_rfl) (by kernel_rfl) (by kernel_rfl) (fun _ _ _ h => h) (Or.inl ⟨by rfl, ?hyzb14⟩) hHeld ?_
            case hyzb14 => (intro wS hSw; (try dsimp only at hSw); go_simp; (first | done | with_reducible rfl))
            try simp only [Act.put, List.setIfInBounds_toArray, List.set_cons_zero, List.set_cons_succ]
            refine wpAnyH_take (i := 15) (oi := ⟨_, _, _, _, _, _⟩) (v := ?vzb15) rfl (by kernel_rfl) (by kernel_rfl) (by kernel_rfl) (fun _ _ _ h => h) (Or.inl ⟨by rfl, ?hyzb15⟩) hHeld ?_
            case hyzb15 => (intro wS hSw; (try dsimp only at hSw); go_simp; (first | done | with_reducible rfl))
            try simp only [Act.put, List.setIfInBounds_toArray, List.set_cons_zero, List.set_cons_succ]
            refine wpAnyH_done (by kernel_rfl) ?_ _
            refine NoPanic.normal ?_
            clear hHeld
            go_wp2_with fail
            go_ret
            exact ⟨rfl, off_to_below (Off.zero HE15.out)⟩

end Go.Proofs.Ytgdedgfohjplmaa.Jnl
