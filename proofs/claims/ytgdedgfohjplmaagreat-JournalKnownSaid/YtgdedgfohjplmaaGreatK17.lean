/- A part of the proof of JournalKnown: KPlaysW KnowD KnowE KnowF KnowW. -/
import Derived.Test.YtgdedgfohjplmaaGreatK16
import Derived.Test.YtgdedgfohjplmaaGreatK11
import Derived.Test.YtgdedgfohjplmaaGreatK15
import Derived.Test.YtgdedgfohjplmaaGreatK10
import Derived.Test.YtgdedgfohjplmaaGreatK07
import Derived.Test.YtgdedgfohjplmaaGreatK13
import Derived.ArgAppend
import Derived.Test.YtgdedgfohjplmaaGreatK08
set_option maxRecDepth 100000
set_option maxHeartbeats 40000000
namespace Go.Proofs.YtgdedgfohjplmaaGreat.Jnl
open Go.RowKit Go.Maps Sec
def FineW (n : Nat) (c : CallJ) : Prop := c.b.length ≤ 128 ∧ ∀ (K : Nat) (D : Dsk), 9 ≤ K → PlayD n K false D → PlayD n K false (wrote D c.z c.b).2
def Sc (n : Nat) : Bool → List CallJ → Prop
 | _, [] => True
 | arm, c :: r => (0 ≤ c.z ∧ c.z ≤ 100) ∧ (if c.k.toNat % 9 = 5 then Sc n true r else if c.k.toNat % 9 = 6 then Sc n false r else if c.k.toNat % 9 = 7 then arm = false ∧ Sc n false r else if c.k.toNat % 9 = 8 then arm = false ∧ FineW n c ∧ Sc n false r else Sc n arm r)
theorem drop_at {α : Type} {l : List α} {i : Nat} {c : α} (h : l[i]? = some c) : l.drop i = c :: l.drop (i + 1) := by
 obtain ⟨hi, rfl⟩ := List.getElem?_eq_some_iff.1 h
 exact List.drop_eq_getElem_cons hi
theorem DoTo.wr {ck : Bool} {D D' : Dsk} {J J' : Jn} {br e br' n : Nat} {l : List UInt8} (h : DoTo ck D J br l e D' J' br') (hn : D.n = n) (h80 : n ≤ 80) : D'.wr.length ≤ D.wr.length + 50 := by
 have key : ∀ {x : Int} {E : Dsk} {base : Nat} {f : Nat → List UInt8} {M : Nat}, putsE D base f (upto M) = (x, E) → M ≤ 40 → E.wr.length ≤ D.wr.length + 40 := fun {x E base f M} e hM => by
  have h1 := (putsE_size D base f (upto M)).2
  rw [e, upto_length] at h1
  have h2 : E.wr.length ≤ D.wr.length + M := h1
  omega
 cases ck with
 | true =>
  have h2 : CkTo D J br l e D' J' br' := h
  clear h
  cases h2 with
  | broken h => omega
  | full h0 h => omega
  | brk1 x hx D1 h0 h hput => have := key hput (by omega); omega
  | brk2 x hx D1 D2 h0 h hput hseal =>
   have h1 := key hput (by omega)
   have h2 := (wrote_size D1 (((1 - J.area) * (D1.n / 2) : Nat) : Int) (headB (J.gen + 1) J.op (J.first + J.recs.length) l.length)).2
   rw [hseal] at h2
   have h3 : D'.wr.length ≤ D1.wr.length + 1 := h2
   omega
  | yes D1 D2 h0 h hput hseal =>
   have h1 := key hput (by omega)
   have h2 := (wrote_size D1 (((1 - J.area) * (D1.n / 2) : Nat) : Int) (headB (J.gen + 1) J.op (J.first + J.recs.length) l.length)).2
   rw [hseal] at h2
   have h3 : D'.wr.length ≤ D1.wr.length + 1 := h2
   omega
 | false =>
  have h2 : AppTo D J br l e D' J' br' := h
  clear h
  cases h2 with
  | broken h => omega
  | full h0 h => omega
  | brk x hx D1 h0 h hput => have := key hput (by omega); omega
  | yes D1 h0 h hput => have := key hput (by omega); omega
theorem OpenTo.wr {D D' : Dsk} {R R' : Option Jn} {e : Nat} (h : OpenTo D R e D' R') : D'.wr.length ≤ D.wr.length + 2 := by
 cases h with
 | found J => show (D.wr ++ [_]).length ≤ _; rw [List.length_append]; simp
 | fresh h => show ((D.wr ++ [_]) ++ [_]).length ≤ _; rw [List.length_append, List.length_append]; simp
 | spoilt h => omega
theorem OpenTo.code {D D' : Dsk} {R R' : Option Jn} {e : Nat} (h : OpenTo D R e D' R') : (∀ J, R' = some J → e = 0) ∧ (R' = none → e = 30) := by
 cases h with
 | found J => exact ⟨fun _ _ => rfl, fun q => (by cases q)⟩
 | fresh h => exact ⟨fun _ _ => rfl, fun q => (by cases q)⟩
 | spoilt h => exact ⟨fun _ q => (by cases q), fun _ => rfl⟩
section
variable {w0 : World} {d m br : Nat} {D : Dsk} {R : Option Jn} {jv kv : Value}
theorem PSt.turn {w2 : World} (h : PSt w0 w2 d m D R br jv kv) : ∃ Sd Sm, Duo w0 w2 Sd Sm d m D D ∧ ∀ y v1 v2 D', Off (fun _ => False) w2 y → DiskAt v1 (fun b => Sd b ∨ y.heap.size ≤ b) d D' → Off (fun b => Sd b ∨ y.heap.size ≤ b) y v1 → RefAt v2 (fun b => Sm b ∨ v1.heap.size ≤ b) m D' → Off (fun b => Sm b ∨ v1.heap.size ≤ b) v1 v2 → PSt w0 v2 d m D' R br jv kv := by
 cases R with
 | none =>
  obtain ⟨h1, h2, Sd, Sm, hd⟩ := h
  refine ⟨Sd, Sm, hd, fun y v1 v2 D' a0 a1 a2 a3 a4 => ⟨h1, h2, _, _, ((hd.new a0).disk2 a1 a2).ref2 a3 a4⟩⟩
 | some J =>
  obtain ⟨jb, rb, S, Sd, T, Sm, h1, h2, hq0⟩ := h
  refine ⟨Sd, Sm, hq0.duo, fun y v1 v2 D' a0 a1 a2 a3 a4 => ?_⟩
  have hq := hq0.new a0
  obtain ⟨S1, Sd1, hq1, _⟩ := hq.prog (pto_disk hq.jnl (a1.mono (T := fun b => (Sd b ∨ y.heap.size ≤ b) ∧ b < v1.heap.size) (fun _ hk q => ⟨q, hk⟩)) (fun _ q => q) (a2.mono (fun _ hk q => q.elim id (fun q => by omega))) (fun b hb => (hq.sj b hb).2.2.1))
  obtain ⟨T2, Sm2, hq2, _⟩ := hq1.doc (rto_disk hq1.rj (a3.mono (T := fun b => (Sm b ∨ v1.heap.size ≤ b) ∧ b < v2.heap.size) (fun _ hk q => ⟨q, hk⟩)) (fun _ q => q) (a4.mono (fun _ hk q => q.elim id (fun q => by omega))) (fun b hb => (hq1.st b hb).2.2))
  exact ⟨jb, rb, _, _, _, _, h1, h2, hq2⟩
theorem Arg0.next {w0 w w' : World} {U : Nat → Prop} {A : Option Addr} {l : List UInt8} {cap : Nat} (h : Arg0 w0 w A l cap) (ho : Off U w w') (hU : ∀ b, U b → w0.heap.size ≤ b) : Arg0 w0 w' A l cap :=
 h.imp id (fun ⟨g, off, e, h1, h2, h3⟩ => ⟨g, off, e, h1, Nat.lt_of_lt_of_le h2 ho.size, range_keep h3 ho h2 (fun q => by have := hU g q; omega)⟩)
end
section
variable {w0 w w' : World} {Sd Sm : Nat → Prop} {d m : Nat} {D E D' : Dsk}
theorem Duo.diskS (h : Duo w0 w Sd Sm d m D E) (hd : DiskAt w' Sd d D') (ho : Off Sd w w') : Duo w0 w' Sd Sm d m D' E := h.disk' hd (fun b hb => ⟨.inl hb, Nat.lt_of_lt_of_le (h.sd b hb).2.1 ho.size⟩) ho
theorem Duo.refS (h : Duo w0 w Sd Sm d m D E) (hd : RefAt w' Sm m D') (ho : Off Sm w w') : Duo w0 w' Sd Sm d m D D' := h.ref' hd (fun b hb => ⟨.inl hb, Nat.lt_of_lt_of_le (h.sm b hb).2 ho.size⟩) ho
end
def liveD (D : Dsk) : Dsk := { D with armed := none, off := false }
def failD (D : Dsk) (i : Int) : Dsk := { D with armed := if 0 ≤ i then some i.toNat else none }
theorem PlayD.live' {n K : Nat} {arm : Bool} {D : Dsk} (h : PlayD n K arm D) : PlayD n K false (liveD D) := h.same rfl rfl rfl rfl (fun _ => ⟨rfl, rfl⟩)
theorem PlayD.fail' {n K : Nat} {arm : Bool} {D : Dsk} {i : Int} (h : PlayD n K arm D) : PlayD n K true (failD D i) := h.same rfl rfl rfl rfl (fun q => by cases q)
theorem noughts_nohd : NoHd noughts 0 0 0 0 := ⟨rfl, rfl, rfl, rfl, rfl, by decide, by decide, by decide, by decide, fun q => by have := q.1.1; omega⟩
theorem noughts_tame : TameB noughts := .inl ⟨0, 0, 0, 0, 0, ⟨rfl, rfl, ⟨rfl, by decide, by decide⟩, ⟨rfl, by decide, by decide⟩, ⟨rfl, by decide, by decide⟩, ⟨rfl, by decide, by decide⟩⟩, by decide, by decide⟩
theorem PlayD.fresh (n : Nat) : PlayD n 9 false (freshDisk n) := ⟨rfl, rfl, .inr ⟨_, _, _, _, noughts_nohd⟩, .inr ⟨_, _, _, _, noughts_nohd⟩, fun _ _ => noughts_tame, fun _ _ => noughts_tame, fun _ => ⟨rfl, rfl⟩⟩
structure PInv (n : Nat) (l : List CallJ) (w wr : World) (d m i K : Nat) (arm : Bool) (D : Dsk) (R : Option Jn) (br e : Nat) (jv kv : Value) : Prop where
 st : PSt w wr d m D R br jv kv
 play : PlayD n K arm D
 num : ∀ J, R = some J → JK n K J ∧ e = 0
 none : R = none → e = 30
 k : 9 ≤ K ∧ K ≤ 100 + 60 * i
 wr : D.wr.length ≤ 100 + 60 * i
 sc : Sc n arm (l.drop i)
theorem opens_at {n K : Nat} {w0 w1 : World} {Sd Sm : Nat → Prop} {d m : Nat} {D : Dsk} (h4 : 4 ≤ n) (h80 : n ≤ 80) (hK1 : 1 ≤ K) (hK : K ≤ 9000) (hwr : D.wr.length + 70000 < 1000000) (hp : PlayD n K false D) (hd : Duo w0 w1 Sd Sm d m D D) :
  ∃ (e1 : Nat) (D1 : Dsk) (R1 : Option Jn), (PlayD n (K + 51) false D1 ∧ ∀ J, R1 = some J → JK n (K + 51) J) ∧ ((∀ J, R1 = some J → e1 = 0) ∧ (R1 = none → e1 = 30)) ∧ D1.wr.length ≤ D.wr.length + 2 ∧
   Calls Tryz.prog 4 #[.pointer (some ⟨d, 0, none⟩)] w1 fun r v2 => ∃ jv, r = .returned (.tuple #[jv, .int .i64 (e1 : Int)]) ∧
    Calls Tryz.prog 38 #[.pointer (some ⟨m, 0, none⟩)] v2 fun r v3 => ∃ kv, r = .returned (.tuple #[kv, .int .i64 (e1 : Int)]) ∧ PSt w0 v3 d m D1 R1 0 jv kv := by
 obtain ⟨r0, hr0⟩ := hp.says h4 h80 hK (a := 0) (by decide)
 obtain ⟨r1, hr1⟩ := hp.says h4 h80 hK (a := 1) (by decide)
 obtain ⟨e1, D1, R1, hot⟩ := open_to D (choose r0 r1)
 obtain ⟨l1, l2⟩ := hp.live rfl
 refine ⟨e1, D1, R1, hot.play hp h4 hK1 (fun J hJ => let q := choose_num hr0 hr1 J hJ; ⟨q.2.1, q.2.2.1⟩), hot.code, hot.wr, ?_⟩
 refine (popen_at hr0 hr1 hot hd.disk (fun b hb => (hd.sd b hb).2.1) l1 l2 hwr (by rw [hp.len]; exact h4) hK).mono ?_
 rintro r v2 hpo
 have hb2 := hd.popen hpo
 have hsh : ∃ jv, r = .returned (.tuple #[jv, .int .i64 (e1 : Int)]) := by
  cases R1 with
  | none => exact ⟨_, hpo.1⟩
  | some J => obtain ⟨jb, S, Sd', q, _⟩ := hpo; exact ⟨_, q⟩
 obtain ⟨jv, hr⟩ := hsh
 refine ⟨jv, hr, (ropen_to hp hr0 hr1 hot hb2.1 hb2.2 l1 l2 hwr (by rw [hp.len]; exact h4) hK).mono ?_⟩
 rintro r3 v3 hro
 obtain ⟨jv2, kv, q1, q2, hps⟩ := hd.opens hpo hro (fun q => hot.same q)
 rw [hr] at q1
 have e2 : jv = jv2 := by
  injection q1 with q
  injection q with q
  have := congrArg (fun (a : Array Value) => a[0]?) q
  simpa using this
 subst e2
 exact ⟨kv, q2, hps⟩
theorem plays_walk (n : Nat) (h4 : 4 ≤ n) (h80 : n ≤ 80) (w : World) (l : List CallJ) (A : Option Addr) (cap : Nat) (hl : CJs w w A l) (hlc : l.length ≤ cap) (hcap : cap ≤ maxLen) (hbig : bigJ l = false) (hsc : Sc n false l) :
  Calls Tryz.prog 17 #[.int .i64 (n : Int), .slice A l.length cap] w fun e w' => e = .returned (.bool true) ∧ Off (fun _ => False) w w' := by
 have HL := Lib.hid hl
 have HLG := Lib.hid (large_at w A l cap w hl hlc hcap)
 rw [hbig] at HLG
 have hsm : l.length ≤ 60 ∧ totalJ l ≤ 3000 := by
  unfold bigJ at hbig
  have h2 := of_decide_eq_false hbig
  omega
 have HCS : Hid (∀ k, k < l.length → ∃ g off c, A = some ⟨g, off, none⟩ ∧ l[k]? = some c ∧ c.b.length ≤ 3000 ∧ ∀ wr, Off (fun b => w.heap.size ≤ b) w wr → CJAt w wr g (off + k * 3) c) := fun k hk => by
  obtain ⟨g, off, c, h1, h2, h3⟩ := hl.at_ (j := k) hk
  refine ⟨g, off, c, h1, h2, by have := totalJ_one l k c h2; omega, fun wr ho => h3.off ?_ ho⟩
  exact World.block_lt_of_cell? w _ h3.1
 have HSC := Lib.hid hsc
 obtain ⟨len, hlen⟩ : ∃ x, x = l.length := ⟨_, rfl⟩
 rw [← hlen] at HLG hlc HCS ⊢
 have HLEN := Lib.hid hlen
 have hl60 : len ≤ 60 := by omega
 have i1 : (len : Int) ≤ (cap : Int) := by omega
 have d80 : decide ((80 : Int) < (n : Int)) = false := by simp; omega
 have d80b : decide (80 < n) = false := by simp; omega
 have H4 := Lib.hid h4
 have H80 := Lib.hid h80
 clear hl hbig hsm hsc hlen h4 hcap
 go_enter Tryz.func17, Tryz.ntmps17
 go_wp2_with fail
 refine HLG.out.mono ?_
 rintro e wq ⟨rfl, hwq⟩
 subst hwq
 clear HLG
 go_wp2_with fail
 clear d80 d80b
 refine (new_at (n : Int) wq).mono ?_
 rintro e v0 ⟨d, rfl, hd, ho⟩
 rw [show (max 0 (min 16384 (n : Int))).toNat = n by have := H80.out; omega] at hd
 have HD0 := Lib.hid hd
 have HO0 := Lib.hid ho
 clear hd ho
 go_wp2_with fail
 refine (rnew_at (n : Int) v0).mono ?_
 rintro e v1 ⟨m, rfl, hm, ho⟩
 rw [show (max 0 (min 16384 (n : Int))).toNat = n by have := H80.out; omega] at hm
 have hs0 := HO0.out.size
 have hs1 := ho.size
 have HDUO : Hid (Duo wq v1 (fun b => wq.heap.size ≤ b ∧ b < v0.heap.size) (fun b => v0.heap.size ≤ b ∧ b < v1.heap.size) d m (freshDisk n) (freshDisk n)) := ⟨(HD0.out.mono (T := fun b => wq.heap.size ≤ b ∧ b < v0.heap.size) (fun _ hk q => ⟨q, hk⟩)).off ho (fun _ _ _ q => q), hm.mono (T := fun b => v0.heap.size ≤ b ∧ b < v1.heap.size) (fun _ hk q => ⟨q, hk⟩), fun b hb => ⟨hb.1, by omega, fun q => by omega⟩, fun b hb => ⟨by omega, hb.2⟩, (HO0.out.mono (fun _ _ q => q.elim)).trans (ho.mono (fun _ _ q => q.elim))⟩
 have HPD := Lib.hid (PlayD.fresh n)
 clear hm ho hs0 hs1 HD0 HO0
 go_wp2_with fail
 obtain ⟨e1, D1, R1, h1, h2, h3, hop⟩ := opens_at H4.out H80.out (by decide) (by decide) (by show 0 + 70000 < 1000000; decide) HPD.out HDUO.out
 have HPL := Lib.hid h1
 have HOC := Lib.hid h2
 have HOW := Lib.hid h3
 clear h1 h2 h3
 refine hop.mono ?_
 rintro r v2 ⟨jv, rfl, hro⟩
 clear hop
 go_wp2_with fail
 refine hro.mono ?_
 rintro r v3 ⟨kv, rfl, hps⟩
 have HPS := Lib.hid hps
 clear hps hro
 have HINV : Hid (PInv n l wq v3 d m 0 60 false D1 R1 0 e1 jv kv) := ⟨HPS.out, HPL.out.1.mono (by omega), fun J hJ => ⟨(HPL.out.2 J hJ).mono (by omega), HOC.out.1 J hJ⟩, HOC.out.2, ⟨by omega, by omega⟩, by have := HOW.out; show _ ≤ _; have e : (freshDisk n).wr.length = 0 := rfl; omega, HSC.out⟩
 clear HPS HPL HOC HOW HDUO HPD
 go_wp2_with fail
 go_loopw [7, 8, 9, 10, 11] (fun jv ev kv fv iv wr => ∃ (i K : Nat) (arm : Bool) (D : Dsk) (R : Option Jn) (br e : Nat), i ≤ len ∧ iv = .int .i64 (i : Int) ∧ ev = .int .i64 (e : Int) ∧ fv = .int .i64 (e : Int) ∧ PInv n l wq wr d m i K arm D R br e jv kv) (fun _ _ _ _ iv _ => len - (intOf iv).toNat)
 case atStart => exact ⟨0, 60, false, D1, R1, 0, e1, Nat.zero_le _, rfl, rfl, rfl, HINV.out⟩
 case round =>
  clear HINV
  obtain ⟨i, K, arm, D, R, br, e, hi, rfl, rfl, rfl, hinv⟩ := hrel
  have HI := Lib.hid hinv
  have hee : ((e : Int) != (e : Int)) = false := by simp
  have hee2 : ((e : Int) == (e : Int)) = true := by simp
  clear hinv
  by_cases hlt : i < len
  ·have hd : decide (i < len) = true := by simp; omega
   obtain ⟨g, off, c, rfl, hget, hcb, hcj⟩ := HCS.out i hlt
   have HGET := Lib.hid hget
   have HCB := Lib.hid hcb
   have HCJ := Lib.hid hcj
   have HLT := Lib.hid hlt
   have b0 : (0 : Int) ≤ (i : Int) := by omega
   have b1 : (i : Int) < (len : Int) := by omega
   have HZI : Hid (wrap64 ((i : Int) + 1) = ((i + 1 : Nat) : Int)) := by show _ = _; unfold wrap64; omega
   clear hget hcb hcj hlt
   go_wp2_with fail
   obtain ⟨Sdl, Sml, hduo⟩ := HI.out.st.duo
   refine (lies_at Sdl Sml d m D wr hduo.disk hduo.ref HI.out.play.full).mono ?_
   rintro r w1 ⟨rfl, ho1⟩
   have HS1 := Lib.hid (HI.out.st.new ho1)
   clear hduo ho1
   cases R with
   | some J =>
    obtain ⟨hjk, he0⟩ := HI.out.num J rfl
    subst he0
    obtain ⟨jb, rb, S, Sd, T, Sm, hjv, hkv, hq⟩ := HS1.out
    subst hjv hkv
    have HQ1 := Lib.hid hq
    have HJK := Lib.hid hjk
    clear hq hjk hee hee2
    go_wp2_with fail
    refine (tells_at HQ1.out (by rw [HI.out.play.len]; exact H4.out) (by rw [HI.out.play.len]; exact HJK.out.ok (by have := HI.out.k; omega))).mono ?_
    rintro r w2 ⟨rfl, ho2⟩
    have HS2 := Lib.hid (HS1.out.new ho2)
    have HQ2 := Lib.hid (HQ1.out.new ho2)
    clear ho2
    obtain ⟨k0, Ac, capc, k1, k2, harg, hcl, hcm⟩ := HCJ.out w2 HS2.out.off
    obtain ⟨cb, hcbn⟩ : ∃ x, x = c.b.length := ⟨_, rfl⟩
    rw [← hcbn] at k1
    have HARG := Lib.hid (And.intro harg (And.intro hcl hcm))
    have HCBN := Lib.hid hcbn
    obtain ⟨kk, hkk⟩ : ∃ x, x = c.k.toNat := ⟨_, rfl⟩
    rw [← hkk] at k0
    have hk256 : kk < 256 := by rw [hkk]; exact c.k.toNat_lt
    have HKK := Lib.hid hkk
    obtain ⟨zz, hzz⟩ : ∃ x, x = c.z := ⟨_, rfl⟩
    rw [← hzz] at k2
    have HZZ := Lib.hid hzz
    have hsc := HI.out.sc
    rw [drop_at HGET.out] at hsc
    obtain ⟨⟨hz0, hz1⟩, hscc⟩ := hsc
    rw [← hzz] at hz0 hz1
    rw [← hkk] at hscc
    have HSCC := Lib.hid hscc
    clear harg hcl hcm hcbn hkk hzz hscc
    go_upto_region 12 with fail
    obtain ⟨y, hy⟩ : ∃ v, v = w2.alloc (.cells #[.int .u8 (kk : Int), .slice Ac cb capc, .int .i64 zz] 37) := ⟨_, rfl⟩
    have hyb := (MapKept.heap_alloc w2 (.cells #[.int .u8 (kk : Int), .slice Ac cb capc, .int .i64 zz] 37)).1
    have hyg := World.grownBy_alloc w2 (.cells #[.int .u8 (kk : Int), .slice Ac cb capc, .int .i64 zz] 37) none
    have hys : y.heap.size = w2.heap.size + 1 := by rw [hy]; exact World.size_alloc ..
    obtain ⟨xb, hxb⟩ : ∃ x, x = w2.heap.size := ⟨_, rfl⟩
    rw [← hy] at hyb hyg
    rw [← hxb] at hyb hys
    rw [← hxb]
    rw [← hy]
    have HXB := Lib.hid hxb
    have HYB := Lib.hid hyb
    have HYS := Lib.hid hys
    have HSY := Lib.hid (HS2.out.new (off_grown hyg))
    have HQY := Lib.hid (HQ2.out.new (off_grown hyg))
    have x0 : y.cell? ⟨xb, 0, none⟩ = some (.int .u8 (kk : Int)) := cell_blk hyb 0
    have x1 : y.cell? ⟨xb, 1, none⟩ = some (.slice Ac cb capc) := cell_blk hyb 1
    have x2 : y.cell? ⟨xb, 2, none⟩ = some (.int .i64 zz) := cell_blk hyb 2
    have HXC : Hid (∀ (U : Nat → Prop) (v : World), Off U y v → (∀ b, U b → b ≠ xb) → v.cell? ⟨xb, 0, none⟩ = some (.int .u8 (kk : Int)) ∧ v.cell? ⟨xb, 1, none⟩ = some (.slice Ac cb capc) ∧ v.cell? ⟨xb, 2, none⟩ = some (.int .i64 zz)) := fun U v hv hU => by
     have hb := (hv.block xb (by have := HYS.out; omega) (fun q => hU xb q rfl)).trans HYB.out
     exact ⟨cell_blk hb 0, cell_blk hb 1, cell_blk hb 2⟩
    have HYG := Lib.hid (off_grown hyg)
    obtain ⟨Sd5, Sm5, hduo, hturn⟩ := HS2.out.turn
    have HDU := Lib.hid hduo
    have HTU := Lib.hid hturn
    have HDY := Lib.hid (hduo.new (off_grown hyg))
    have HXN : Hid (¬ (Sd5 xb ∨ y.heap.size ≤ xb)) := fun q => q.elim (fun q => by have h1 := (hduo.sd xb q).2.1; omega) (fun q => by omega)
    clear k0 k1 k2 hyb hyg hys hxb hy hduo hturn
    by_cases q5 : kk % 9 = 5
    ·have t5 : ((kk : Int) % 9 == 5) = true := by simp; omega
     have HSC2 : Hid (Sc n true (l.drop (i + 1))) := by have := HSCC.out; rwa [if_pos q5] at this
     have zb : (0 : Int) ≤ zz % 9 := by omega
     clear q5
     go_wp2_with fail
     have hf := fail_at (fun b => Sd5 b ∨ y.heap.size ≤ b) d D (zz % 9) (by omega) y (fun b hb => .inr hb) HDY.out.wide
     refine hf.mono ?_
     rintro r v1 ⟨rfl, hd1, ho1⟩
     obtain ⟨y0, y1, y2⟩ := HXC.out _ v1 ho1 (fun b hb e => HXN.out (e ▸ hb))
     have HD1 := Lib.hid hd1
     have HO1 := Lib.hid ho1
     clear hd1 ho1 x0 x1 x2 hf
     go_wp2_with fail
     have hf := rfail_at (fun b => Sm5 b ∨ v1.heap.size ≤ b) m D (zz % 9) (by omega) v1 ((HDY.out.disk2 HD1.out HO1.out).rwide)
     refine hf.mono ?_
     rintro r v3 ⟨rfl, hd3, ho3⟩
     have HPS : Hid (PSt wq v3 d m (failD D (zz % 9)) _ br _ _) := HTU.out y v1 v3 _ HYG.out HD1.out HO1.out hd3 ho3
     clear hd3 ho3 y0 y1 y2 hf
     go_wp2_with fail
     go_roundw
     case rel => exact ⟨i + 1, K, true, failD D (zz % 9), _, br, _, HLT.out, by (first | rfl | rw [HZI.out] | go_num), rfl, rfl, ⟨HPS.out, HI.out.play.fail', HI.out.num, HI.out.none, ⟨HI.out.k.1, by have := HI.out.k; omega⟩, by have := HI.out.wr; show D.wr.length ≤ _; omega, HSC2.out⟩⟩
     case measure => simp only [intOf]; (first | rw [HZI.out] | skip); have := HLT.out; omega
    have t5 : ((kk : Int) % 9 == 5) = false := by simp; omega
    by_cases q6 : kk % 9 = 6
    ·have t6 : ((kk : Int) % 9 == 6) = true := by simp; omega
     have HSC2 : Hid (Sc n false (l.drop (i + 1))) := by have := HSCC.out; rwa [if_neg q5, if_pos q6] at this
     clear q5 q6
     go_wp2_with fail
     clear x0 x1 x2
     refine (crash_at Sd5 d D y HDY.out.disk).mono ?_
     rintro r u1 ⟨rfl, hd1, ho1⟩
     have HA1 := Lib.hid (HDY.out.diskS hd1 ho1)
     clear hd1 ho1
     go_wp2_with fail
     refine (rcrash_at Sm5 m D u1 HA1.out.ref).mono ?_
     rintro r u2 ⟨rfl, hd1, ho1⟩
     have HA2 := Lib.hid (HA1.out.refS hd1 ho1)
     clear hd1 ho1
     go_wp2_with fail
     refine (on_at Sd5 d _ u2 HA2.out.disk).mono ?_
     rintro r u3 ⟨rfl, hd1, ho1⟩
     have HA3 := Lib.hid (HA2.out.diskS hd1 ho1)
     clear hd1 ho1
     go_wp2_with fail
     refine (ron_at Sm5 m _ u3 HA3.out.ref).mono ?_
     rintro r u4 ⟨rfl, hd1, ho1⟩
     have HDD : Hid (Duo wq u4 Sd5 Sm5 d m (liveD D) (liveD D)) := HA3.out.refS hd1 ho1
     clear hd1 ho1
     have HPV := Lib.hid HI.out.play.live'
     have HWD : Hid ((liveD D).wr.length ≤ D.wr.length + 1) := Nat.le_succ _
     go_wp2_with fail
     obtain ⟨e1, D1, R1, h1, h2, h3, hop⟩ := opens_at H4.out H80.out (by have := HI.out.k; omega) (by have := HI.out.k; omega) (by have := HI.out.wr; have := HWD.out; omega) HPV.out HDD.out
     have HPL := Lib.hid h1
     have HOC := Lib.hid h2
     have HOW := Lib.hid h3
     clear h1 h2 h3
     refine hop.mono ?_
     rintro r v2 ⟨jv, rfl, hro⟩
     clear hop
     go_wp2_with fail
     refine hro.mono ?_
     rintro r v3 ⟨kv, rfl, hps⟩
     have HPS := Lib.hid hps
     clear hps hro
     go_wp2_with fail
     go_roundw
     case rel => exact ⟨i + 1, K + 60, false, D1, R1, 0, e1, HLT.out, by (first | rfl | rw [HZI.out] | go_num), rfl, rfl, ⟨HPS.out, HPL.out.1.mono (by omega), fun J hJ => ⟨(HPL.out.2 J hJ).mono (by omega), HOC.out.1 J hJ⟩, HOC.out.2, ⟨by have := HI.out.k; omega, by have := HI.out.k; omega⟩, by have h1 := HOW.out; have h2 := HI.out.wr; have h3 := HWD.out; omega, HSC2.out⟩⟩
     case measure => simp only [intOf]; (first | rw [HZI.out] | skip); have := HLT.out; omega
    have t6 : ((kk : Int) % 9 == 6) = false := by simp; omega
    by_cases q7 : kk % 9 = 7
    ·have t7 : ((kk : Int) % 9 == 7) = true := by simp; omega
     have HSC3 : Hid (arm = false ∧ Sc n false (l.drop (i + 1))) := by have := HSCC.out; rwa [if_neg q5, if_neg q6, if_pos q7] at this
     have HSC2 : Hid (Sc n false (l.drop (i + 1))) := HSC3.out.2
     clear q5 q6 q7
     have HPV : Hid (PlayD n K false D) := by have := HI.out.play; rwa [HSC3.out.1] at this
     have HWD : Hid (D.wr.length ≤ D.wr.length + 1) := Nat.le_succ _
     go_wp2_with fail
     clear x0 x1 x2
     obtain ⟨e1, D1, R1, h1, h2, h3, hop⟩ := opens_at H4.out H80.out (by have := HI.out.k; omega) (by have := HI.out.k; omega) (by have := HI.out.wr; have := HWD.out; omega) HPV.out HDY.out
     have HPL := Lib.hid h1
     have HOC := Lib.hid h2
     have HOW := Lib.hid h3
     clear h1 h2 h3
     refine hop.mono ?_
     rintro r v2 ⟨jv, rfl, hro⟩
     clear hop
     go_wp2_with fail
     refine hro.mono ?_
     rintro r v3 ⟨kv, rfl, hps⟩
     have HPS := Lib.hid hps
     clear hps hro
     go_wp2_with fail
     go_roundw
     case rel => exact ⟨i + 1, K + 60, false, D1, R1, 0, e1, HLT.out, by (first | rfl | rw [HZI.out] | go_num), rfl, rfl, ⟨HPS.out, HPL.out.1.mono (by omega), fun J hJ => ⟨(HPL.out.2 J hJ).mono (by omega), HOC.out.1 J hJ⟩, HOC.out.2, ⟨by have := HI.out.k; omega, by have := HI.out.k; omega⟩, by have h1 := HOW.out; have h2 := HI.out.wr; have h3 := HWD.out; omega, HSC2.out⟩⟩
     case measure => simp only [intOf]; (first | rw [HZI.out] | skip); have := HLT.out; omega
    have t7 : ((kk : Int) % 9 == 7) = false := by simp; omega
    by_cases q8 : kk % 9 = 8
    ·have t8 : ((kk : Int) % 9 == 8) = true := by simp; omega
     have HSC3 : Hid (arm = false ∧ FineW n c ∧ Sc n false (l.drop (i + 1))) := by have := HSCC.out; rwa [if_neg q5, if_neg q6, if_neg q7, if_pos q8] at this
     have HSC2 : Hid (Sc n false (l.drop (i + 1))) := HSC3.out.2.2
     clear q5 q6 q7 q8
     have HPV0 : Hid (PlayD n K false D) := by have := HI.out.play; rwa [HSC3.out.1] at this
     have HPV : Hid (PlayD n K false (wrote D zz c.b).2) := by rw [HZZ.out]; exact HSC3.out.2.1.2 K D HI.out.k.1 HPV0.out
     have HWD : Hid ((wrote D zz c.b).2.wr.length ≤ D.wr.length + 1) := (wrote_size D zz c.b).2
     have HAY := Lib.hid (HARG.out.1.next HYG.out (fun _ q => q.elim))
     have hw8 := write_at (fun b => Sd5 b ∨ y.heap.size ≤ b) d zz D c.b Ac capc y HDY.out.wide (HAY.out.imp (fun q => q.1) (fun ⟨g, off, e, h1, h2, h3⟩ => ⟨g, off, e, fun q => q.elim (fun q => by have := (HDU.out.sd g q).1; omega) (fun q => by have := HDY.out.off.size; omega), h3⟩)) (fun b hb => .inr hb) (by have := HI.out.wr; omega)
     rw [← HCBN.out] at hw8
     have HW8 := Lib.hid hw8
     clear hw8
     go_wp2_with fail
     refine HW8.out.mono ?_
     rintro r u1 ⟨rfl, hd1, ho1⟩
     obtain ⟨y0, y1, y2⟩ := HXC.out _ u1 ho1 (fun b hb e => HXN.out (e ▸ hb))
     have HA1 := Lib.hid (HDY.out.disk2 hd1 ho1)
     have HAU := Lib.hid (HAY.out.next ho1 (fun b q => q.elim (fun q => (HDU.out.sd b q).1) (fun q => by have := HDY.out.off.size; omega)))
     have hcv := HAU.out.str
     rw [← HCBN.out] at hcv
     clear hd1 ho1 x0 x1 x2
     go_wp2_with fail
     clear hcv y0 y1 y2
     refine (rwrite_at (fun b => Sm5 b ∨ u1.heap.size ≤ b) m zz D c.b u1 HA1.out.rwide (fun b hb => .inr hb) (by have := HCB.out; unfold maxLen; omega) (by have := HI.out.wr; omega)).mono ?_
     rintro r u2 ⟨rfl, hd2, ho2⟩
     have HDD := Lib.hid (HA1.out.ref2 hd2 ho2)
     clear hd2 ho2
     obtain ⟨Dw, hDw⟩ : ∃ x, x = (wrote D zz c.b).2 := ⟨_, rfl⟩
     rw [← hDw] at HDD HPV HWD
     clear hDw
     go_wp2_with fail
     obtain ⟨e1, D1, R1, h1, h2, h3, hop⟩ := opens_at H4.out H80.out (by have := HI.out.k; omega) (by have := HI.out.k; omega) (by have := HI.out.wr; have := HWD.out; omega) HPV.out HDD.out
     have HPL := Lib.hid h1
     have HOC := Lib.hid h2
     have HOW := Lib.hid h3
     clear h1 h2 h3
     refine hop.mono ?_
     rintro r v2 ⟨jv, rfl, hro⟩
     clear hop
     go_wp2_with fail
     refine hro.mono ?_
     rintro r v3 ⟨kv, rfl, hps⟩
     have HPS := Lib.hid hps
     clear hps hro
     go_wp2_with fail
     go_roundw
     case rel => exact ⟨i + 1, K + 60, false, D1, R1, 0, e1, HLT.out, by (first | rfl | rw [HZI.out] | go_num), rfl, rfl, ⟨HPS.out, HPL.out.1.mono (by omega), fun J hJ => ⟨(HPL.out.2 J hJ).mono (by omega), HOC.out.1 J hJ⟩, HOC.out.2, ⟨by have := HI.out.k; omega, by have := HI.out.k; omega⟩, by have h1 := HOW.out; have h2 := HI.out.wr; have h3 := HWD.out; omega, HSC2.out⟩⟩
     case measure => simp only [intOf]; (first | rw [HZI.out] | skip); have := HLT.out; omega
    have t8 : ((kk : Int) % 9 == 8) = false := by simp; omega
    have HSC2 : Hid (Sc n arm (l.drop (i + 1))) := by have := HSCC.out; rwa [if_neg q5, if_neg q6, if_neg q7, if_neg q8] at this
    clear q5 q6 q7 q8
    obtain ⟨e9, D9, J9, br9, hdo⟩ := do_to (decide (c.k.toNat % 9 = 4)) D J br (rep c.b (c.k.toNat / 9 + 1))
    have HAY := Lib.hid (HARG.out.1.next HYG.out (fun _ q => q.elim))
    have hdoes := does_at c.k zz c.b Ac capc HCB.out HARG.out.2.1 HARG.out.2.2 y (HAY.out.imp id (fun ⟨g, off, e, h1, h2, h3⟩ => ⟨g, off, e, h3⟩)) HQY.out hdo (by rw [HI.out.play.len]; exact H4.out) (by have := HI.out.wr; omega) (by rw [HI.out.play.len]; exact HJK.out.ok (by have := HI.out.k; omega))
    rw [← HKK.out, ← HCBN.out] at hdoes
    have HDOES := Lib.hid hdoes
    have HPL := Lib.hid (hdo.play HI.out.play HJK.out H4.out (by have := HI.out.k; omega) (rep_small HCB.out).1)
    have HWD := Lib.hid (hdo.wr HI.out.play.len H80.out)
    clear hdoes hdo
    go_wp2_with fail
    refine HDOES.out.mono ?_
    rintro r v3 ⟨rfl, S9, Sd9, T9, Sm9, hq9⟩
    have HPS : Hid (PSt wq v3 d m D9 (some J9) br9 (.pointer (some ⟨jb, 0, none⟩)) (.pointer (some ⟨rb, 0, none⟩))) := ⟨jb, rb, S9, Sd9, T9, Sm9, rfl, rfl, hq9⟩
    clear hq9 x0 x1 x2
    go_wp2_with fail
    go_roundw
    case rel => exact ⟨i + 1, K + 1, arm, D9, some J9, br9, 0, HLT.out, by (first | rfl | rw [HZI.out] | go_num), rfl, rfl, ⟨HPS.out, HPL.out.1, fun J hJ => (by cases hJ; exact ⟨HPL.out.2, rfl⟩), fun q => (by cases q), ⟨by have := HI.out.k; omega, by have := HI.out.k; omega⟩, by have := HI.out.wr; have := HWD.out; omega, HSC2.out⟩⟩
    case measure => simp only [intOf]; (first | rw [HZI.out] | skip); have := HLT.out; omega
   | none =>
    have he0 := HI.out.none rfl
    subst he0
    obtain ⟨hjv, hkv, _⟩ := HS1.out
    subst hjv hkv
    clear hee hee2
    obtain ⟨w2, hw2⟩ : ∃ v, v = w1 := ⟨_, rfl⟩
    rw [← hw2] at HS1
    rw [← hw2]
    have HS2 := HS1
    clear hw2
    obtain ⟨k0, Ac, capc, k1, k2, harg, hcl, hcm⟩ := HCJ.out w2 HS2.out.off
    obtain ⟨cb, hcbn⟩ : ∃ x, x = c.b.length := ⟨_, rfl⟩
    rw [← hcbn] at k1
    have HARG := Lib.hid (And.intro harg (And.intro hcl hcm))
    have HCBN := Lib.hid hcbn
    obtain ⟨kk, hkk⟩ : ∃ x, x = c.k.toNat := ⟨_, rfl⟩
    rw [← hkk] at k0
    have hk256 : kk < 256 := by rw [hkk]; exact c.k.toNat_lt
    have HKK := Lib.hid hkk
    obtain ⟨zz, hzz⟩ : ∃ x, x = c.z := ⟨_, rfl⟩
    rw [← hzz] at k2
    have HZZ := Lib.hid hzz
    have hsc := HI.out.sc
    rw [drop_at HGET.out] at hsc
    obtain ⟨⟨hz0, hz1⟩, hscc⟩ := hsc
    rw [← hzz] at hz0 hz1
    rw [← hkk] at hscc
    have HSCC := Lib.hid hscc
    clear harg hcl hcm hcbn hkk hzz hscc
    go_upto_region 12 with fail
    obtain ⟨y, hy⟩ : ∃ v, v = w2.alloc (.cells #[.int .u8 (kk : Int), .slice Ac cb capc, .int .i64 zz] 37) := ⟨_, rfl⟩
    have hyb := (MapKept.heap_alloc w2 (.cells #[.int .u8 (kk : Int), .slice Ac cb capc, .int .i64 zz] 37)).1
    have hyg := World.grownBy_alloc w2 (.cells #[.int .u8 (kk : Int), .slice Ac cb capc, .int .i64 zz] 37) none
    have hys : y.heap.size = w2.heap.size + 1 := by rw [hy]; exact World.size_alloc ..
    obtain ⟨xb, hxb⟩ : ∃ x, x = w2.heap.size := ⟨_, rfl⟩
    rw [← hy] at hyb hyg
    rw [← hxb] at hyb hys
    rw [← hxb]
    rw [← hy]
    have HXB := Lib.hid hxb
    have HYB := Lib.hid hyb
    have HYS := Lib.hid hys
    have HSY := Lib.hid (HS2.out.new (off_grown hyg))
    skip
    have x0 : y.cell? ⟨xb, 0, none⟩ = some (.int .u8 (kk : Int)) := cell_blk hyb 0
    have x1 : y.cell? ⟨xb, 1, none⟩ = some (.slice Ac cb capc) := cell_blk hyb 1
    have x2 : y.cell? ⟨xb, 2, none⟩ = some (.int .i64 zz) := cell_blk hyb 2
    have HXC : Hid (∀ (U : Nat → Prop) (v : World), Off U y v → (∀ b, U b → b ≠ xb) → v.cell? ⟨xb, 0, none⟩ = some (.int .u8 (kk : Int)) ∧ v.cell? ⟨xb, 1, none⟩ = some (.slice Ac cb capc) ∧ v.cell? ⟨xb, 2, none⟩ = some (.int .i64 zz)) := fun U v hv hU => by
     have hb := (hv.block xb (by have := HYS.out; omega) (fun q => hU xb q rfl)).trans HYB.out
     exact ⟨cell_blk hb 0, cell_blk hb 1, cell_blk hb 2⟩
    have HYG := Lib.hid (off_grown hyg)
    obtain ⟨Sd5, Sm5, hduo, hturn⟩ := HS2.out.turn
    have HDU := Lib.hid hduo
    have HTU := Lib.hid hturn
    have HDY := Lib.hid (hduo.new (off_grown hyg))
    have HXN : Hid (¬ (Sd5 xb ∨ y.heap.size ≤ xb)) := fun q => q.elim (fun q => by have h1 := (hduo.sd xb q).2.1; omega) (fun q => by omega)
    clear k0 k1 k2 hyb hyg hys hxb hy hduo hturn
    by_cases q5 : kk % 9 = 5
    ·have t5 : ((kk : Int) % 9 == 5) = true := by simp; omega
     have HSC2 : Hid (Sc n true (l.drop (i + 1))) := by have := HSCC.out; rwa [if_pos q5] at this
     have zb : (0 : Int) ≤ zz % 9 := by omega
     clear q5
     go_wp2_with fail
     have hf := fail_at (fun b => Sd5 b ∨ y.heap.size ≤ b) d D (zz % 9) (by omega) y (fun b hb => .inr hb) HDY.out.wide
     refine hf.mono ?_
     rintro r v1 ⟨rfl, hd1, ho1⟩
     obtain ⟨y0, y1, y2⟩ := HXC.out _ v1 ho1 (fun b hb e => HXN.out (e ▸ hb))
     have HD1 := Lib.hid hd1
     have HO1 := Lib.hid ho1
     clear hd1 ho1 x0 x1 x2 hf
     go_wp2_with fail
     have hf := rfail_at (fun b => Sm5 b ∨ v1.heap.size ≤ b) m D (zz % 9) (by omega) v1 ((HDY.out.disk2 HD1.out HO1.out).rwide)
     refine hf.mono ?_
     rintro r v3 ⟨rfl, hd3, ho3⟩
     have HPS : Hid (PSt wq v3 d m (failD D (zz % 9)) _ br _ _) := HTU.out y v1 v3 _ HYG.out HD1.out HO1.out hd3 ho3
     clear hd3 ho3 y0 y1 y2 hf
     go_wp2_with fail
     go_roundw
     case rel => exact ⟨i + 1, K, true, failD D (zz % 9), _, br, _, HLT.out, by (first | rfl | rw [HZI.out] | go_num), rfl, rfl, ⟨HPS.out, HI.out.play.fail', HI.out.num, HI.out.none, ⟨HI.out.k.1, by have := HI.out.k; omega⟩, by have := HI.out.wr; show D.wr.length ≤ _; omega, HSC2.out⟩⟩
     case measure => simp only [intOf]; (first | rw [HZI.out] | skip); have := HLT.out; omega
    have t5 : ((kk : Int) % 9 == 5) = false := by simp; omega
    by_cases q6 : kk % 9 = 6
    ·have t6 : ((kk : Int) % 9 == 6) = true := by simp; omega
     have HSC2 : Hid (Sc n false (l.drop (i + 1))) := by have := HSCC.out; rwa [if_neg q5, if_pos q6] at this
     clear q5 q6
     go_wp2_with fail
     clear x0 x1 x2
     refine (crash_at Sd5 d D y HDY.out.disk).mono ?_
     rintro r u1 ⟨rfl, hd1, ho1⟩
     have HA1 := Lib.hid (HDY.out.diskS hd1 ho1)
     clear hd1 ho1
     go_wp2_with fail
     refine (rcrash_at Sm5 m D u1 HA1.out.ref).mono ?_
     rintro r u2 ⟨rfl, hd1, ho1⟩
     have HA2 := Lib.hid (HA1.out.refS hd1 ho1)
     clear hd1 ho1
     go_wp2_with fail
     refine (on_at Sd5 d _ u2 HA2.out.disk).mono ?_
     rintro r u3 ⟨rfl, hd1, ho1⟩
     have HA3 := Lib.hid (HA2.out.diskS hd1 ho1)
     clear hd1 ho1
     go_wp2_with fail
     refine (ron_at Sm5 m _ u3 HA3.out.ref).mono ?_
     rintro r u4 ⟨rfl, hd1, ho1⟩
     have HDD : Hid (Duo wq u4 Sd5 Sm5 d m (liveD D) (liveD D)) := HA3.out.refS hd1 ho1
     clear hd1 ho1
     have HPV := Lib.hid HI.out.play.live'
     have HWD : Hid ((liveD D).wr.length ≤ D.wr.length + 1) := Nat.le_succ _
     go_wp2_with fail
     obtain ⟨e1, D1, R1, h1, h2, h3, hop⟩ := opens_at H4.out H80.out (by have := HI.out.k; omega) (by have := HI.out.k; omega) (by have := HI.out.wr; have := HWD.out; omega) HPV.out HDD.out
     have HPL := Lib.hid h1
     have HOC := Lib.hid h2
     have HOW := Lib.hid h3
     clear h1 h2 h3
     refine hop.mono ?_
     rintro r v2 ⟨jv, rfl, hro⟩
     clear hop
     go_wp2_with fail
     refine hro.mono ?_
     rintro r v3 ⟨kv, rfl, hps⟩
     have HPS := Lib.hid hps
     clear hps hro
     go_wp2_with fail
     go_roundw
     case rel => exact ⟨i + 1, K + 60, false, D1, R1, 0, e1, HLT.out, by (first | rfl | rw [HZI.out] | go_num), rfl, rfl, ⟨HPS.out, HPL.out.1.mono (by omega), fun J hJ => ⟨(HPL.out.2 J hJ).mono (by omega), HOC.out.1 J hJ⟩, HOC.out.2, ⟨by have := HI.out.k; omega, by have := HI.out.k; omega⟩, by have h1 := HOW.out; have h2 := HI.out.wr; have h3 := HWD.out; omega, HSC2.out⟩⟩
     case measure => simp only [intOf]; (first | rw [HZI.out] | skip); have := HLT.out; omega
    have t6 : ((kk : Int) % 9 == 6) = false := by simp; omega
    by_cases q7 : kk % 9 = 7
    ·have t7 : ((kk : Int) % 9 == 7) = true := by simp; omega
     have HSC3 : Hid (arm = false ∧ Sc n false (l.drop (i + 1))) := by have := HSCC.out; rwa [if_neg q5, if_neg q6, if_pos q7] at this
     have HSC2 : Hid (Sc n false (l.drop (i + 1))) := HSC3.out.2
     clear q5 q6 q7
     have HPV : Hid (PlayD n K false D) := by have := HI.out.play; rwa [HSC3.out.1] at this
     have HWD : Hid (D.wr.length ≤ D.wr.length + 1) := Nat.le_succ _
     go_wp2_with fail
     clear x0 x1 x2
     obtain ⟨e1, D1, R1, h1, h2, h3, hop⟩ := opens_at H4.out H80.out (by have := HI.out.k; omega) (by have := HI.out.k; omega) (by have := HI.out.wr; have := HWD.out; omega) HPV.out HDY.out
     have HPL := Lib.hid h1
     have HOC := Lib.hid h2
     have HOW := Lib.hid h3
     clear h1 h2 h3
     refine hop.mono ?_
     rintro r v2 ⟨jv, rfl, hro⟩
     clear hop
     go_wp2_with fail
     refine hro.mono ?_
     rintro r v3 ⟨kv, rfl, hps⟩
     have HPS := Lib.hid hps
     clear hps hro
     go_wp2_with fail
     go_roundw
     case rel => exact ⟨i + 1, K + 60, false, D1, R1, 0, e1, HLT.out, by (first | rfl | rw [HZI.out] | go_num), rfl, rfl, ⟨HPS.out, HPL.out.1.mono (by omega), fun J hJ => ⟨(HPL.out.2 J hJ).mono (by omega), HOC.out.1 J hJ⟩, HOC.out.2, ⟨by have := HI.out.k; omega, by have := HI.out.k; omega⟩, by have h1 := HOW.out; have h2 := HI.out.wr; have h3 := HWD.out; omega, HSC2.out⟩⟩
     case measure => simp only [intOf]; (first | rw [HZI.out] | skip); have := HLT.out; omega
    have t7 : ((kk : Int) % 9 == 7) = false := by simp; omega
    by_cases q8 : kk % 9 = 8
    ·have t8 : ((kk : Int) % 9 == 8) = true := by simp; omega
     have HSC3 : Hid (arm = false ∧ FineW n c ∧ Sc n false (l.drop (i + 1))) := by have := HSCC.out; rwa [if_neg q5, if_neg q6, if_neg q7, if_pos q8] at this
     have HSC2 : Hid (Sc n false (l.drop (i + 1))) := HSC3.out.2.2
     clear q5 q6 q7 q8
     have HPV0 : Hid (PlayD n K false D) := by have := HI.out.play; rwa [HSC3.out.1] at this
     have HPV : Hid (PlayD n K false (wrote D zz c.b).2) := by rw [HZZ.out]; exact HSC3.out.2.1.2 K D HI.out.k.1 HPV0.out
     have HWD : Hid ((wrote D zz c.b).2.wr.length ≤ D.wr.length + 1) := (wrote_size D zz c.b).2
     have HAY := Lib.hid (HARG.out.1.next HYG.out (fun _ q => q.elim))
     have hw8 := write_at (fun b => Sd5 b ∨ y.heap.size ≤ b) d zz D c.b Ac capc y HDY.out.wide (HAY.out.imp (fun q => q.1) (fun ⟨g, off, e, h1, h2, h3⟩ => ⟨g, off, e, fun q => q.elim (fun q => by have := (HDU.out.sd g q).1; omega) (fun q => by have := HDY.out.off.size; omega), h3⟩)) (fun b hb => .inr hb) (by have := HI.out.wr; omega)
     rw [← HCBN.out] at hw8
     have HW8 := Lib.hid hw8
     clear hw8
     go_wp2_with fail
     refine HW8.out.mono ?_
     rintro r u1 ⟨rfl, hd1, ho1⟩
     obtain ⟨y0, y1, y2⟩ := HXC.out _ u1 ho1 (fun b hb e => HXN.out (e ▸ hb))
     have HA1 := Lib.hid (HDY.out.disk2 hd1 ho1)
     have HAU := Lib.hid (HAY.out.next ho1 (fun b q => q.elim (fun q => (HDU.out.sd b q).1) (fun q => by have := HDY.out.off.size; omega)))
     have hcv := HAU.out.str
     rw [← HCBN.out] at hcv
     clear hd1 ho1 x0 x1 x2
     go_wp2_with fail
     clear hcv y0 y1 y2
     refine (rwrite_at (fun b => Sm5 b ∨ u1.heap.size ≤ b) m zz D c.b u1 HA1.out.rwide (fun b hb => .inr hb) (by have := HCB.out; unfold maxLen; omega) (by have := HI.out.wr; omega)).mono ?_
     rintro r u2 ⟨rfl, hd2, ho2⟩
     have HDD := Lib.hid (HA1.out.ref2 hd2 ho2)
     clear hd2 ho2
     obtain ⟨Dw, hDw⟩ : ∃ x, x = (wrote D zz c.b).2 := ⟨_, rfl⟩
     rw [← hDw] at HDD HPV HWD
     clear hDw
     go_wp2_with fail
     obtain ⟨e1, D1, R1, h1, h2, h3, hop⟩ := opens_at H4.out H80.out (by have := HI.out.k; omega) (by have := HI.out.k; omega) (by have := HI.out.wr; have := HWD.out; omega) HPV.out HDD.out
     have HPL := Lib.hid h1
     have HOC := Lib.hid h2
     have HOW := Lib.hid h3
     clear h1 h2 h3
     refine hop.mono ?_
     rintro r v2 ⟨jv, rfl, hro⟩
     clear hop
     go_wp2_with fail
     refine hro.mono ?_
     rintro r v3 ⟨kv, rfl, hps⟩
     have HPS := Lib.hid hps
     clear hps hro
     go_wp2_with fail
     go_roundw
     case rel => exact ⟨i + 1, K + 60, false, D1, R1, 0, e1, HLT.out, by (first | rfl | rw [HZI.out] | go_num), rfl, rfl, ⟨HPS.out, HPL.out.1.mono (by omega), fun J hJ => ⟨(HPL.out.2 J hJ).mono (by omega), HOC.out.1 J hJ⟩, HOC.out.2, ⟨by have := HI.out.k; omega, by have := HI.out.k; omega⟩, by have h1 := HOW.out; have h2 := HI.out.wr; have h3 := HWD.out; omega, HSC2.out⟩⟩
     case measure => simp only [intOf]; (first | rw [HZI.out] | skip); have := HLT.out; omega
    have t8 : ((kk : Int) % 9 == 8) = false := by simp; omega
    have HSC2 : Hid (Sc n arm (l.drop (i + 1))) := by have := HSCC.out; rwa [if_neg q5, if_neg q6, if_neg q7, if_neg q8] at this
    clear q5 q6 q7 q8
    go_wp2_with fail
    clear x0 x1 x2
    go_roundw
    case rel => exact ⟨i + 1, K, arm, D, none, br, 30, HLT.out, by (first | rfl | rw [HZI.out] | go_num), rfl, rfl, ⟨HSY.out, HI.out.play, HI.out.num, HI.out.none, ⟨HI.out.k.1, by have := HI.out.k; omega⟩, by have := HI.out.wr; omega, HSC2.out⟩⟩
    case measure => simp only [intOf]; (first | rw [HZI.out] | skip); have := HLT.out; omega
  ·have hd : decide (i < len) = false := by simp; omega
   clear hlt
   go_wp2_with fail
   obtain ⟨Sdl, Sml, hduo⟩ := HI.out.st.duo
   refine (lies_at Sdl Sml d m D wr hduo.disk hduo.ref HI.out.play.full).mono ?_
   rintro r w1 ⟨rfl, ho1⟩
   have HS1 := Lib.hid (HI.out.st.new ho1)
   clear hduo ho1
   cases R with
   | some J =>
    obtain ⟨hjk, he0⟩ := HI.out.num J rfl
    subst he0
    obtain ⟨jb, rb, S, Sd, T, Sm, hjv, hkv, hq⟩ := HS1.out
    subst hjv hkv
    have HQ1 := Lib.hid hq
    have HJK := Lib.hid hjk
    clear hq hjk hee hee2
    go_wp2_with fail
    refine (tells_at HQ1.out (by rw [HI.out.play.len]; exact H4.out) (by rw [HI.out.play.len]; exact HJK.out.ok (by have := HI.out.k; omega))).mono ?_
    rintro r w2 ⟨rfl, ho2⟩
    have HS2 := Lib.hid (HS1.out.new ho2)
    clear ho2
    go_wp2_with fail
    refine (works_at _).mono ?_
    rintro r w3 ⟨rfl, ho3⟩
    have HS3 := Lib.hid (HS2.out.new ho3)
    clear ho3
    go_wp2_with fail
    go_ret
    exact ⟨rfl, Off.zero HS3.out.off⟩
   | none =>
    have he0 := HI.out.none rfl
    subst he0
    obtain ⟨hjv, hkv, _⟩ := HS1.out
    subst hjv hkv
    clear hee hee2
    go_wp2_with fail
    refine (works_at _).mono ?_
    rintro r w3 ⟨rfl, ho3⟩
    have HS3 := Lib.hid (HS1.out.new ho3)
    clear ho3
    go_wp2_with fail
    go_ret
    exact ⟨rfl, Off.zero HS3.out.off⟩
theorem fine_put (n zn : Nat) (k : UInt8) (z : Int) (b : List UInt8) (hz : z = (zn : Int)) (hb : b.length ≤ 128) (_ : 4 ≤ n) (hzn : zn < n) (hh : zn = 0 ∨ zn = n / 2 → ∀ K, 9 ≤ K → HeadPl K (pad b)) (ht : zn ≠ 0 → zn ≠ n / 2 → TameB (pad b)) : FineW n ⟨k, b, z⟩ := by
 subst hz
 refine ⟨hb, fun K D hK hp => ?_⟩
 obtain ⟨hoff, harm⟩ := hp.live rfl
 have hw : (wrote D (zn : Int) b).2 = D.push zn (pad b) := by
  unfold wrote
  have hq : askedN D (zn : Int) = 0 := by
   rcases askedN_cases D (zn : Int) with q | q | q
   ·unfold askedN at q; rw [hoff] at q; revert q; simp; split <;> simp
   ·unfold askedN at q; rw [hoff] at q; revert q; have := hp.len; simp; omega
   ·exact q.1
  rw [if_neg (by rw [hq]; simp), if_neg (by omega), harm]
  rfl
 show PlayD n K false (wrote D (zn : Int) b).2
 rw [hw]
 have hnow : ∀ i, (D.push zn (pad b)).now i = if i = zn then pad b else D.now i := fun i => rfl
 refine ⟨hp.len, full_push hp.full _ _, ?_, ?_, fun x hx => ?_, fun x hx => ?_, fun _ => ⟨hoff, harm⟩⟩
 ·rw [hnow]
  split
  ·exact hh (by omega) K hK
  ·exact hp.h0
 ·rw [hnow]
  split
  ·exact hh (by omega) K hK
  ·exact hp.h1
 ·rw [hnow]
  split
  ·exact ht (by omega) (by omega)
  ·exact hp.t0 x hx
 ·rw [hnow]
  split
  ·exact ht (by omega) (by omega)
  ·exact hp.t1 x hx
theorem fine_out (n : Nat) (k : UInt8) (z : Int) (b : List UInt8) (hb : b.length ≤ 128) (hz : (n : Int) ≤ z) : FineW n ⟨k, b, z⟩ := by
 refine ⟨hb, fun K D hK hp => ?_⟩
 have hw : (wrote D z b).2 = D := by
  unfold wrote
  rw [if_pos ?_]
  rcases askedN_cases D z with q | q | q
  ·rw [q]; decide
  ·rw [q]; decide
  ·have := hp.len; omega
 show PlayD n K false (wrote D z b).2
 rw [hw]
 exact hp
theorem x17_len : x17.length = 128 := headB_length ..
theorem x18_len : x18.length = 128 := sealB_length _ (by rw [partL_length _ _ _ _ _ _ (by decide)]; decide)
theorem x19_len : x19.length = 128 := sealB_length _ (by rw [partL_length _ _ _ _ _ _ (by decide)]; decide)
theorem x20_len : x20.length = 128 := sealB_length _ (by rw [partL_length _ _ _ _ _ _ (by decide)]; decide)
theorem x18_tame : TameB (pad x18) := by
 rw [pad_full x18_len]
 exact .inr ⟨67, 9, 0, 0, 1, [], rfl, .inl rfl, by decide, by decide, by decide, by decide, by decide, .inr rfl⟩
theorem x19_tame : TameB (pad x19) := by
 rw [pad_full x19_len]
 exact .inr ⟨82, 9, 9, 0, 1, [113], rfl, .inr rfl, by decide, by decide, by decide, by decide, by decide, .inr rfl⟩
theorem x20_tame : TameB (pad x20) := by
 rw [pad_full x20_len]
 exact .inr ⟨82, 8, 10, 0, 1, [114], rfl, .inr rfl, by decide, by decide, by decide, by decide, by decide, .inr rfl⟩
theorem x17_head (K : Nat) (hK : 9 ≤ K) : HeadPl K (pad x17) := by
 rw [pad_full x17_len]
 exact .inl ⟨9, 9, 9, 0, rfl, ⟨by decide, hK⟩, ⟨by decide, hK⟩, ⟨by decide, hK⟩, by decide⟩
theorem x19_head (K : Nat) : HeadPl K (pad x19) := by
 rw [pad_full x19_len]
 exact .inr ⟨9, 9, 0x101710000, 0, x19_len, rfl, rfl, rfl, rfl, by decide, by decide, by decide, by decide, fun q => by
  have h := congrArg (fun (l : List UInt8) => l[0]?) q.2.2.2
  have h2 : x19[0]? = some 82 := rfl
  have h3 : (headB 9 9 0x101710000 0)[0]? = some 72 := rfl
  simp only [h2, h3] at h
  exact absurd h (by decide)⟩
theorem one_head (K : Nat) : HeadPl K (pad [120]) :=
 .inr ⟨0, 0, 0, 0, rfl, rfl, rfl, rfl, rfl, by decide, by decide, by decide, by decide, fun q => by have := q.1.1; omega⟩
theorem row25_small : bigJ row25 = false := by
 unfold bigJ totalJ row25 hundred
 simp [x17_len, x18_len, x19_len, x20_len]
theorem row25_fine (n : Nat) (_ : 4 ≤ n) (h17 : FineW n ⟨8, x17, 0⟩) (h18 : FineW n ⟨8, x18, 1⟩) (h19 : FineW n ⟨8, x19, 2⟩) (h20 : FineW n ⟨8, x20, 3⟩) (h22 : FineW n ⟨8, [120], 0⟩) (h23 : FineW n ⟨8, [120], 8⟩) : Sc n false row25 := by
 simp [row25, Sc, h17, h18, h19, h20, h22, h23]
theorem row25_16 : Sc 16 false row25 := row25_fine 16 (by decide)
 (fine_put 16 0 8 0 x17 rfl (by rw [x17_len]; decide) (by decide) (by decide) (fun _ => x17_head) (fun q => absurd rfl q))
 (fine_put 16 1 8 1 x18 rfl (by rw [x18_len]; decide) (by decide) (by decide) (fun q => by omega) (fun _ _ => x18_tame))
 (fine_put 16 2 8 2 x19 rfl (by rw [x19_len]; decide) (by decide) (by decide) (fun q => by omega) (fun _ _ => x19_tame))
 (fine_put 16 3 8 3 x20 rfl (by rw [x20_len]; decide) (by decide) (by decide) (fun q => by omega) (fun _ _ => x20_tame))
 (fine_put 16 0 8 0 [120] rfl (by decide) (by decide) (by decide) (fun _ K _ => one_head K) (fun q => absurd rfl q))
 (fine_put 16 8 8 8 [120] rfl (by decide) (by decide) (by decide) (fun _ K _ => one_head K) (fun _ q => absurd rfl q))
theorem row25_8 : Sc 8 false row25 := row25_fine 8 (by decide)
 (fine_put 8 0 8 0 x17 rfl (by rw [x17_len]; decide) (by decide) (by decide) (fun _ => x17_head) (fun q => absurd rfl q))
 (fine_put 8 1 8 1 x18 rfl (by rw [x18_len]; decide) (by decide) (by decide) (fun q => by omega) (fun _ _ => x18_tame))
 (fine_put 8 2 8 2 x19 rfl (by rw [x19_len]; decide) (by decide) (by decide) (fun q => by omega) (fun _ _ => x19_tame))
 (fine_put 8 3 8 3 x20 rfl (by rw [x20_len]; decide) (by decide) (by decide) (fun q => by omega) (fun _ _ => x20_tame))
 (fine_put 8 0 8 0 [120] rfl (by decide) (by decide) (by decide) (fun _ K _ => one_head K) (fun q => absurd rfl q))
 (fine_out 8 8 8 [120] (by decide) (by decide))
theorem row25_5 : Sc 5 false row25 := row25_fine 5 (by decide)
 (fine_put 5 0 8 0 x17 rfl (by rw [x17_len]; decide) (by decide) (by decide) (fun _ => x17_head) (fun q => absurd rfl q))
 (fine_put 5 1 8 1 x18 rfl (by rw [x18_len]; decide) (by decide) (by decide) (fun q => by omega) (fun _ _ => x18_tame))
 (fine_put 5 2 8 2 x19 rfl (by rw [x19_len]; decide) (by decide) (by decide) (fun _ K _ => x19_head K) (fun _ q => absurd rfl q))
 (fine_put 5 3 8 3 x20 rfl (by rw [x20_len]; decide) (by decide) (by decide) (fun q => by omega) (fun _ _ => x20_tame))
 (fine_put 5 0 8 0 [120] rfl (by decide) (by decide) (by decide) (fun _ K _ => one_head K) (fun q => absurd rfl q))
 (fine_out 5 8 8 [120] (by decide) (by decide))
theorem row25_4 : Sc 4 false row25 := row25_fine 4 (by decide)
 (fine_put 4 0 8 0 x17 rfl (by rw [x17_len]; decide) (by decide) (by decide) (fun _ => x17_head) (fun q => absurd rfl q))
 (fine_put 4 1 8 1 x18 rfl (by rw [x18_len]; decide) (by decide) (by decide) (fun q => by omega) (fun _ _ => x18_tame))
 (fine_put 4 2 8 2 x19 rfl (by rw [x19_len]; decide) (by decide) (by decide) (fun _ K _ => x19_head K) (fun _ q => absurd rfl q))
 (fine_put 4 3 8 3 x20 rfl (by rw [x20_len]; decide) (by decide) (by decide) (fun q => by omega) (fun _ _ => x20_tame))
 (fine_put 4 0 8 0 [120] rfl (by decide) (by decide) (by decide) (fun _ K _ => one_head K) (fun q => absurd rfl q))
 (fine_out 4 8 8 [120] (by decide) (by decide))
theorem nil_record (w : World) : Calls Tryz.prog 7 #[.pointer none, .int .i64 1] w fun e w' => e = .returned (.tuple #[.slice none 0 0, .bool false]) ∧ w' = w := by
 go_enter Tryz.func7, Tryz.ntmps7
 go_wp2_with fail
 go_ret2
 exact ⟨rfl, rfl⟩
theorem nil_state (w : World) : Calls Tryz.prog 8 #[.pointer none] w fun e w' => e = .returned (.slice none 0 0) ∧ w' = w := by
 go_enter Tryz.func8, Tryz.ntmps8
 go_wp2_with fail
 go_ret
 exact ⟨rfl, rfl⟩
theorem nil_first (w : World) : Calls Tryz.prog 9 #[.pointer none] w fun e w' => e = .returned (.int .i64 0) ∧ w' = w := by
 go_enter Tryz.func9, Tryz.ntmps9
 go_wp2_with fail
 go_ret
 exact ⟨rfl, rfl⟩
theorem nil_next (w : World) : Calls Tryz.prog 10 #[.pointer none] w fun e w' => e = .returned (.int .i64 0) ∧ w' = w := by
 go_enter Tryz.func10, Tryz.ntmps10
 go_wp2_with fail
 go_ret
 exact ⟨rfl, rfl⟩
theorem nil_free (w : World) : Calls Tryz.prog 11 #[.pointer none] w fun e w' => e = .returned (.int .i64 0) ∧ w' = w := by
 go_enter Tryz.func11, Tryz.ntmps11
 go_wp2_with fail
 go_ret
 exact ⟨rfl, rfl⟩
theorem nil_broken (w : World) : Calls Tryz.prog 12 #[.pointer none] w fun e w' => e = .returned (.int .i64 1) ∧ w' = w := by
 go_enter Tryz.func12, Tryz.ntmps12
 go_wp2_with fail
 go_ret
 exact ⟨rfl, rfl⟩
theorem nil_asked (x y z : Value) (w : World) : Calls Tryz.prog 30 #[.pointer none, x, y, z] w fun e w' => e = .returned (.int .i64 1) ∧ w' = w := by
 go_enter Tryz.func30, Tryz.ntmps30
 go_wp2_with fail
 refine (nil_broken w).mono ?_
 rintro e wq ⟨rfl, hwq⟩
 subst hwq
 go_wp2_with fail
 refine (nil_broken wq).mono ?_
 rintro e wq2 ⟨rfl, hwq⟩
 subst hwq
 go_wp2_with fail
 go_ret
 exact ⟨rfl, rfl⟩
theorem nil_append (w : World) : Calls Tryz.prog 13 #[.pointer none, .slice none 0 0] w fun e w' => e = .returned (.int .i64 1) ∧ w' = w := by
 go_enter Tryz.func13, Tryz.ntmps13
 go_wp2_with fail
 refine (nil_free w).mono ?_
 rintro e wq ⟨rfl, rfl⟩
 go_wp2_with fail
 refine (nil_asked _ _ _ wq).mono ?_
 rintro e wq ⟨rfl, rfl⟩
 go_wp2_with fail
 go_ret
 exact ⟨rfl, rfl⟩
theorem nil_ck (w : World) : Calls Tryz.prog 14 #[.pointer none, .slice none 0 0] w fun e w' => e = .returned (.int .i64 1) ∧ w' = w := by
 go_enter Tryz.func14, Tryz.ntmps14
 go_wp2_with fail
 go_ret
 exact ⟨rfl, rfl⟩
theorem made_n (n : Nat) : (madeCells #[.int .u8 0] n).toList = u8s (List.replicate n 0) := by
 unfold madeCells u8s
 rw [Array.toList_map, Array.toList_range, List.map_replicate]
 apply List.ext_getElem
 ·simp
 ·intro i h1 h2
  simp [Nat.mod_one]
theorem wpList_make_n {ops : Array Oper} {rest : List Oper} {op : Oper} {a : Act} {w : World} {Q : Exit → Act → World → Prop} (n : Nat) (hn : n ≤ 2000000) (hgd : op.guard = none) (ho : op.op = .makeSlice 28 (.const (.int .i64 (n : Int))) (.const (.int .i64 (n : Int))))
  (h : ∀ w', Hid (Off (fun _ => False) w w' ∧ w.heap.size < w'.heap.size ∧ w'.rangeAt w.heap.size 0 (u8s (List.replicate n 0))) → wpList Tryz.prog ops Q rest (a.put op.dst (.slice (some ⟨w.heap.size, 0, none⟩) n n)) w') : wpList Tryz.prog ops Q (op :: rest) a w := by
 refine wpList_plain hgd fun K hK => ?_
 have hrun := run_make_row' (P := Tryz.prog) 28 5 (.int .u8 0) 1 Tryz.underlying28 info_u8 rfl .i64 .i64 n (by omega) (by omega) w
 unfold Oper.wp execOp
 simp only [ho, Act.eval, Sem.run_bind, hrun, Result.andThen_ok]
 exact hK _ _ (h _ ⟨off_grown (World.grownBy_alloc w _ none), by rw [World.size_alloc]; omega, range_blk (MapKept.heap_alloc w _).1 (made_n n)⟩)
theorem CJs.take {w0 w : World} {A : Option Addr} {l : List CallJ} (h : CJs w0 w A l) (n : Nat) : CJs w0 w A (l.take n) := by
 rcases h with rfl | ⟨g, off, h1, h2, h3⟩
 ·exact .inl (by simp)
 ·exact .inr ⟨g, off, h1, h2, fun j c hj => h3 j c (by
   rw [List.getElem?_take] at hj
   split at hj
   ·exact hj
   ·cases hj)⟩
theorem range_take {w : World} {g off : Nat} {l : List UInt8} (h : w.rangeAt g off (u8s l)) (k : Nat) : w.rangeAt g off (u8s (l.take k)) := fun j v hj => h j v (by
 unfold u8s at hj ⊢
 rw [List.map_take] at hj
 rw [List.getElem?_take] at hj
 split at hj
 ·exact hj
 ·cases hj)
theorem Both.app {w0 w w' : World} {S Sd S' Sd' : Nat → Prop} {d jb : Nat} {D D' : Dsk} {J J' : Jn} (h : Both w0 w S Sd d jb D J) (hj : JAt w' S' jb d J') (hd : DiskAt w' Sd' d D') (h1 : ∀ b, S' b → ¬ Sd' b) (h2 : ∀ b, S' b → S b ∨ w.heap.size ≤ b) (h3 : ∀ b, Sd' b → (Sd b ∨ w.heap.size ≤ b) ∧ b < w'.heap.size) (ho : Off (fun b => S b ∨ Sd b) w w') : Both w0 w' S' Sd' d jb D' J' := by
 have hs := h.off.size
 exact ⟨hd, hj, h1, fun b hb => (h3 b hb).2, fun b hb => (h3 b hb).1.elim (h.dnew b) (fun q => by omega), fun b hb => (h2 b hb).elim (h.jnew b) (fun q => by omega), h.off.trans (ho.mono (fun b _ hb => hb.elim (h.jnew b) (h.dnew b)))⟩
theorem great_disk (n : Nat) : (opened (freshDisk n) none).2.off = false ∧ (opened (freshDisk n) none).2.armed = none := ⟨rfl, rfl⟩
theorem great_put (D : Dsk) (l : List UInt8) (hn : D.n = 16384) (ho : D.off = false) (ha : D.armed = none) (hl : l.length = 700000) : ∃ D', putsE D (newJ.area * (D.n / 2) + (1 + newJ.used)) (putF 82 newJ.op (newJ.first + newJ.recs.length) l) (upto (parts l.length)) = (0, D') ∧ D'.n = 16384 := by
 refine ⟨_, putsE_live D _ _ ho ha _ ?_ (fun i hi => ?_), ?_⟩
 ·have h1 : newJ.area = 0 := rfl
  have h2 : newJ.used = 1 := rfl
  rw [hn, h1, h2, hl]
  unfold parts
  omega
 ·unfold putF
  exact sealB_length _ (by rw [partL_length _ _ _ _ _ _ (by unfold chunk; simp; omega)]; omega)
 ·exact (pushes_n ..).1.trans hn
theorem hundred_len : hundred.length = 102 := by rw [hundred, List.length_replicate]
theorem hundred_len2 : (hundred ++ [1, 2]).length = 104 := by rw [List.length_append, hundred_len]; rfl
theorem rng_stay {w w' : World} {g off : Nat} {l : List UInt8} (h : g < w.heap.size ∧ w.rangeAt g off (u8s l)) (ho : Off (fun _ => False) w w') : g < w'.heap.size ∧ w'.rangeAt g off (u8s l) :=
 ⟨Nat.lt_of_lt_of_le h.1 ho.size, fun j v hj => (Stay.of_off (B := 0) ho).cell _ _ (h.2 j v hj)⟩
theorem oper_append_full {o : Oper} {a : Act} {w : World} {K : Act → World → Prop} {Q : Exit → Act → World → Prop} (s x : Operand) (ho : o.op = .call { callee := .builtin .append, args := #[s, x], argTypes := #[28, 28] })
  (g n : Nat) (l : List UInt8) (hl : l.length = n) (hs : a.eval s = .slice (some ⟨g, 0, none⟩) n n) (hr : w.rangeAt g 0 (u8s l)) (g2 m c : Nat) (k : List UInt8) (hk : k.length = m) (hm : 0 < m) (hx : a.eval x = .slice (some ⟨g2, 0, none⟩) m c) (hr2 : w.rangeAt g2 0 (u8s k)) (hb : n + m < 100000)
  (h : ∀ g' c' w', Hid (Off (fun _ => False) w w' ∧ g' < w'.heap.size ∧ w'.rangeAt g' 0 (u8s (l ++ k)) ∧ n + m ≤ c' ∧ c' ≤ maxLen) → K (a.put o.dst (.slice (some ⟨g', 0, none⟩) (n + m) c')) w') : Oper.wp Tryz.prog o a w K Q := by
 obtain ⟨i0, hi0, he⟩ := Option.map_eq_some_iff.1 info_byte
 simp only [Prod.mk.injEq] at he
 obtain ⟨v', w', hrun, r1, r2⟩ := run_append_arg_grows (P := Tryz.prog) w 28 o.type 5 i0 (.int .u8 0) 1 1 Tryz.underlying28 hi0 he.1 he.2.1 he.2.2 rfl (by decide) ⟨g, 0, none⟩ n n (u8s l) (by simp [u8s, hl]) (fun j u hj => by rw [Addr.add_lit]; exact hr j u hj) ⟨g2, 0, none⟩ m c (u8s k) (by simp [u8s, hk]) (fun j u hj => by rw [Addr.add_lit]; exact hr2 j u hj) (by omega) (by unfold maxLen; omega) (by omega)
 have hbr : BRow w' w.heap.size v' (l ++ k) := by
  unfold BRow
  rw [List.length_append, u8s_app, hl, hk]
  exact r1
 obtain ⟨g', c', hv, h1, h2, h3, h4, h5⟩ := hbr.some (fun q => by
  have := congrArg List.length q
  rw [List.length_append, hk] at this
  simp at this
  omega)
 rw [List.length_append, hl, hk] at hv h1
 subst hv
 unfold Oper.wp
 simp [execOp, ho, resolve, invoke, builtin, hs, hx, hrun, Result.andThen]
 exact h g' c' w' ⟨off_grown r2, h4, h5, h1, h2⟩
theorem known_walk (w : World) : Calls Tryz.prog 3 #[] w fun e w' => e = .returned (.bool true) ∧ Below w.heap.size w w' := by
 obtain ⟨s, hs⟩ : ∃ x, x = w := ⟨_, rfl⟩
 have FIN : Hid (∀ w' : World, Off (fun b => s.heap.size ≤ b) s w' → Below w.heap.size w w') := fun w' h => by rw [← hs]; exact off_to_below (Off.zero h)
 have HS : Hid (Off (fun b => s.heap.size ≤ b) s w) := by rw [hs]; exact Off.refl _ _
 clear hs
 go_enter Tryz.func3, Tryz.ntmps3
 go_wp2_with fail
 refine (open_nil w).mono ?_
 rintro e wq ⟨rfl, hwq⟩
 rw [← hwq]
 clear hwq wq
 go_wp2_with fail
 refine (new_at 3 w).mono ?_
 rintro e v0 ⟨d, rfl, hd, ho⟩
 have HO0 : Hid (Off (fun b => s.heap.size ≤ b) s v0) := HS.out.trans (ho.mono (fun _ _ q => q.elim))
 clear ho
 go_wp2_with fail
 refine (open_small _ d _ v0 hd (by decide)).mono ?_
 rintro e wq ⟨rfl, hwq⟩
 rw [← hwq]
 clear hd hwq wq
 go_wp2_with fail
 refine (new_at 8 v0).mono ?_
 rintro e v1 ⟨d1, rfl, hd, ho⟩
 have HO1 : Hid (Off (fun b => s.heap.size ≤ b) s v1) := HO0.out.trans (ho.mono (fun _ _ q => q.elim))
 have HD1 := Lib.hid hd
 have HZ := Lib.hid HO0.out.size
 clear ho hd HO0
 go_wp2_with fail
 refine (crash_at _ d1 _ v1 HD1.out).mono ?_
 rintro e v2 ⟨rfl, hd, ho⟩
 have HD2 := Lib.hid hd
 have HO2 : Hid (Off (fun b => s.heap.size ≤ b) s v2) := HO1.out.trans (ho.mono (fun b _ hb => by have := HZ.out; omega))
 clear ho hd HO1 HD1 HZ
 go_wp2_with fail
 refine (open_off _ d1 _ v2 HD2.out (by decide) rfl).mono ?_
 rintro e wq ⟨rfl, hwq⟩
 rw [← hwq]
 clear HD2 hwq wq
 go_wp2_with fail
 refine (nil_record v2).mono ?_
 rintro e wq ⟨rfl, hwq⟩
 rw [hwq]
 clear hwq wq
 go_wp2_with fail
 refine (nil_state v2).mono ?_
 rintro e wq ⟨rfl, hwq⟩
 rw [hwq]
 clear hwq wq
 go_wp2_with fail
 refine (nil_first v2).mono ?_
 rintro e wq ⟨rfl, hwq⟩
 rw [hwq]
 clear hwq wq
 go_wp2_with fail
 refine (nil_next v2).mono ?_
 rintro e wq ⟨rfl, hwq⟩
 rw [hwq]
 clear hwq wq
 go_wp2_with fail
 refine (nil_free v2).mono ?_
 rintro e wq ⟨rfl, hwq⟩
 rw [hwq]
 clear hwq wq
 go_wp2_with fail
 refine (nil_broken v2).mono ?_
 rintro e wq ⟨rfl, hwq⟩
 rw [hwq]
 clear hwq wq
 go_wp2_with fail
 refine (nil_append v2).mono ?_
 rintro e wq ⟨rfl, hwq⟩
 rw [hwq]
 clear hwq wq
 go_wp2_with fail
 refine (nil_ck v2).mono ?_
 rintro e wq ⟨rfl, hwq⟩
 rw [hwq]
 clear hwq wq
 go_wp2_with fail
 refine (new_at 16384 v2).mono ?_
 rintro e v3 ⟨d, rfl, hd, ho⟩
 rw [show (max 0 (min 16384 (16384 : Int))).toNat = 16384 by decide] at hd
 have hd2 : DiskAt v3 (fun b => v2.heap.size ≤ b ∧ b < v3.heap.size) d (freshDisk 16384) := hd.mono (fun k hk h => ⟨h, hk⟩)
 have HO3 : Hid (Off (fun b => s.heap.size ≤ b) s v3) := HO2.out.trans (ho.mono (fun _ _ q => q.elim))
 have HZ := Lib.hid HO2.out.size
 have HOP := Lib.hid (open_fresh _ d 16384 v3 hd2 (fun b h => h.2) (by decide))
 clear hd hd2 ho HO2
 go_wp2_with fail
 refine HOP.out.mono ?_
 rintro e v4 ⟨jb, Sj, Sd, rfl, hj, hd, hs1, hs2, ho1⟩
 have hb := Both.fresh (w0 := s) HO3.out (fun _ h => by have := HZ.out; omega) hj hd hs1 hs2 ho1
 have hgo := great_disk 16384
 have hgn := opened_n 16384
 obtain ⟨E, hE⟩ : ∃ E, E = (opened (freshDisk 16384) none).2 := ⟨_, rfl⟩
 rw [← hE] at hb hgo hgn
 have HB4 := Lib.hid hb
 have HGO := Lib.hid hgo
 have HGN := Lib.hid hgn
 clear hj hd hs1 hs2 ho1 hb hgo hgn hE HOP HZ HO3
 go_wp2_with (first | (at_make; refine wpList_make_n 1048577 (by decide) rfl rfl ?_; intro wn Hn; go_frame) | fail)
 obtain ⟨hn1, hn2, hn3⟩ := Hn.out
 have hb5 := HB4.out.new hn1
 have hgd : ¬ Sd v4.heap.size := fun q => by have := HB4.out.slt _ q; omega
 have hgj : v4.heap.size ≠ jb := fun q => by
  obtain ⟨_, _, _, hji⟩ := HB4.out.jnl
  have := hji.lt _ hji.own.1
  omega
 obtain ⟨L, hL⟩ : ∃ L : List UInt8, L = List.replicate 1048577 0 := ⟨_, rfl⟩
 have hLl : L.length = 1048577 := by rw [hL, List.length_replicate]
 rw [← hL] at hn3
 obtain ⟨g, hg⟩ : ∃ x, x = v4.heap.size := ⟨_, rfl⟩
 rw [← hg] at hn2 hn3 hgd hgj
 rw [← hg]
 have HG := Lib.hid (And.intro hgd (And.intro hgj (And.intro (Nat.lt_of_lt_of_le hn2 (Nat.le_refl _)) hn3)))
 have HB5 := Lib.hid hb5
 have HL := Lib.hid hLl
 clear hn1 hn2 hn3 hb5 hgd hgj hL hLl hg Hn HB4
 have h0 := append_limit Sd Sj d jb E newJ L (some ⟨g, 0, none⟩) 1048577 wn HB5.out.disk HB5.out.jnl (by rw [HGN.out.1]; decide) (by rw [HGN.out.1]; decide) (by rw [HL.out]; decide) (by rw [HL.out]; decide) (by rw [HL.out]; exact Nat.le_refl _) (by decide)
 rw [HL.out] at h0
 refine h0.mono ?_
 rintro e wq ⟨rfl, m1, hwq⟩
 clear h0
 have HB6 : Hid (Both s wq Sj Sd d jb E newJ) := by rw [hwq]; exact HB5.out.new (off_drew wn m1)
 have HG6 : Hid (¬ Sd g ∧ g ≠ jb ∧ g < wq.heap.size ∧ wq.rangeAt g 0 (u8s L)) := by rw [hwq]; exact HG.out
 clear hwq HB5 HG
 go_wp2_with fail
 have h0 := append_no Sd Sj d jb E newJ (L.drop 1) (some ⟨g, 1, none⟩) 1048576 wq HB6.out.disk HB6.out.jnl (by rw [HGN.out.1]; decide) (by rw [HGN.out.1]; decide) (by rw [List.length_drop, HL.out]; decide) (by rw [List.length_drop, HL.out]; decide) (by decide) (by rw [List.length_drop, HL.out, HGN.out.1]; decide)
 rw [List.length_drop, HL.out] at h0
 refine h0.mono ?_
 rintro e w7 ⟨rfl, m1, hwq⟩
 clear h0
 have HB7 : Hid (Both s w7 Sj Sd d jb E newJ) := by rw [hwq]; exact HB6.out.new (off_drew wq m1)
 have HG7 : Hid (¬ Sd g ∧ g ≠ jb ∧ g < w7.heap.size ∧ w7.rangeAt g 0 (u8s L)) := by rw [hwq]; exact HG6.out
 clear hwq HB6 HG6
 go_wp2_with fail
 have hLt : (L.take 700000).length = 700000 := by rw [List.length_take, HL.out]; decide
 obtain ⟨E2, hput, hEn⟩ := great_put E (L.take 700000) HGN.out.1 HGO.out.1 HGO.out.2 hLt
 have h0 := append_ok E2 Sd Sj d jb E newJ (L.take 700000) (some ⟨g, 0, none⟩) 1048577 w7 HB7.out.disk HB7.out.slt HB7.out.jnl HB7.out.apart (by rw [HGN.out.2.1]; decide) (by rw [HGN.out.1]; decide) (by decide) (by rw [HGN.out.1]; decide) (by rw [hLt]; decide) (by rw [hLt]; decide) (by decide) (by rw [hLt, HGN.out.1]; decide) hput (by decide) (by decide) (.inr ⟨g, 0, rfl, HG7.out.2.2.1, fun q => q.elim HG7.out.1 HG7.out.2.1, range_take HG7.out.2.2.2 _⟩)
 rw [hLt] at h0
 have HEN := Lib.hid hEn
 clear hput hEn hLt
 refine h0.mono ?_
 rintro e w8 ⟨rfl, S', Sd', hj, hd, h1, h2, h3, ho⟩
 clear h0
 have HB8 := Lib.hid (HB7.out.app hj hd h1 h2 h3 ho)
 clear hj hd h1 h2 h3 ho HB7 HG7
 go_wp2_with fail
 have h0 := ck_limit Sd' S' d jb E2 (newJ.app (L.take 700000)) L (some ⟨g, 0, none⟩) 1048577 w8 HB8.out.disk HB8.out.jnl (by rw [HEN.out]; decide) (by rw [HL.out]; decide) (by rw [HL.out]; decide) (by rw [HL.out]; exact Nat.le_refl _) (by decide)
 rw [HL.out] at h0
 refine h0.mono ?_
 rintro e w9 ⟨rfl, m1, hwq⟩
 clear h0
 have HB9 : Hid (Both s w9 S' Sd' d jb E2 (newJ.app (L.take 700000))) := by rw [hwq]; exact HB8.out.new (off_drew w8 m1)
 clear hwq HB8
 go_wp2_with fail
 have h0 := ck_no Sd' S' d jb E2 (newJ.app (L.take 700000)) (L.drop 1) (some ⟨g, 1, none⟩) 1048576 w9 HB9.out.disk HB9.out.jnl (by rw [HEN.out]; decide) (by rw [List.length_drop, HL.out]; decide) (by rw [List.length_drop, HL.out]; decide) (by decide) (by rw [List.length_drop, HL.out, HEN.out]; decide)
 rw [List.length_drop, HL.out] at h0
 refine h0.mono ?_
 rintro e w10 ⟨rfl, m1, hwq⟩
 clear h0
 have HB10 : Hid (Both s w10 S' Sd' d jb E2 (newJ.app (L.take 700000))) := by rw [hwq]; exact HB9.out.new (off_drew w9 m1)
 clear hwq HB9
 go_wp2_with fail
 obtain ⟨sv, rv, vs, hji⟩ := HB10.out.jnl
 obtain ⟨A9, c9, hrv, _, _⟩ := row_len hji.rows
 have h0 := next_e jb d (newJ.app (L.take 700000)) sv rv A9 1 c9 hrv (by show 1 + 1 < 9223372036854775808; decide) w10 hji.blk
 have e2 : (((newJ.app (L.take 700000)).first + 1 : Nat) : Int) = 2 := rfl
 rw [e2] at h0
 clear e2
 clear hji hrv
 refine h0.mono ?_
 rintro e w11 ⟨rfl, m1, hwq⟩
 clear h0
 have HO11 : Hid (Off (fun b => s.heap.size ≤ b) s w11) := by rw [hwq]; exact HB10.out.off.trans ((off_drew w10 m1).mono (fun _ _ q => q.elim))
 clear hwq HB10 HEN HL HGO HGN
 go_wp2_with (first | (at_make; refine wpList_make_n 102 (by decide) rfl rfl ?_; intro wn2 Hn; go_frame) | fail)
 obtain ⟨hn1, hn2, hn3⟩ := Hn.out
 obtain ⟨g2, hg⟩ : ∃ x, x = w11.heap.size := ⟨_, rfl⟩
 rw [← hg] at hn2 hn3
 rw [← hg]
 have HO12 : Hid (Off (fun b => s.heap.size ≤ b) s wn2) := HO11.out.trans (hn1.mono (fun _ _ q => q.elim))
 have HH : Hid (Sp.Ok wn2.heap.size wn2 (.slice (some ⟨g2, 0, none⟩) 102 102) (.byt hundred)) := ⟨some ⟨g2, 0, none⟩, 102, rfl, .inr ⟨g2, 0, rfl, hn2, hn2, hn3⟩, by decide, by decide⟩
 have HR12 : Hid (g2 < wn2.heap.size ∧ wn2.rangeAt g2 0 (u8s hundred)) := ⟨hn2, hn3⟩
 clear hn1 hn2 hn3 hg Hn HO11
 refine reg15 _ (by kernel_rfl) _ _ _ _ _ _ _ _ _ _ _ _ _ _ _ _ _ _ _ _ _ _ _ _ _ _ _ _ _ _ _ _ _ _ _ _ _ _ _ _ _ _ _ _ _ _ _ _ _ _ _ _ _ _ _ _ _ _ _ _ _ _ _ _ _ _ _ _ _ _ _ _ _ _ _ _ _ _ _ _ _ _ _ _ _ _ _ _ _ _ _ _ _ _ _ _ _ _ _ _ _ _ _ _ _ _ _ _ _ _ _ _ _ _ _ _ _ _ _ _ _ _ _ _ _ _ _ _ _ _ _ _ _ _ _ _ _ _ _ _ _ _ _ _ _ _ _ _ _ _ _ _ _ _ _ _ _ _ _ _ _ _ _ _ _ _ _ _ _ _ _ _ _ _ _ _ _ _ _ _ _ _ _ _ _ _ _ _ _ _ _ _ _ _ _ _ _ _ _ _ _ _ _ _ _ _ _ _ _ _ _ _ _ _ _ _ _ _ _ _ _ _ _ _ _ _ _ _ _ _ _ _ _ _ _ _ _ HH.out ?_
 intro y135 y136 y137 y138 y139 y140 y141 y142 y143 y144 y145 y146 y147 y148 y149 y150 y151 y152 y153 y154 y155 y156 y157 y158 y159 y160 y161 y162 y163 y164 y165 y166 y167 y168 y169 y170 y171 y172 y173 y174 y175 y176 y177 y178 y179 y180 y181 y182 y183 y184 y185 y186 y187 y188 y189 y190 y191 y192 y193 y194 y195 y196 y197 y198 y199 y200 y201 y202 y203 y204 y205 y206 y207 y208 y209 y210 y211 y212 y213 y214 y215 y216 y217 y218 y219 y220 y221 y222 y223 y224 y225 y226 y227 y228 y229 y230 y231 y232 y233 A cap w13 ho hcj hc1 hc2
 have HO13 : Hid (Off (fun b => s.heap.size ≤ b) s w13) := HO12.out.trans (ho.mono (fun _ _ q => q.elim))
 have HR13 := Lib.hid (rng_stay HR12.out ho)
 have HCJ13 := Lib.hid hcj
 have HC := Lib.hid (And.intro hc1 hc2)
 have hA : ∃ g3 o3, A = some ⟨g3, o3, none⟩ := by
  rcases hcj with q | ⟨g3, o3, q, _⟩
  ·exact absurd q (by decide)
  ·exact ⟨g3, o3, q⟩
 obtain ⟨g3, o3, rfl⟩ := hA
 have i1 : (25 : Int) ≤ (cap : Int) := by omega
 clear ho hcj HH HO12 HR12 hc2
 go_wp2_with fail
 have h0 : Calls Tryz.prog 17 #[.int .i64 16, .slice (some ⟨g3, o3, none⟩) 25 cap] w13 (fun e w' => e = .returned (.bool true) ∧ Off (fun _ => False) w13 w') := plays_walk 16 (by decide) (by decide) w13 row25 (some ⟨g3, o3, none⟩) cap HCJ13.out HC.out.1 HC.out.2 row25_small row25_16
 refine h0.mono ?_
 rintro e w14 ⟨rfl, ho⟩
 clear h0
 have HO14 : Hid (Off (fun b => s.heap.size ≤ b) s w14) := HO13.out.trans (ho.mono (fun _ _ q => q.elim))
 have HR14 := Lib.hid (rng_stay HR13.out ho)
 have HCJ14 := Lib.hid (HCJ13.out.stay (Stay.of_off (B := 0) ho))
 clear ho HO13 HR13 HCJ13
 go_wp2_with fail
 have h0 : Calls Tryz.prog 17 #[.int .i64 8, .slice (some ⟨g3, o3, none⟩) 25 cap] w14 (fun e w' => e = .returned (.bool true) ∧ Off (fun _ => False) w14 w') := plays_walk 8 (by decide) (by decide) w14 row25 (some ⟨g3, o3, none⟩) cap HCJ14.out HC.out.1 HC.out.2 row25_small row25_8
 refine h0.mono ?_
 rintro e w15 ⟨rfl, ho⟩
 clear h0
 have HO15 : Hid (Off (fun b => s.heap.size ≤ b) s w15) := HO14.out.trans (ho.mono (fun _ _ q => q.elim))
 have HR15 := Lib.hid (rng_stay HR14.out ho)
 have HCJ15 := Lib.hid (HCJ14.out.stay (Stay.of_off (B := 0) ho))
 clear ho HO14 HR14 HCJ14
 go_wp2_with fail
 have h0 : Calls Tryz.prog 17 #[.int .i64 5, .slice (some ⟨g3, o3, none⟩) 25 cap] w15 (fun e w' => e = .returned (.bool true) ∧ Off (fun _ => False) w15 w') := plays_walk 5 (by decide) (by decide) w15 row25 (some ⟨g3, o3, none⟩) cap HCJ15.out HC.out.1 HC.out.2 row25_small row25_5
 refine h0.mono ?_
 rintro e w16 ⟨rfl, ho⟩
 clear h0
 have HO16 : Hid (Off (fun b => s.heap.size ≤ b) s w16) := HO15.out.trans (ho.mono (fun _ _ q => q.elim))
 have HR16 := Lib.hid (rng_stay HR15.out ho)
 have HCJ16 := Lib.hid (HCJ15.out.stay (Stay.of_off (B := 0) ho))
 clear ho HO15 HR15 HCJ15
 go_wp2_with fail
 have h0 : Calls Tryz.prog 17 #[.int .i64 4, .slice (some ⟨g3, o3, none⟩) 25 cap] w16 (fun e w' => e = .returned (.bool true) ∧ Off (fun _ => False) w16 w') := plays_walk 4 (by decide) (by decide) w16 row25 (some ⟨g3, o3, none⟩) cap HCJ16.out HC.out.1 HC.out.2 row25_small row25_4
 refine h0.mono ?_
 rintro e w17 ⟨rfl, ho⟩
 clear h0
 have HO17 : Hid (Off (fun b => s.heap.size ≤ b) s w17) := HO16.out.trans (ho.mono (fun _ _ q => q.elim))
 have HR17 := Lib.hid (rng_stay HR16.out ho)
 have HCJ17 := Lib.hid (HCJ16.out.stay (Stay.of_off (B := 0) ho))
 clear ho HO16 HR16 HCJ16
 go_wp2_with fail
 have h0 : Calls Tryz.prog 18 #[.int .u8 8, .slice (some ⟨g3, o3, none⟩) 13 cap, .int .u8 3, .int .u8 1, .int .u8 0] w17 (fun e w' => e = .returned (.bool true) ∧ Below w17.heap.size w17 w') := cuts_walk w17 (row25.take 13) (some ⟨g3, o3, none⟩) cap 8 3 1 0 (HCJ17.out.take 13) (Nat.le_trans (by decide) HC.out.1) HC.out.2
 refine h0.mono ?_
 rintro e w18 ⟨rfl, ho⟩
 clear h0
 have HO18 : Hid (Off (fun b => s.heap.size ≤ b) s w18) := HO17.out.trans ((off_below ho).mono (fun _ _ q => q.elim))
 have HR18 := Lib.hid (rng_stay HR17.out (off_below ho))
 have HCJ18 := Lib.hid (HCJ17.out.stay (Stay.of_off (B := 0) (off_below ho)))
 clear ho HO17 HR17 HCJ17
 go_wp2_with fail
 have h0 : Calls Tryz.prog 18 #[.int .u8 8, .slice (some ⟨g3, o3, none⟩) 13 cap, .int .u8 8, .int .u8 1, .int .u8 1] w18 (fun e w' => e = .returned (.bool true) ∧ Below w18.heap.size w18 w') := cuts_walk w18 (row25.take 13) (some ⟨g3, o3, none⟩) cap 8 8 1 1 (HCJ18.out.take 13) (Nat.le_trans (by decide) HC.out.1) HC.out.2
 refine h0.mono ?_
 rintro e w19 ⟨rfl, ho⟩
 clear h0
 have HO19 : Hid (Off (fun b => s.heap.size ≤ b) s w19) := HO18.out.trans ((off_below ho).mono (fun _ _ q => q.elim))
 have HR19 := Lib.hid (rng_stay HR18.out (off_below ho))
 have HCJ19 := Lib.hid (HCJ18.out.stay (Stay.of_off (B := 0) (off_below ho)))
 clear ho HO18 HR18 HCJ18
 obtain ⟨wx, hwx⟩ : ∃ x, x = w19.alloc (.cells #[.int .u8 1, .int .u8 2] 5) := ⟨_, rfl⟩
 have hgx := off_grown (World.grownBy_alloc w19 (.cells #[.int .u8 1, .int .u8 2] 5) none)
 have hrx : (w19.alloc (.cells #[.int .u8 1, .int .u8 2] 5)).rangeAt w19.heap.size 0 (u8s [1, 2]) := range_blk (MapKept.heap_alloc w19 (.cells #[.int .u8 1, .int .u8 2] 5)).1 rfl
 have HX := Lib.hid (And.intro hgx (And.intro hrx (rng_stay HR19.out hgx)))
 clear hgx hrx hwx wx
 go_wp2_with fail
 refine oper_append_full _ _ rfl g2 102 hundred rfl rfl HX.out.2.2.2 w19.heap.size 2 2 [1, 2] rfl (by decide) rfl HX.out.2.1 (by decide) ?_
 intro g5 c5 w20 Hn5
 have HO20 : Hid (Off (fun b => s.heap.size ≤ b) s w20) := HO19.out.trans ((HX.out.1.trans Hn5.out.1).mono (fun _ _ q => q.elim))
 have HR20 := Lib.hid (rng_stay (rng_stay HR19.out HX.out.1) Hn5.out.1)
 clear HO19 HR19 HCJ19 HX
 go_wp2_with fail
 have h0 := forged_walk w20 hundred (hundred ++ [1, 2]) (some ⟨g2, 0, none⟩) (some ⟨g5, 0, none⟩) 102 c5 1 1 (by rw [hundred_len]; exact ⟨Nat.le_refl _, by decide⟩) (by rw [hundred_len2]; exact ⟨Hn5.out.2.2.2.1, Hn5.out.2.2.2.2⟩) (.inr ⟨g2, 0, rfl, HR20.out.1, HR20.out.1, HR20.out.2⟩) (.inr ⟨g5, 0, rfl, Hn5.out.2.1, Hn5.out.2.1, Hn5.out.2.2.1⟩)
 rw [hundred_len, hundred_len2] at h0
 refine h0.mono ?_
 rintro e w21 ⟨rfl, ho⟩
 clear h0
 have HO21 : Hid (Off (fun b => s.heap.size ≤ b) s w21) := HO20.out.trans ((off_below ho).mono (fun _ _ q => q.elim))
 clear ho HO20 HR20 Hn5
 go_wp2_with fail
 refine (works_at w21).mono ?_
 rintro e w22 ⟨rfl, ho⟩
 have HO22 : Hid (Off (fun b => s.heap.size ≤ b) s w22) := HO21.out.trans (ho.mono (fun _ _ q => q.elim))
 clear ho HO21
 go_wp2_with fail
 go_ret
 exact ⟨rfl, FIN.out _ HO22.out⟩
end Go.Proofs.YtgdedgfohjplmaaGreat.Jnl
