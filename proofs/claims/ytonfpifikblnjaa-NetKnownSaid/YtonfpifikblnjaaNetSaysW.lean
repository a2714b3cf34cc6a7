/- NetSays: the walk. -/
import Derived.Test.YtonfpifikblnjaaNetAlike
import Derived.Test.YtonfpifikblnjaaNetDoesOwn
namespace Go.Proofs.Ytonfpifikblnjaa.Net
open Go.RowKit

/-- A net, and the document's, among blocks of their own. -/
structure Duo (w wr : World) (na m : Nat) (S T : Nat → Prop) (D : Nt) (R : Rf) : Prop where
  a : NetAt wr S na D
  b : RefAt wr T m R
  apart : ∀ x, S x → ¬ T x
  fromA : ∀ x, S x → w.heap.size ≤ x
  fromB : ∀ x, T x → w.heap.size ≤ x
  off : Off (fun x => w.heap.size ≤ x) w wr
section
variable {w wr v : World} {na m : Nat} {S T S1 T1 : Nat → Prop} {D D1 : Nt} {R R1 : Rf}
theorem Duo.turnA (h : Duo w wr na m S T D R) (hn : NetAt v S1 na D1) (ht : Turn S S1 wr v) : Duo w v na m S1 T D1 R := by
  have hs := h.off.size
  refine ⟨hn, h.b.other ht.off.toOff (fun x hx hy => h.apart x hy hx), fun x hx hy => ?_, fun x hx => ?_, h.fromB, h.off.trans (ht.off.toOff.mono (fun x _ hx => h.fromA x hx))⟩
  · rcases ht.sub x hx with e | e
    · exact h.apart x e hy
    · have := h.b.lt x hy; omega
  · rcases ht.sub x hx with e | e
    · exact h.fromA x e
    · omega
theorem Duo.turnB (h : Duo w wr na m S T D R) (hn : RefAt v T1 m R1) (ht : RTurn T T1 wr v) : Duo w v na m S T1 D R1 := by
  have hs := h.off.size
  refine ⟨h.a.other ht.off (fun x hx hy => h.apart x hx hy), hn, fun x hx hy => ?_, h.fromA, fun x hx => ?_, h.off.trans (ht.off.mono (fun x _ hx => h.fromB x hx))⟩
  · rcases ht.sub x hy with e | e
    · exact h.apart x hx e
    · have := h.a.lt x hx; omega
  · rcases ht.sub x hx with e | e
    · exact h.fromB x e
    · omega
theorem Duo.grown (h : Duo w wr na m S T D R) (hg : wr.grownBy v none) : Duo w v na m S T D R := h.turnA (h.a.grown hg) (Turn.begin_ h.a.lt hg)
end

theorem Bytes.apart {w w' : World} {S U : Nat → Prop} {A : Option Addr} {l : List UInt8} (h : Bytes w S A l) (ho : Off U w w') (hS : ∀ b, S b → ¬ U b) : Bytes w' S A l := by
  rcases h with e | ⟨g, off, e, hs, hT, hr⟩
  · exact .inl e
  · have hb := ho.block g hT.lt (hS g hs)
    exact .inr ⟨g, off, e, hs, let ⟨C, fr, hC⟩ := hT; ⟨C, fr, hb.trans hC⟩, fun j u hj => (World.cell?_of_block (a := ⟨g, off + j, none⟩) hb).trans (hr j u hj)⟩

set_option maxRecDepth 100000 in
set_option maxHeartbeats 8000000 in
theorem says_walk (ends : Int) (A : Option Addr) (l : List ActV) (cap : Nat) (w : World) (h : ActsAt w (fun b => w.heap.size ≤ b) A l) (hc1 : l.length ≤ cap) (hc2 : cap ≤ maxLen) :
    Calls Try.prog 4 #[.int .i64 ends, .slice A l.length cap] w fun e w' => e = .returned (.bool true) ∧ Below w.heap.size w w' := by
  have FIN : Hid (∀ w' : World, Off (fun b => w.heap.size ≤ b) w w' → Below w.heap.size w w') := fun w' h => h.below (Nat.le_refl _) (fun k hk h => by omega)
  have HF := Lib.hid (few_at _ A l cap 350 w h hc1 hc2)
  have HA := Lib.hid h
  obtain ⟨r, hr⟩ : ∃ r, r = fewB l 350 := ⟨_, rfl⟩
  rw [← hr] at HF
  have HR := Lib.hid hr
  clear h hc1 hc2 hr
  go_enter Try.func4, Try.ntmps4
  go_wp2_with fail
  refine HF.out.mono ?_
  rintro e w' ⟨rfl, rfl⟩
  cases r
  case false =>
    go_wp2_with fail
    refine (works_at w').mono ?_
    rintro e w2 ⟨rfl, hg⟩
    have HG := Lib.hid hg
    clear hg
    go_wp2_with fail
    go_ret
    exact ⟨rfl, FIN.out _ (Off.of_grown HG.out (by simp))⟩
  obtain ⟨hl350, hl100⟩ := fewB_true HR.out.symm
  have HL := Lib.hid (And.intro hl350 hl100)
  clear HF HR hl350 hl100
  go_wp2_with fail
  refine (new_at ends w').mono ?_
  rintro e w0 ⟨na, rfl, hna, hg0⟩
  have HNA := Lib.hid hna
  have HG0 := Lib.hid hg0
  clear hna hg0
  go_wp2_with fail
  refine (rnew_at ends w0).mono ?_
  rintro e w1 ⟨m, rfl, hnb, hg1⟩
  generalize (max 1 (min 64 ends)).toNat = n at hnb HNA
  have HP : Hid (Duo w' w1 na m (fun b => w'.heap.size ≤ b ∧ b < w0.heap.size) (fun b => w0.heap.size ≤ b ∧ b < w1.heap.size) (fresh n) (rfresh n)) :=
    ⟨HNA.out.grown hg1, hnb, fun x hx hy => by have := hx.2; have := hy.1; omega, fun x hx => hx.1, fun x hx => Nat.le_trans HG0.out.size hx.1, (Off.of_grown HG0.out (by simp)).trans (Off.of_grown hg1 (by simp))⟩
  clear hnb hg1 HNA HG0
  go_wp2_with fail
  go_loopw [7] (fun iv wr => ∃ (k : Nat) (S T : Nat → Prop) (D : Nt) (R : Rf), k ≤ l.length ∧ iv = .int .i64 (k : Int) ∧ Duo w' wr na m S T D R ∧ Rel D R ∧ R.all.length ≤ k) (fun iv _ => l.length - (intOf iv).toNat)
  case atStart => exact ⟨0, _, _, _, _, Nat.zero_le _, rfl, HP.out, rel_fresh n, Nat.le_refl _⟩
  case round =>
    obtain ⟨k, S, T, D, R, hk, rfl, hP, hE, hall⟩ := hrel
    clear HP
    have HP := Lib.hid hP
    have HE := Lib.hid hE
    have HAL := Lib.hid hall
    clear hP hE hall
    by_cases hlt : k < l.length
    · have hkd : decide ((k : Int) < (l.length : Int)) = true := by simp; omega
      have hkd2 : decide (k < l.length) = true := by simpa using hlt
      have k0 : (0 : Int) ≤ (k : Int) := by omega
      have k1 : (k : Int) < (l.length : Int) := by omega
      obtain ⟨ga, off, c, rfl, hc, hga, hgalt, a0, a1, a2, a3⟩ := (HA.out.off HP.out.off).at_ hlt
      have hcb : c.b.length ≤ 1000 := by have := HL.out.2 c (List.mem_of_getElem? hc); omega
      have HDA := Lib.hid (does_own S na D c wr HP.out.a hcb)
      have hok : R.OK := HE.out.ok HP.out.a.ok (by have := HAL.out; have := HL.out.1; omega)
      have HOK := Lib.hid hok
      have HLT := Lib.hid hlt
      have HCB := Lib.hid hcb
      have HAT : Hid (ActAt wr ga (off + k * 4) c) := ⟨a0, a1, a2, a3⟩
      have HNG : Hid (¬ w'.heap.size ≤ ga) := hga
      have HDOES := Lib.hid (rel_does HE.out HP.out.a.ok c)
      clear hc hga hgalt hlt hcb hok
      go_wp2_with fail
      refine HDA.out.mono ?_
      rintro e v ⟨Ap, capp, rfl, hby, S1, hna, hta⟩
      have HPA := Lib.hid (HP.out.turnA hna hta)
      have hat := HAT.out.off hta.off.toOff (fun hs => HNG.out (HP.out.fromA _ hs))
      have HAT2 := Lib.hid hat
      have HBY := Lib.hid hby
      obtain ⟨code, hcode⟩ : ∃ code, code = (D.does c).1.1 := ⟨_, rfl⟩
      obtain ⟨pk, hpk⟩ : ∃ pk, pk = (D.does c).1.2.getD ⟨0, 0, []⟩ := ⟨_, rfl⟩
      obtain ⟨is, his⟩ : ∃ is, is = (D.does c).1.2.isSome := ⟨_, rfl⟩
      rw [← hpk] at HBY
      rw [← hcode, ← hpk, ← his]
      have HHAS : Hid ((R.has c).1.1 = code ∧ (R.has c).1.2.getD ⟨0, 0, []⟩ = pk ∧ (R.has c).1.2.isSome = is) := by
        rw [hcode, hpk, his, HDOES.out.1]; exact ⟨rfl, rfl, rfl⟩
      clear hat hby hcode hpk his a0 a1 a2 a3 hna hta HDA
      go_upto_region 8 with fail
      have hgv := World.grownBy_alloc v (.cells #[.int .i64 pk.src, .int .i64 pk.to, .slice Ap pk.b.length capp] 37) none
      have hbv := (MapKept.heap_alloc v (.cells #[.int .i64 pk.src, .int .i64 pk.to, .slice Ap pk.b.length capp] 37)).1
      obtain ⟨v1, hv1⟩ : ∃ v1, v1 = v.alloc (.cells #[.int .i64 pk.src, .int .i64 pk.to, .slice Ap pk.b.length capp] 37) := ⟨_, rfl⟩
      rw [← hv1] at hgv hbv ⊢
      have HV := Lib.hid hv1
      have HP1 := Lib.hid (HPA.out.grown hgv)
      have HB1 := Lib.hid (HBY.out.grown hgv)
      have HGP := Lib.hid hbv
      have hgplt : ∀ x, T x → x < v.heap.size := HPA.out.b.lt
      have HTP := Lib.hid hgplt
      obtain ⟨gp, hgp⟩ : ∃ gp, gp = v.heap.size := ⟨_, rfl⟩
      rw [← hgp] at HGP HTP ⊢
      have HAT3 := Lib.hid (HAT2.out.off (Off.of_grown hgv (S := fun _ => False) (by simp)) (fun x => x))
      have HH := Lib.hid (has_at T m R c v1 HP1.out.b HOK.out)
      rw [HHAS.out.1, HHAS.out.2.1, HHAS.out.2.2] at HH
      clear hv1 hgv hbv hgp hgplt HV
      obtain ⟨a0, a1, a2, a3⟩ := HAT3.out
      go_wp2_with fail
      refine HH.out.mono ?_
      rintro e v2 ⟨rfl, T1, hn2, ht2⟩
      have HP2 := Lib.hid (HP1.out.turnB hn2 ht2)
      have HB2 := Lib.hid (HB1.out.apart ht2.off HP.out.apart)
      have hgp2 : v2.heap[gp]? = v1.heap[gp]? := ht2.off.block gp (Array.getElem?_eq_some_iff.1 HGP.out).1 (fun hs => by have := HTP.out gp hs; omega)
      have HGP2 := Lib.hid (hgp2.trans HGP.out)
      clear a0 a1 a2 a3 hn2 ht2 hgp2 HH
      go_upto_region 9 with fail
      have hgv := World.grownBy_alloc v2 (.cells #[.int .i64 pk.src, .int .i64 pk.to, strV pk.b] 48) none
      have hbv := (MapKept.heap_alloc v2 (.cells #[.int .i64 pk.src, .int .i64 pk.to, strV pk.b] 48)).1
      obtain ⟨v3, hv3⟩ : ∃ v3, v3 = v2.alloc (.cells #[.int .i64 pk.src, .int .i64 pk.to, strV pk.b] 48) := ⟨_, rfl⟩
      rw [← hv3] at hgv hbv ⊢
      have HP3 := Lib.hid (HP2.out.grown hgv)
      have hb3 := HB2.out.grown hgv
      have hgp3 : v3.heap[gp]? = some (.cells #[.int .i64 pk.src, .int .i64 pk.to, .slice Ap pk.b.length capp] 37) := (hgv.block gp (Array.getElem?_eq_some_iff.1 HGP2.out).1 (by simp)).trans HGP2.out
      obtain ⟨gq, hgq⟩ : ∃ gq, gq = v2.heap.size := ⟨_, rfl⟩
      rw [← hgq] at hbv ⊢
      have hisc := is_at pk pk Ap capp v3 (hb3.mono (fun _ _ _ => trivial))
      rw [isB_self] at hisc
      have HIS := Lib.hid hisc
      have p0 : v3.cell? ⟨gp, 0, none⟩ = some (.int .i64 pk.src) := by simp only [World.cell?, hgp3]; rfl
      have p1 : v3.cell? ⟨gp, 1, none⟩ = some (.int .i64 pk.to) := by simp only [World.cell?, hgp3]; rfl
      have p2 : v3.cell? ⟨gp, 2, none⟩ = some (.slice Ap pk.b.length capp) := by simp only [World.cell?, hgp3]; rfl
      have q0 : v3.cell? ⟨gq, 0, none⟩ = some (.int .i64 pk.src) := by simp only [World.cell?, hbv]; rfl
      have q1 : v3.cell? ⟨gq, 1, none⟩ = some (.int .i64 pk.to) := by simp only [World.cell?, hbv]; rfl
      have q2 : v3.cell? ⟨gq, 2, none⟩ = some (strV pk.b) := by simp only [World.cell?, hbv]; rfl
      clear hv3 hgv hbv hb3 hgp3 hgq hisc
      go_wp2_with fail
      refine HIS.out.mono ?_
      rintro e v4 ⟨rfl, hg4⟩
      have HP4 := Lib.hid (HP3.out.grown hg4)
      have HALK := Lib.hid (alike_at S1 T1 na m _ _ v4 HP4.out.a HP4.out.b HDOES.out.2.1)
      clear p0 p1 p2 q0 q1 q2 hg4 HIS
      go_wp2_with fail
      refine HALK.out.mono ?_
      rintro e v5 ⟨rfl, hg5⟩
      have HP5 := Lib.hid (HP4.out.grown hg5)
      clear hg5 HALK
      go_wp2_with fail
      go_roundw
      case rel => exact ⟨k + 1, S1, T1, _, _, HLT.out, nxt_num k (by have := HLT.out; have := HL.out.1; omega), HP5.out, HDOES.out.2.1, by have := HDOES.out.2.2; have := HAL.out; omega⟩
      case measure => exact nxt_meas _ k HLT.out (by have := HLT.out; have := HL.out.1; omega)
    · have hkd : decide ((k : Int) < (l.length : Int)) = false := by simp; omega
      have hkd2 : decide (k < l.length) = false := by simpa using hlt
      clear hlt
      go_wp2_with fail
      refine (works_at _).mono ?_
      rintro e z ⟨rfl, hg⟩
      have HGZ := Lib.hid hg
      clear hg
      go_wp2_with fail
      go_ret
      exact ⟨rfl, FIN.out _ (HP.out.off.trans (Off.of_grown HGZ.out (by simp)))⟩
end Go.Proofs.Ytonfpifikblnjaa.Net
