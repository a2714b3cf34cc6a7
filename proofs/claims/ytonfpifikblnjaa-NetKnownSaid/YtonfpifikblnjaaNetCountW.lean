/- NetCount: the walk. -/
import Derived.Deep.CutRange
import Derived.Deep.CutBlock
import Derived.Test.YtonfpifikblnjaaNetCountMore
namespace Go.Proofs.Ytonfpifikblnjaa.Net
open Go.RowKit

/-- A net in new memory. -/
structure One (w wr : World) (nb : Nat) (S : Nat → Prop) (D : Nt) : Prop where
  net : NetAt wr S nb D
  from_ : ∀ b, S b → w.heap.size ≤ b
  off : Off (fun b => w.heap.size ≤ b) w wr
theorem One.turn {w wr v : World} {nb : Nat} {S S1 : Nat → Prop} {D D1 : Nt} (h : One w wr nb S D) (hn : NetAt v S1 nb D1) (ht : Turn S S1 wr v) : One w v nb S1 D1 := by
  refine ⟨hn, fun b hb => ?_, h.off.trans (ht.off.toOff.mono (fun b _ hb => h.from_ b hb))⟩
  rcases ht.sub b hb with e | e
  · exact h.from_ b e
  · have := h.off.size; omega
theorem One.grown {w wr v : World} {nb : Nat} {S : Nat → Prop} {D : Nt} (h : One w wr nb S D) (hg : wr.grownBy v none) : One w v nb S D := h.turn (h.net.grown hg) (Turn.begin_ h.net.lt hg)

set_option maxRecDepth 100000 in
set_option maxHeartbeats 8000000 in
theorem count_walk (ends : Int) (A : Option Addr) (l : List ActV) (cap : Nat) (w : World) (h : ActsAt w (fun b => w.heap.size ≤ b) A l) (hc1 : l.length ≤ cap) (hc2 : cap ≤ maxLen) :
    Calls Try.prog 6 #[.int .i64 ends, .slice A l.length cap] w fun e w' => e = .returned (.bool true) ∧ Below w.heap.size w w' := by
  have FIN : Hid (∀ w' : World, Off (fun b => w.heap.size ≤ b) w w' → Below w.heap.size w w') := fun w' h => h.below (Nat.le_refl _) (fun k hk h => by omega)
  have HF := Lib.hid (few_at _ A l cap 200 w h hc1 hc2)
  have HA := Lib.hid h
  obtain ⟨r, hr⟩ : ∃ r, r = fewB l 200 := ⟨_, rfl⟩
  rw [← hr] at HF
  have HR := Lib.hid hr
  clear h hc1 hc2 hr
  go_enter Try.func6, Try.ntmps6
  go_wp2_with fail
  refine HF.out.mono ?_
  rintro e w' ⟨rfl, hw⟩
  have hw := hw.symm
  subst hw
  cases r
  case false =>
    go_wp2_with fail
    refine (works_at w).mono ?_
    rintro e w2 ⟨rfl, hg⟩
    have HG := Lib.hid hg
    clear hg
    go_wp2_with fail
    go_ret
    exact ⟨rfl, FIN.out _ (Off.of_grown HG.out (by simp))⟩
  obtain ⟨hl200, hl100⟩ := fewB_true HR.out.symm
  have HL := Lib.hid (And.intro hl200 hl100)
  clear HF HR hl200 hl100
  go_wp2_with fail
  refine (new_at ends w).mono ?_
  rintro e w0 ⟨nb, rfl, hn, hg⟩
  generalize (max 1 (min 64 ends)).toNat = n0 at hn
  have HI : Hid (One w w0 nb (fun b => w.heap.size ≤ b ∧ b < w0.heap.size) (fresh n0)) := ⟨hn, fun b hb => hb.1, Off.of_grown hg (by simp)⟩
  clear hn hg
  go_wp2_with fail
  go_loopw [6] (fun iv wr => ∃ (k : Nat) (S : Nat → Prop) (D : Nt), k ≤ l.length ∧ iv = .int .i64 (k : Int) ∧ One w wr nb S D) (fun iv _ => l.length - (intOf iv).toNat)
  case atStart => exact ⟨0, _, _, Nat.zero_le _, rfl, HI.out⟩
  case round =>
    obtain ⟨k, S, D, hk, rfl, hI⟩ := hrel
    clear HI
    have HI := Lib.hid hI
    clear hI
    by_cases hlt : k < l.length
    · have hkd : decide ((k : Int) < (l.length : Int)) = true := by simp; omega
      have hkd2 : decide (k < l.length) = true := by simpa using hlt
      have k0 : (0 : Int) ≤ (k : Int) := by omega
      have k1 : (k : Int) < (l.length : Int) := by omega
      obtain ⟨ga, off, c, rfl, hc, hga, hgalt, a0, a1, a2, a3⟩ := (HA.out.off HI.out.off).at_ hlt
      have hcb : c.b.length ≤ 1000 := by have := HL.out.2 c (List.mem_of_getElem? hc); omega
      have HLT := Lib.hid hlt
      have HCB := Lib.hid hcb
      have hok := HI.out.net.ok
      have HOK := Lib.hid hok
      have hgx := World.grownBy_alloc wr (.cells #[.int .u8 (c.k.toNat : Int), .int .i64 c.i, .int .i64 c.to, strV c.b] 33) none
      have hbx := (MapKept.heap_alloc wr (.cells #[.int .u8 (c.k.toNat : Int), .int .i64 c.i, .int .i64 c.to, strV c.b] 33)).1
      have HGX := Lib.hid hgx
      have HBX := Lib.hid hbx
      have HALL := Lib.hid (all_at S nb D _ (HI.out.net.grown hgx))
      have HSL := Lib.hid HI.out.net.lt
      clear hc hga hgalt hlt hcb hok hgx hbx
      go_wp2_with fail
      refine HALL.out.mono ?_
      rintro e x1 ⟨rfl, hg1⟩
      have HG1 := Lib.hid (HGX.out.andThen hg1 (fun _ hj => .inr hj))
      have hb1 := (hg1.block wr.heap.size (Array.getElem?_eq_some_iff.1 HBX.out).1 (by simp)).trans HBX.out
      have HB1 := Lib.hid hb1
      clear hg1 hb1 HALL HGX HBX a0 a1 a2 a3
      have HWAY := Lib.hid (way_at S nb D x1 (HI.out.net.grown HG1.out))
      go_wp2_with fail
      refine HWAY.out.mono ?_
      rintro e x2 ⟨vw, cs, rfl, hcs, hL, hg2⟩
      obtain ⟨Aw, capw, rfl⟩ := hL.shape hcs
      have HLET := Lib.hid hL
      have HCS := Lib.hid hcs
      have HG2 := Lib.hid hg2
      clear hcs hL hg2 HWAY
      have HE := Lib.hid (ends_at S nb D x2 ((HI.out.net.grown HG1.out).grown HG2.out))
      obtain ⟨x3, hrun, hb3, hg3⟩ := run_make_ints x2 D.n HOK.out.most
      have HB3 := Lib.hid hb3
      have HG3 := Lib.hid hg3
      clear hb3 hg3
      go_wp2_with fail
      refine HE.out.mono ?_
      rintro e w' ⟨rfl, hw⟩
      have hw := hw.symm
      subst hw
      go_wp2_with fail
      -- what lies where
      have HI3 := Lib.hid (((HI.out.grown HG1.out).grown HG2.out).grown HG3.out)
      have hx1 : wr.heap.size < x1.heap.size := (Array.getElem?_eq_some_iff.1 HB1.out).1
      have hx2 : x1.heap.size ≤ x2.heap.size := HG2.out.size
      have hx3 : x2.heap.size < x3.heap.size := (Array.getElem?_eq_some_iff.1 HB3.out).1
      have hbx3 : x3.heap[wr.heap.size]? = some (.cells #[.int .u8 (c.k.toNat : Int), .int .i64 c.i, .int .i64 c.to, strV c.b] 33) := (HG3.out.block _ (by omega) (by simp)).trans ((HG2.out.block _ hx1 (by simp)).trans HB1.out)
      have HX := Lib.hid (And.intro hx1 (And.intro hx2 (And.intro hx3 (And.intro hbx3 HI.out.off.size))))
      clear hx1 hx2 hx3 hbx3
      have HFX3 : Hid (Fix x1.heap.size x2 x3) := (Fix.refl _ _).grown HG3.out
      obtain ⟨n, hn⟩ : ∃ n, n = D.n := ⟨_, rfl⟩
      rw [← hn]
      have HNN := Lib.hid hn
      have hb3 := HB3.out
      rw [← hn] at hb3
      have HB3n := Lib.hid hb3
      clear hn hb3 HB3 HE hrun HG1 HG2 HG3 HI
      generalize hbx : wr.heap.size = bx at HX HSL ⊢
      generalize hgb : x2.heap.size = gb at HX HB3n ⊢
      have HGB := Lib.hid hgb
      clear hbx hgb
      go_loopw [11] (fun jv wq => ∃ (j : Nat) (G : Nat → Int), j ≤ n ∧ jv = .int .i64 (j : Int) ∧ wq.heap[gb]? = some (.cells (ints n G).toArray 3) ∧ Off (fun b => b = gb) x3 wq ∧ ∀ x, x < j → G x = ((D.row (x + 1)).length : Int)) (fun jv _ => n - (intOf jv).toNat)
      case atStart => exact ⟨0, _, Nat.zero_le _, rfl, HB3n.out, Off.refl _ _, fun x hx => by omega⟩
      case round =>
        obtain ⟨j, G, hj, rfl, hbG, hoG, hG⟩ := hrel
        have hnS : ¬ S gb := fun hs => by have := HSL.out gb hs; have := HX.out; omega
        have HONE : Hid (NetAt wr S nb D) := HI3.out.net.other hoG (fun b hb e => hnS (e ▸ hb))
        have HBG := Lib.hid hbG
        have HOG := Lib.hid hoG
        have HG := Lib.hid hG
        have HNS := Lib.hid hnS
        clear hbG hoG hG hnS
        by_cases hjn : j < n
        · have hjd : decide ((j : Int) < (n : Int)) = true := by simp; omega
          have hjd2 : decide (j < n) = true := by simpa using hjn
          have j0 : (0 : Int) ≤ (j : Int) := by omega
          have j1 : (j : Int) < (n : Int) := by omega
          have hwt := waits_at S nb D (j : Int) wr HONE.out
          rw [waits_nat D j (by rw [← HNN.out]; exact hjn)] at hwt
          have HWT := Lib.hid hwt
          have HJN := Lib.hid hjn
          have g0 : wr.cell? ⟨gb, j, none⟩ = some (Value.int .i64 (G j)) := by
            have := ints_get n G j hjn
            simp only [World.cell?, HBG.out]
            exact this
          have g1 : wr.frozen? ⟨gb, j, none⟩ = false := by simp only [World.frozen?, HBG.out]; simp
          clear hwt hjn
          go_wp2_with fail
          refine HWT.out.mono ?_
          rintro e wv ⟨rfl, hwv⟩
          have hwv := hwv.symm
          subst hwv
          go_wp2_with fail
          go_roundw
          case rel =>
            refine ⟨j + 1, updI G j ((D.row (j + 1)).length : Int), HJN.out, nxt_num j (by have := HJN.out; have := HOK.out.most; have := HNN.out; omega), ?_, HOG.out.trans ((Off.cells (CellOff.set _ gb j _)).mono (fun b _ hb => hb.elim (fun _ e => e.1))), fun x hx => ?_⟩
            · rw [heap_setCell_same _ gb j _ _ _ HBG.out, ints_set]
            · unfold updI
              by_cases e : x = j
              · rw [if_pos e, e]
              · rw [if_neg e]; exact HG.out x (by omega)
          case measure => exact nxt_meas _ j HJN.out (by have := HJN.out; have := HOK.out.most; have := HNN.out; omega)
        · have hjd : decide ((j : Int) < (n : Int)) = false := by simp; omega
          have hjd2 : decide (j < n) = false := by simpa using hjn
          have hall : ∀ x, x < n → G x = ((D.row (x + 1)).length : Int) := fun x hx => HG.out x (by omega)
          have hbl : wr.heap[gb]? = some (Obj.cells (ints n (fun x => ((D.row (x + 1)).length : Int))).toArray 3) := HBG.out.trans (by rw [ints_congr hall])
          have HBL := Lib.hid hbl
          have hgbne : gb ≠ bx := by have := HX.out; omega
          have hxb := (HOG.out.block bx (Array.getElem?_eq_some_iff.1 HX.out.2.2.2.1).1 (fun e => hgbne e.symm)).trans HX.out.2.2.2.1
          have HXB := Lib.hid hxb
          have ca0 := (show wr.cell? ⟨bx, 0, none⟩ = some (.int .u8 (c.k.toNat : Int)) by simp only [World.cell?, hxb]; rfl)
          have ca1 := (show wr.cell? ⟨bx, 1, none⟩ = some (.int .i64 c.i) by simp only [World.cell?, hxb]; rfl)
          have ca2 := (show wr.cell? ⟨bx, 2, none⟩ = some (.int .i64 c.to) by simp only [World.cell?, hxb]; rfl)
          have ca3 := (show wr.cell? ⟨bx, 3, none⟩ = some (strV c.b) by simp only [World.cell?, hxb]; rfl)
          have HDO := Lib.hid (does_at S nb D c wr HONE.out HCB.out)
          have HFX4 := Lib.hid (HFX3.out.off HOG.out (fun b _ hlt e => by have := HGB.out; omega))
          have HOFF4 : Hid (Off (fun b => w.heap.size ≤ b) w wr) := (HI3.out.off.trans (HOG.out.mono (fun b _ e => by have := HX.out; omega)))
          clear hjn hall hbl hgbne hxb HBG HG HB3n HFX3 HOG
          have f01 := cnt_send D c
          have f4 := cnt_double D c
          have f3 := cnt_drop D c
          have f5 := cnt_delay D c
          have f2 := cnt_deliver D HOK.out c
          have f2n := cnt_deliver_not D c
          have f6 := cnt_receive D c
          have f7 := cnt_clear D c
          have fn := does_n D c
          generalize D.does c = dc at HDO f01 f2 f2n f3 f4 f5 f6 f7 fn
          obtain ⟨⟨code, op⟩, D1⟩ := dc
          obtain ⟨p, hp⟩ : ∃ p : Pk, p = op.getD ⟨0, 0, []⟩ := ⟨_, rfl⟩
          obtain ⟨ok, hok⟩ : ∃ ok : Bool, ok = op.isSome := ⟨_, rfl⟩
          have hdo := HDO.out
          rw [show (((code, op), D1) : (Int × Option Pk) × Nt).1.2 = op from rfl, ← hp, ← hok] at hdo
          dsimp only at hdo f01 f2 f2n f3 f4 f5 f6 f7 fn
          rw [← hok] at f6
          clear HDO
          have HDO := Lib.hid hdo
          have HF := Lib.hid (And.intro f01 (And.intro f2 (And.intro f2n (And.intro f3 (And.intro f4 (And.intro f5 (And.intro f6 f7)))))))
          have HFN := Lib.hid fn
          clear hp hok hdo f01 f2 f2n f3 f4 f5 f6 f7 fn
          go_wp2_with fail
          refine HDO.out.mono ?_
          rintro e v ⟨Ap, capp, rfl, _, S1, hn1, ht1⟩
          have HN1 := Lib.hid hn1
          have HT1 := Lib.hid ht1
          clear hn1 ht1 HDO ca0 ca1 ca2 ca3
          go_upto_region 16 with fail
          have hgx := World.grownBy_alloc v (.cells #[.int .i64 p.src, .int .i64 p.to, .slice Ap p.b.length capp] 37) none
          generalize v.alloc (.cells #[.int .i64 p.src, .int .i64 p.to, .slice Ap p.b.length capp] 37) = x at hgx ⊢
          generalize v.heap.size = gp
          have hTx := HT1.out.more hgx
          have hNx := HN1.out.grown hgx
          have hSB : ∀ b, S b → b < bx := HSL.out
          have hxb := (hTx.off.block bx (Array.getElem?_eq_some_iff.1 HXB.out).1 (fun hs => Nat.lt_irrefl _ (hSB bx hs))).trans HXB.out
          have hxl := (hTx.off.block gb (Array.getElem?_eq_some_iff.1 HBL.out).1 HNS.out).trans HBL.out
          have HLX := Lib.hid (HLET.out.fix (HFX4.out.off hTx.off.toOff (fun b hb _ hs => by have := hSB b hs; have := HX.out; omega)))
          have HBX := Lib.hid hxl
          have ca0 : x.cell? ⟨bx, 0, none⟩ = some (.int .u8 (c.k.toNat : Int)) := by simp only [World.cell?, hxb]; rfl
          have ca1 : x.cell? ⟨bx, 1, none⟩ = some (.int .i64 c.i) := by simp only [World.cell?, hxb]; rfl
          have ca2 : x.cell? ⟨bx, 2, none⟩ = some (.int .i64 c.to) := by simp only [World.cell?, hxb]; rfl
          have HBC : Hid (∀ t : Nat, t < n → x.cell? ⟨gb, t, none⟩ = some (.int .i64 ((D.row (t + 1)).length : Int))) := fun t ht => by
            have := ints_get n (fun x => ((D.row (x + 1)).length : Int)) t ht
            simp only [World.cell?, hxl]
            exact this
          have hSx : ∀ b, S1 b → w.heap.size ≤ b := fun b hb => by
            rcases hTx.sub b hb with e | e
            · exact HI3.out.from_ b e
            · have := HOFF4.out.size; omega
          have HONE2 : Hid (One w x nb S1 D1) := ⟨hNx, hSx, HOFF4.out.trans (hTx.off.toOff.mono (fun b _ hb => HI3.out.from_ b hb))⟩
          clear hgx hTx hNx hSB hxb hxl hSx HN1 HT1 HXB HBL HONE HFX4 HLET HI3 HOFF4
          go_upto_block 4 with fail
          generalize hk8 : ((c.k.toNat : Int) % 8) = rr
          have hr8 : rr = ((c.k.toNat % 8 : Nat) : Int) := by omega
          clear hk8
          go_cut [15, 16, 17] from 25 to 169 (fun s15 s16 s17 wx => ∃ (want own : Int) (less : Bool), s15 = .int .i64 want ∧ s16 = .int .i64 own ∧ s17 = .bool less ∧ wx = x ∧ (D1.all : Int) = (D.all : Int) + (if less = true then -1 else want) ∧ Same D D1 own ∧ -100 ≤ want ∧ want ≤ 100)
          case first =>
            generalize hr : c.k.toNat % 8 = m at hr8
            have hm : m = 0 ∨ m = 1 ∨ m = 2 ∨ m = 3 ∨ m = 4 ∨ m = 5 ∨ m = 6 ∨ m = 7 := by omega
            subst hr8
            clear ca0
            have hcodes : (code = 0) ∨ ((code == 0) = false ∧ code ≠ 0) := by
              by_cases h : code = 0
              · exact .inl h
              · exact .inr ⟨by simpa using h, h⟩
            have HCODES := Lib.hid hcodes
            clear hcodes
            rcases hm with rfl | rfl | rfl | rfl | rfl | rfl | rfl | rfl
            · have HD := Lib.hid (HF.out.1 (.inl hr))
              clear hr
              rcases HCODES.out with rfl | ⟨hcb, hc0⟩
              · go_wp2_with fail
                go_meet
                exact ⟨1, -1, false, rfl, rfl, rfl, rfl, by have := HD.out.1; simpa using this, HD.out.2, by decide, by decide⟩
              · have HC0 := Lib.hid hc0
                clear hc0
                go_wp2_with fail
                go_meet
                exact ⟨0, -1, false, rfl, rfl, rfl, rfl, by have := HD.out.1; rw [if_neg HC0.out] at this; simpa using this, HD.out.2, by decide, by decide⟩
            · have HD := Lib.hid (HF.out.1 (.inr hr))
              clear hr
              rcases HCODES.out with rfl | ⟨hcb, hc0⟩
              · go_wp2_with fail
                go_meet
                exact ⟨1, -1, false, rfl, rfl, rfl, rfl, by have := HD.out.1; simpa using this, HD.out.2, by decide, by decide⟩
              · have HC0 := Lib.hid hc0
                clear hc0
                go_wp2_with fail
                go_meet
                exact ⟨0, -1, false, rfl, rfl, rfl, rfl, by have := HD.out.1; rw [if_neg HC0.out] at this; simpa using this, HD.out.2, by decide, by decide⟩
            · -- a Deliver
              by_cases hth : D.there c.i = 0
              · obtain ⟨z, hz, hzl⟩ := Nt.there_in hth
                obtain ⟨kt, hkt, hktn, hcode, hall, hsame⟩ := HF.out.2.1 hr z hz hzl
                obtain ⟨gv, Apv, cv, rfl, _, _, v1, _, _⟩ := HLX.out.get (k := z) (p := D.nth 0 z) (by rw [HCS.out]; exact Nt.nth_get hzl)
                rw [hkt] at v1
                rw [hz] at ca1
                have bk := HBC.out kt (by rw [HNN.out]; exact hktn)
                have HALL := Lib.hid (And.intro hall hsame)
                have z0 : decide ((z : Int) < 0) = false := decide_eq_false (by omega)
                have z1 : decide (((D.row 0).length : Int) ≤ (z : Int)) = false := decide_eq_false (by omega)
                have z1b : decide ((D.row 0).length ≤ z) = false := decide_eq_false (by omega)
                have z2 : (0 : Int) ≤ (z : Int) := by omega
                have z3 : (z : Int) < ((D.row 0).length : Int) := by omega
                have hktn2 : kt < n := by rw [HNN.out]; exact hktn
                have y0 : decide ((kt : Int) < 0) = false := decide_eq_false (by omega)
                have y1 : decide ((n : Int) ≤ (kt : Int)) = false := decide_eq_false (by omega)
                have y1b : decide (n ≤ kt) = false := decide_eq_false (by omega)
                have y2 : (0 : Int) ≤ (kt : Int) := by omega
                have y3 : (kt : Int) < (n : Int) := by omega
                have hcode : code = 0 := hcode
                subst hcode
                obtain ⟨bl, hbl⟩ : ∃ bl : Int, bl = ((D.row (kt + 1)).length : Int) := ⟨_, rfl⟩
                rw [← hbl] at bk
                by_cases h32 : bl = 32
                · have HL32 : Hid ((D.row (kt + 1)).length = 32) := by show _ = _; omega
                  subst h32
                  clear hbl hall hsame hkt hktn hktn2 hz hzl hth hr
                  go_wp2_with fail
                  go_meet
                  exact ⟨0, kt, true, rfl, rfl, rfl, rfl, by have := HALL.out.1; rw [if_pos HL32.out] at this; simpa using this, HALL.out.2, by decide, by decide⟩
                · have HL32 : Hid (¬ (D.row (kt + 1)).length = 32) := fun h => h32 (by omega)
                  have hb32 : (bl == 32) = false := by simpa using h32
                  clear hbl hall hsame hkt hktn hktn2 hz hzl hth hr
                  go_wp2_with fail
                  go_meet
                  exact ⟨0, kt, false, rfl, rfl, by first | rfl | exact congrArg Value.bool hb32, rfl, by have := HALL.out.1; rw [if_neg HL32.out] at this; simpa using this, HALL.out.2, by decide, by decide⟩
              · obtain ⟨hc0, hDD⟩ := HF.out.2.2.1 hr hth
                have hcb : (code == 0) = false := by simpa using hc0
                have HDD := Lib.hid hDD
                clear hr hth hc0 hDD
                go_wp2_with fail
                go_meet
                exact ⟨0, -1, false, rfl, rfl, rfl, rfl, by rw [HDD.out]; simp, fun _ _ _ => by rw [HDD.out], by decide, by decide⟩
            · have HD := Lib.hid (HF.out.2.2.2.1 hr)
              clear hr
              rcases HCODES.out with rfl | ⟨hcb, hc0⟩
              · go_wp2_with fail
                go_meet
                exact ⟨0, -1, true, rfl, rfl, rfl, rfl, by have := HD.out.1; simpa using this, HD.out.2, by decide, by decide⟩
              · have HC0 := Lib.hid hc0
                clear hc0
                go_wp2_with fail
                go_meet
                exact ⟨0, -1, false, rfl, rfl, by first | rfl | exact congrArg Value.bool hcb, rfl, by have := HD.out.1; rw [if_neg HC0.out] at this; simpa using this, HD.out.2, by decide, by decide⟩
            · have HD := Lib.hid (HF.out.2.2.2.2.1 hr)
              clear hr
              rcases HCODES.out with rfl | ⟨hcb, hc0⟩
              · go_wp2_with fail
                go_meet
                exact ⟨1, -1, false, rfl, rfl, rfl, rfl, by have := HD.out.1; simpa using this, HD.out.2, by decide, by decide⟩
              · have HC0 := Lib.hid hc0
                clear hc0
                go_wp2_with fail
                go_meet
                exact ⟨0, -1, false, rfl, rfl, rfl, rfl, by have := HD.out.1; rw [if_neg HC0.out] at this; simpa using this, HD.out.2, by decide, by decide⟩
            · have HD := Lib.hid (HF.out.2.2.2.2.2.1 hr)
              clear hr
              go_wp2_with fail
              go_meet
              exact ⟨0, -1, false, rfl, rfl, rfl, rfl, by have := HD.out.1; simpa using this, HD.out.2, by decide, by decide⟩
            · have HD := Lib.hid (HF.out.2.2.2.2.2.2.1 hr)
              clear hr
              go_wp2_with fail
              go_meet
              exact ⟨0, c.to, ok, rfl, rfl, rfl, rfl, HD.out.1, HD.out.2, by decide, by decide⟩
            · have hD := HF.out.2.2.2.2.2.2.2 hr
              clear hr
              by_cases his : D.is c.to = true
              · obtain ⟨z, hz, hzn⟩ := Nt.is_nat his
                rw [if_pos his] at hD
                have hzn2 : z < n := by rw [HNN.out]; exact hzn
                have bk := HBC.out z hzn2
                have hbox := HOK.out.box z hzn
                rw [hz, Int.toNat_natCast] at hD
                rw [hz] at ca2
                obtain ⟨bl, hbl⟩ : ∃ bl : Int, bl = ((D.row (z + 1)).length : Int) := ⟨_, rfl⟩
                rw [← hbl] at bk hD
                have hneg : wrap64 (-bl) = -bl := by unfold wrap64; omega
                have HD := Lib.hid (And.intro hD (And.intro hbl hbox))
                have z0 : decide ((0 : Int) ≤ (z : Int)) = true := decide_eq_true (by omega)
                have z1 : decide ((z : Int) < (n : Int)) = true := decide_eq_true (by omega)
                have z1b : decide (z < n) = true := decide_eq_true hzn2
                have z2 : (0 : Int) ≤ (z : Int) := by omega
                have z3 : (z : Int) < (n : Int) := by omega
                clear hD hbl hbox his hz hzn hzn2
                go_wp2_with fail
                go_meet
                have h1 := HD.out.2
                exact ⟨-bl, z, false, by first | rfl | rw [hneg], rfl, rfl, rfl, by have := HD.out.1.1; simp; omega, HD.out.1.2, by omega, by omega⟩
              · rw [if_neg his] at hD
                have HD := Lib.hid hD
                have hout : c.to < 0 ∨ (n : Int) ≤ c.to := by
                  by_cases h1 : c.to < 0
                  · exact .inl h1
                  · by_cases h2 : (n : Int) ≤ c.to
                    · exact .inr h2
                    · exfalso
                      apply his
                      unfold Nt.is
                      rw [decide_eq_true (by omega : (0 : Int) ≤ c.to), decide_eq_true (by have := HNN.out; omega)]
                      rfl
                clear hD his
                by_cases h1 : 0 ≤ c.to
                · have z0 : decide (0 ≤ c.to) = true := decide_eq_true h1
                  have z1 : decide (c.to < (n : Int)) = false := decide_eq_false (by omega)
                  clear hout h1
                  go_wp2_with fail
                  go_meet
                  exact ⟨0, c.to, false, rfl, rfl, rfl, rfl, by have := HD.out.1; simp; omega, HD.out.2, by decide, by decide⟩
                · have z0 : decide (0 ≤ c.to) = false := decide_eq_false h1
                  clear hout h1
                  go_wp2_with fail
                  go_meet
                  exact ⟨0, c.to, false, rfl, rfl, rfl, rfl, by have := HD.out.1; simp; omega, HD.out.2, by decide, by decide⟩
          case rest =>
            obtain ⟨want, own, less, rfl, rfl, rfl, hx, hall, hsame, hw1, hw2⟩ := hcut
            have hx := hx.symm
            subst hx
            obtain ⟨W, hW⟩ : ∃ W : Int, W = if less = true then -1 else want := ⟨_, rfl⟩
            rw [← hW] at hall
            have hWb : -100 ≤ W ∧ W ≤ 100 := by rw [hW]; split <;> omega
            have HSAME := Lib.hid hsame
            have HWL := Lib.hid hW
            have h1 := all_le HOK.out
            have h2 := all_le HONE2.out.net.ok
            have hwr : wrap64 ((D.all : Int) + W) = (D1.all : Int) := by unfold wrap64; omega
            have HALL2 := Lib.hid (all_at S1 nb D1 x HONE2.out.net)
            clear hall hsame hw1 hw2 hW hWb h1 h2 ca0 ca1 ca2
            go_upto_if 144 with fail
            go_cut [15] from 25 to 169 (fun s15 wx => wx = x ∧ s15 = .int .i64 W)
            case first =>
              cases less
              case true =>
                go_wp2_with fail
                go_meet
                exact ⟨rfl, by rw [HWL.out]; rfl⟩
              case false =>
                go_wp2_with fail
                go_meet
                exact ⟨rfl, by rw [HWL.out]; rfl⟩
            case rest =>
              obtain ⟨hx, rfl⟩ := hcut
              have hx := hx.symm
              subst hx
              go_wp2_with fail
              refine HALL2.out.mono ?_
              rintro e x7 ⟨rfl, hg7⟩
              have HONE7 := Lib.hid (HONE2.out.grown hg7)
              have HBC7 : Hid (∀ t : Nat, t < n → x7.cell? ⟨gb, t, none⟩ = some (.int .i64 ((D.row (t + 1)).length : Int))) := fun t ht => hg7.cell (HBC.out t ht) (by simp)
              generalize (D1.all : Int) = a1 at hwr ⊢
              clear hg7 HALL2
              go_wp2_with fail
              clear hwr
              go_loopw [18] (fun tv wq => ∃ t : Nat, t ≤ n ∧ tv = .int .i64 (t : Int) ∧ x7.grownBy wq none) (fun tv _ => n - (intOf tv).toNat)
              case atStart => exact ⟨0, Nat.zero_le _, rfl, World.grownBy.refl _ _⟩
              case round =>
                obtain ⟨t, ht, rfl, hgq⟩ := hrel
                obtain ⟨xq, hxq⟩ : ∃ xq : World, xq = wr := ⟨_, rfl⟩
                rw [← hxq] at hgq ⊢
                clear hxq
                have HGQ := Lib.hid hgq
                clear hgq
                by_cases htn : t < n
                · have htd : decide ((t : Int) < (n : Int)) = true := by simp; omega
                  have htd2 : decide (t < n) = true := by simpa using htn
                  have t0 : (0 : Int) ≤ (t : Int) := by omega
                  have t1 : (t : Int) < (n : Int) := by omega
                  have HTN := Lib.hid htn
                  have hgd := HGQ.out.andThen (drew_grown xq none) (fun _ hj => .inr hj)
                  have HGD := Lib.hid hgd
                  have CB : Hid (xq.drew.cell? ⟨gb, t, none⟩ = some (.int .i64 ((D.row (t + 1)).length : Int))) := hgd.cell (HBC7.out t htn) (by simp)
                  by_cases how : (t : Int) = own
                  · have hnb : ((t : Int) != own) = false := by simpa using how
                    have hnd : decide ((t : Int) = own) = true := decide_eq_true how
                    clear hgd htn how
                    go_upto_region 44 with fail
                    refine wp_region_noPanic ?_
                    refine wp_region_held_drew (S := fun w' => w' = xq.drew) (by kernel_rfl) ?hSb (fun hHeld => ?_)
                    case hSb => exact rfl
                    refine wpAnyH_take (i := 0) (oi := ⟨_, _, _, _, _, _⟩) (v := ?vb0) rfl (by kernel_rfl) (by kernel_rfl) (by kernel_rfl) (fun _ _ _ h => h) (Or.inl ⟨by rfl, ?hyb0⟩) hHeld ?_
                    case hyb0 => (intro wS hSw; (try dsimp only at hSw); go_simp; (first | done | with_reducible rfl))
                    try simp only [Act.put, List.setIfInBounds_toArray, List.set_cons_zero, List.set_cons_succ]
                    refine wpAnyH_take (i := 1) (oi := ⟨_, _, _, _, _, _⟩) (v := ?vb1) rfl (by kernel_rfl) (by kernel_rfl) (by kernel_rfl) (fun _ _ _ h => h) (Or.inl ⟨by rfl, ?hyb1⟩) hHeld ?_
                    case hyb1 => (intro wS hSw; (try dsimp only at hSw); go_simp; (first | done | with_reducible rfl))
                    try simp only [Act.put, List.setIfInBounds_toArray, List.set_cons_zero, List.set_cons_succ]
                    refine wpAnyH_take (i := 2) (oi := ⟨_, _, _, _, _, _⟩) (v := ?vb2) rfl (by kernel_rfl) (by kernel_rfl) (by kernel_rfl) (fun _ _ _ h => h) (Or.inl ⟨by rfl, ?hyb2⟩) hHeld ?_
                    case hyb2 => (intro wS hSw; (try dsimp only at hSw); go_simp; (first | done | with_reducible rfl))
                    try simp only [Act.put, List.setIfInBounds_toArray, List.set_cons_zero, List.set_cons_succ]
                    refine wpAnyH_take (i := 3) (oi := ⟨_, _, _, _, _, _⟩) (v := ?vb3) rfl (by kernel_rfl) (by kernel_rfl) (by kernel_rfl) (fun _ _ _ h => h) (Or.inl ⟨by rfl, ?hyb3⟩) hHeld ?_
                    case hyb3 => (intro wS hSw; (try dsimp only at hSw); go_simp; (first | done | with_reducible rfl))
                    try simp only [Act.put, List.setIfInBounds_toArray, List.set_cons_zero, List.set_cons_succ]
                    refine wpAnyH_take (i := 4) (oi := ⟨_, _, _, _, _, _⟩) (v := undef) rfl (by kernel_rfl) (by kernel_rfl) (by kernel_rfl) (fun _ _ _ h => h) (Or.inr ⟨by rfl, rfl⟩) hHeld ?_
                    try simp only [Act.put, List.setIfInBounds_toArray, List.set_cons_zero, List.set_cons_succ]
                    refine wpAnyH_take (i := 5) (oi := ⟨_, _, _, _, _, _⟩) (v := undef) rfl (by kernel_rfl) (by kernel_rfl) (by kernel_rfl) (fun _ _ _ h => h) (Or.inr ⟨by rfl, rfl⟩) hHeld ?_
                    try simp only [Act.put, List.setIfInBounds_toArray, List.set_cons_zero, List.set_cons_succ]
                    refine wpAnyH_take (i := 7) (oi := ⟨_, _, _, _, _, _⟩) (v := undef) rfl (by kernel_rfl) (by kernel_rfl) (by kernel_rfl) (fun _ _ _ h => h) (Or.inr ⟨by rfl, rfl⟩) hHeld ?_
                    try simp only [Act.put, List.setIfInBounds_toArray, List.set_cons_zero, List.set_cons_succ]
                    refine wpAnyH_take (i := 8) (oi := ⟨_, _, _, _, _, _⟩) (v := undef) rfl (by kernel_rfl) (by kernel_rfl) (by kernel_rfl) (fun _ _ _ h => h) (Or.inr ⟨by rfl, rfl⟩) hHeld ?_
                    try simp only [Act.put, List.setIfInBounds_toArray, List.set_cons_zero, List.set_cons_succ]
                    refine wpAnyH_take (i := 9) (oi := ⟨_, _, _, _, _, _⟩) (v := undef) rfl (by kernel_rfl) (by kernel_rfl) (by kernel_rfl) (fun _ _ _ h => h) (Or.inr ⟨by rfl, rfl⟩) hHeld ?_
                    try simp only [Act.put, List.setIfInBounds_toArray, List.set_cons_zero, List.set_cons_succ]
                    refine wpAnyH_take (i := 10) (oi := ⟨_, _, _, _, _, _⟩) (v := undef) rfl (by kernel_rfl) (by kernel_rfl) (by kernel_rfl) (fun _ _ _ h => h) (Or.inr ⟨by rfl, rfl⟩) hHeld ?_
                    try simp only [Act.put, List.setIfInBounds_toArray, List.set_cons_zero, List.set_cons_succ]
                    refine wpAnyH_ready (rs := [6]) (by kernel_rfl) (by simp) ?_
                    refine AllReadyH.cons (o := ⟨_, _, _, _, _, _⟩) rfl (fun K hK => ?_) AllReadyH.nil
                    go_simp
                    refine hK.out _ _ ?kb6 (fun hNew => ?_)
                    case kb6 => (try dsimp only); (try exact hHeld)
                    clear hK K hHeld
                    have hHeld := hNew
                    clear hNew
                    try simp only [Act.put, List.setIfInBounds_toArray, List.set_cons_zero, List.set_cons_succ]
                    refine wpAnyH_take (i := 11) (oi := ⟨_, _, _, _, _, _⟩) (v := undef) rfl (by kernel_rfl) (by kernel_rfl) (by kernel_rfl) (fun _ _ _ h => h) (Or.inr ⟨by rfl, rfl⟩) hHeld ?_
                    try simp only [Act.put, List.setIfInBounds_toArray, List.set_cons_zero, List.set_cons_succ]
                    refine wpAnyH_take (i := 12) (oi := ⟨_, _, _, _, _, _⟩) (v := ?vb12) rfl (by kernel_rfl) (by kernel_rfl) (by kernel_rfl) (fun _ _ _ h => h) (Or.inl ⟨by rfl, ?hyb12⟩) hHeld ?_
                    case hyb12 => (intro wS hSw; (try dsimp only at hSw); go_simp; (first | done | with_reducible rfl))
                    try simp only [Act.put, List.setIfInBounds_toArray, List.set_cons_zero, List.set_cons_succ]
                    refine wpAnyH_done (by kernel_rfl) ?_ _
                    refine NoPanic.normal ?_
                    clear hHeld
                    go_wp2_with fail
                    go_roundw
                    case rel => exact ⟨t + 1, HTN.out, nxt_num t (by have := HTN.out; have := HOK.out.most; have := HNN.out; omega), HGD.out⟩
                    case measure => exact nxt_meas _ t HTN.out (by have := HTN.out; have := HOK.out.most; have := HNN.out; omega)
                  · have hnb : ((t : Int) != own) = true := by simpa using how
                    have hnd : decide ((t : Int) = own) = false := decide_eq_false how
                    have hwt := waits_at S1 nb D1 (t : Int) xq.drew (HONE7.out.net.grown hgd)
                    rw [waits_nat D1 t (by rw [HFN.out, ← HNN.out]; exact htn), HSAME.out t (by rw [← HNN.out]; exact htn) how] at hwt
                    have HWT := Lib.hid hwt
                    clear hgd htn how hwt
                    go_upto_region 44 with fail
                    refine wp_region_noPanic ?_
                    refine wp_region_held_drew (S := fun w' => w'.cell? ⟨gb, t, none⟩ = some (.int .i64 ((D.row (t + 1)).length : Int))) (by kernel_rfl) ?hSa (fun hHeld => ?_)
                    case hSa => exact CB.out
                    refine wpAnyH_take (i := 0) (oi := ⟨_, _, _, _, _, _⟩) (v := ?va0) rfl (by kernel_rfl) (by kernel_rfl) (by kernel_rfl) (fun _ _ _ h => h) (Or.inl ⟨by rfl, ?hya0⟩) hHeld ?_
                    case hya0 => (intro wS hSw; (try dsimp only at hSw); go_simp; (first | done | with_reducible rfl))
                    try simp only [Act.put, List.setIfInBounds_toArray, List.set_cons_zero, List.set_cons_succ]
                    refine wpAnyH_take (i := 1) (oi := ⟨_, _, _, _, _, _⟩) (v := ?va1) rfl (by kernel_rfl) (by kernel_rfl) (by kernel_rfl) (fun _ _ _ h => h) (Or.inl ⟨by rfl, ?hya1⟩) hHeld ?_
                    case hya1 => (intro wS hSw; (try dsimp only at hSw); go_simp; (first | done | with_reducible rfl))
                    try simp only [Act.put, List.setIfInBounds_toArray, List.set_cons_zero, List.set_cons_succ]
                    refine wpAnyH_take (i := 2) (oi := ⟨_, _, _, _, _, _⟩) (v := ?va2) rfl (by kernel_rfl) (by kernel_rfl) (by kernel_rfl) (fun _ _ _ h => h) (Or.inl ⟨by rfl, ?hya2⟩) hHeld ?_
                    case hya2 => (intro wS hSw; (try dsimp only at hSw); go_simp; (first | done | with_reducible rfl))
                    try simp only [Act.put, List.setIfInBounds_toArray, List.set_cons_zero, List.set_cons_succ]
                    refine wpAnyH_take (i := 3) (oi := ⟨_, _, _, _, _, _⟩) (v := ?va3) rfl (by kernel_rfl) (by kernel_rfl) (by kernel_rfl) (fun _ _ _ h => h) (Or.inl ⟨by rfl, ?hya3⟩) hHeld ?_
                    case hya3 => (intro wS hSw; (try dsimp only at hSw); go_simp; (first | done | with_reducible rfl))
                    try simp only [Act.put, List.setIfInBounds_toArray, List.set_cons_zero, List.set_cons_succ]
                    refine wpAnyH_take (i := 4) (oi := ⟨_, _, _, _, _, _⟩) (v := ?va4) rfl (by kernel_rfl) (by kernel_rfl) (by kernel_rfl) (fun _ _ _ h => h) (Or.inl ⟨by rfl, ?hya4⟩) hHeld ?_
                    case hya4 => (intro wS hSw; (try dsimp only at hSw); go_simp; (first | done | with_reducible rfl))
                    try simp only [Act.put, List.setIfInBounds_toArray, List.set_cons_zero, List.set_cons_succ]
                    refine wpAnyH_take (i := 5) (oi := ⟨_, _, _, _, _, _⟩) (v := ?va5) rfl (by kernel_rfl) (by kernel_rfl) (by kernel_rfl) (fun _ _ _ h => h) (Or.inl ⟨by rfl, ?hya5⟩) hHeld ?_
                    case hya5 => (intro wS hSw; (try dsimp only at hSw); go_simp; (first | done | with_reducible rfl))
                    try simp only [Act.put, List.setIfInBounds_toArray, List.set_cons_zero, List.set_cons_succ]
                    refine wpAnyH_take (i := 7) (oi := ⟨_, _, _, _, _, _⟩) (v := ?va7) rfl (by kernel_rfl) (by kernel_rfl) (by kernel_rfl) (fun _ _ _ h => h) (Or.inl ⟨by rfl, ?hya7⟩) hHeld ?_
                    case hya7 => (intro wS hSw; (try dsimp only at hSw); go_simp; (first | done | with_reducible rfl))
                    try simp only [Act.put, List.setIfInBounds_toArray, List.set_cons_zero, List.set_cons_succ]
                    refine wpAnyH_take (i := 8) (oi := ⟨_, _, _, _, _, _⟩) (v := ?va8) rfl (by kernel_rfl) (by kernel_rfl) (by kernel_rfl) (fun _ _ _ h => h) (Or.inl ⟨by rfl, ?hya8⟩) hHeld ?_
                    case hya8 => (intro wS hSw; (try dsimp only at hSw); go_simp; (first | done | with_reducible rfl))
                    try simp only [Act.put, List.setIfInBounds_toArray, List.set_cons_zero, List.set_cons_succ]
                    refine wpAnyH_take (i := 9) (oi := ⟨_, _, _, _, _, _⟩) (v := ?va9) rfl (by kernel_rfl) (by kernel_rfl) (by kernel_rfl) (fun _ _ _ h => h) (Or.inl ⟨by rfl, ?hya9⟩) hHeld ?_
                    case hya9 => (intro wS hSw; (try dsimp only at hSw); go_simp; (first | done | with_reducible rfl))
                    try simp only [Act.put, List.setIfInBounds_toArray, List.set_cons_zero, List.set_cons_succ]
                    refine wpAnyH_take (i := 10) (oi := ⟨_, _, _, _, _, _⟩) (v := ?va10) rfl (by kernel_rfl) (by kernel_rfl) (by kernel_rfl) (fun _ _ _ h => h) (Or.inl ⟨by rfl, ?hya10⟩) hHeld ?_
                    case hya10 => (intro wS hSw; (try dsimp only at hSw); go_simp; (first | done | with_reducible rfl))
                    try simp only [Act.put, List.setIfInBounds_toArray, List.set_cons_zero, List.set_cons_succ]
                    refine wpAnyH_ready (rs := [6]) (by kernel_rfl) (by simp) ?_
                    refine AllReadyH.cons (o := ⟨_, _, _, _, _, _⟩) rfl (fun K hK => ?_) AllReadyH.nil
                    go_simp
                    refine HWT.out.mono ?_
                    rintro e v1 ⟨rfl, hv1⟩
                    have hv1 := hv1.symm
                    subst hv1
                    go_wp2_with fail
                    refine hK.out _ _ ?ka6 (fun hNew => ?_)
                    case ka6 => (try dsimp only); exact hHeld
                    clear hK K hHeld
                    have hHeld := hNew
                    clear hNew
                    try simp only [Act.put, List.setIfInBounds_toArray, List.set_cons_zero, List.set_cons_succ]
                    refine wpAnyH_take (i := 11) (oi := ⟨_, _, _, _, _, _⟩) (v := ?va11) rfl (by kernel_rfl) (by kernel_rfl) (by kernel_rfl) (fun _ _ _ h => h) (Or.inl ⟨by rfl, ?hya11⟩) hHeld ?_
                    case hya11 => (intro wS hSw; (try dsimp only at hSw); go_simp; (first | done | with_reducible rfl))
                    try simp only [Act.put, List.setIfInBounds_toArray, List.set_cons_zero, List.set_cons_succ]
                    refine wpAnyH_take (i := 12) (oi := ⟨_, _, _, _, _, _⟩) (v := ?va12) rfl (by kernel_rfl) (by kernel_rfl) (by kernel_rfl) (fun _ _ _ h => h) (Or.inl ⟨by rfl, ?hya12⟩) hHeld ?_
                    case hya12 => (intro wS hSw; (try dsimp only at hSw); go_simp; (first | done | with_reducible rfl))
                    try simp only [Act.put, List.setIfInBounds_toArray, List.set_cons_zero, List.set_cons_succ]
                    refine wpAnyH_done (by kernel_rfl) ?_ _
                    refine NoPanic.normal ?_
                    clear hHeld
                    go_wp2_with fail
                    go_roundw
                    case rel => exact ⟨t + 1, HTN.out, nxt_num t (by have := HTN.out; have := HOK.out.most; have := HNN.out; omega), HGD.out⟩
                    case measure => exact nxt_meas _ t HTN.out (by have := HTN.out; have := HOK.out.most; have := HNN.out; omega)
                · have htd : decide ((t : Int) < (n : Int)) = false := by simp; omega
                  have htd2 : decide (t < n) = false := by simpa using htn
                  have HONE8 := Lib.hid (HONE7.out.grown HGQ.out)
                  clear htn
                  go_wp2_with fail
                  go_roundw
                  case rel => exact ⟨k + 1, S1, D1, HLT.out, nxt_num k (by have := HLT.out; have := HL.out.1; omega), HONE8.out⟩
                  case measure => exact nxt_meas _ k HLT.out (by have := HLT.out; have := HL.out.1; omega)
    · have hkd : decide ((k : Int) < (l.length : Int)) = false := by simp; omega
      have hkd2 : decide (k < l.length) = false := by simpa using hlt
      clear hlt
      go_wp2_with fail
      refine (works_at _).mono ?_
      rintro e z ⟨rfl, hg⟩
      have HGZ := Lib.hid hg
      clear hg
      go_wp2_with fail
      go_ret
      exact ⟨rfl, FIN.out _ (HI.out.off.trans (Off.of_grown HGZ.out (by simp)))⟩
end Go.Proofs.Ytonfpifikblnjaa.Net
