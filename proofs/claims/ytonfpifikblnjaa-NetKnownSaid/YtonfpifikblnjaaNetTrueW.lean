/- NetTrue: the walk. -/
import Derived.Test.YtonfpifikblnjaaNetTrueData
namespace Go.Proofs.Ytonfpifikblnjaa.Net
open Go.RowKit

set_option maxRecDepth 100000 in
set_option maxHeartbeats 8000000 in
theorem true_walk (ends : Int) (A : Option Addr) (l : List ActV) (cap : Nat) (w : World) (h : ActsAt w (fun b => w.heap.size ≤ b) A l) (hc1 : l.length ≤ cap) (hc2 : cap ≤ maxLen) :
    Calls Try.prog 5 #[.int .i64 ends, .slice A l.length cap] w fun e w' => e = .returned (.bool true) ∧ Below w.heap.size w w' := by
  have FIN : Hid (∀ w' : World, Off (fun b => w.heap.size ≤ b) w w' → Below w.heap.size w w') := fun w' h => h.below (Nat.le_refl _) (fun k hk h => by omega)
  have HF := Lib.hid (few_at _ A l cap 350 w h hc1 hc2)
  have HA := Lib.hid h
  obtain ⟨r, hr⟩ : ∃ r, r = fewB l 350 := ⟨_, rfl⟩
  rw [← hr] at HF
  have HR := Lib.hid hr
  clear h hc1 hc2 hr
  go_enter Try.func5, Try.ntmps5
  go_wp2_with fail
  refine HF.out.mono ?_
  rintro e w' ⟨rfl, rfl⟩
  cases r
  case false =>
    go_wp2_with fail
    refine (works_at w').mono ?_
    rintro e w2 ⟨rfl, hg⟩
    have HG := Lib.hid hg
    clear hg
    go_wp2_with fail
    go_ret
    exact ⟨rfl, FIN.out _ (Off.of_grown HG.out (by simp))⟩
  obtain ⟨hl350, hl100⟩ := fewB_true HR.out.symm
  have HL := Lib.hid (And.intro hl350 hl100)
  clear HF HR hl350 hl100
  go_wp2_with fail
  refine (new_at ends w').mono ?_
  rintro e w0 ⟨nb, rfl, hn, hg⟩
  generalize (max 1 (min 64 ends)).toNat = n at hn
  have HI : Hid (TrueInv w' w0 n nb 0 (fun b => w'.heap.size ≤ b ∧ b < w0.heap.size) (fresh n) (.slice none 0 0) []) :=
    ⟨hn, World.ownsRow_nil _ _ _ _, Nat.le_refl _, by simp [Value.ownBlock], fun p hp => by obtain ⟨j, hj⟩ := hp; simp [fresh] at hj, fun b hb => hb.1, Off.of_grown hg (by simp)⟩
  clear hn hg
  go_wp2_with fail
  go_loopw [6, 7] (fun sv iv wr => ∃ (k : Nat) (S : Nat → Prop) (D : Nt) (sl : List ActV), k ≤ l.length ∧ iv = .int .i64 (k : Int) ∧ TrueInv w' wr n nb k S D sv sl) (fun _ iv _ => l.length - (intOf iv).toNat)
  case atStart => exact ⟨0, _, _, _, Nat.zero_le _, rfl, HI.out⟩
  case round =>
    obtain ⟨k, S, D, sl, hk, rfl, hI⟩ := hrel
    clear HI
    have HI := Lib.hid hI
    clear hI
    by_cases hlt : k < l.length
    · have hkd : decide ((k : Int) < (l.length : Int)) = true := by simp; omega
      have hkd2 : decide (k < l.length) = true := by simpa using hlt
      have k0 : (0 : Int) ≤ (k : Int) := by omega
      have k1 : (k : Int) < (l.length : Int) := by omega
      obtain ⟨ga, off, c, rfl, hc, hga, hgalt, a0, a1, a2, a3⟩ := (HA.out.off HI.out.off).at_ hlt
      have HDO := Lib.hid (does_at S nb D c wr HI.out.net (by have := HL.out.2 c (List.mem_of_getElem? hc); omega))
      have hhas := does_has D c
      have hgot := does_got D c
      generalize D.does c = dc at HDO hhas hgot
      obtain ⟨⟨code, op⟩, D1⟩ := dc
      have HHAS : Hid (∀ p, D1.has p → D.has p ∨ (c.k.toNat % 8 < 2 ∧ code = 0 ∧ p = ⟨c.i, c.to, c.b⟩)) := hhas
      obtain ⟨p, hp⟩ : ∃ p : Pk, p = op.getD ⟨0, 0, []⟩ := ⟨_, rfl⟩
      obtain ⟨ok, hok⟩ : ∃ ok : Bool, ok = op.isSome := ⟨_, rfl⟩
      have HGOT : Hid (ok = true → D.has p) := fun e => by
        rw [e] at hok
        cases op with
        | none => cases hok
        | some q => exact hgot p (by rw [hp]; rfl)
      have hdo := HDO.out
      rw [show (((code, op), D1) : (Int × Option Pk) × Nt).1.2 = op from rfl, ← hp, ← hok] at hdo
      dsimp only at hdo
      clear HDO
      have HDO := Lib.hid hdo
      clear hp hok hdo
      have HC := Lib.hid (And.intro hc (And.intro hga hgalt))
      have HLT := Lib.hid hlt
      have HAT : Hid (ActAt wr ga (off + k * 4) c) := ⟨a0, a1, a2, a3⟩
      clear hhas hgot hc hga hgalt hlt
      go_wp2_with fail
      refine HDO.out.mono ?_
      rintro e v ⟨Ap, capp, rfl, hby, S1, hn1, ht1⟩
      have HBY := Lib.hid hby
      have HN1 := Lib.hid hn1
      have HT1 := Lib.hid ht1
      clear hby hn1 ht1 HDO a0 a1 a2 a3
      go_upto_region 9 with fail
      have hgx := World.grownBy_alloc v (.cells #[.int .i64 p.src, .int .i64 p.to, .slice Ap p.b.length capp] 37) none
      have hbx := (MapKept.heap_alloc v (.cells #[.int .i64 p.src, .int .i64 p.to, .slice Ap p.b.length capp] 37)).1
      generalize v.alloc (.cells #[.int .i64 p.src, .int .i64 p.to, .slice Ap p.b.length capp] 37) = x at hgx hbx ⊢
      have hgS : ¬ S1 v.heap.size := fun hs => Nat.lt_irrefl _ (HT1.out.lt _ hs)
      have hgu : ∀ g, u6.ownBlock = some g → g ≠ v.heap.size := fun g hg e => by
        have := (HI.out.row.lt g hg).2
        have := HT1.out.off.size
        omega
      have hgB : w'.heap.size ≤ v.heap.size := Nat.le_trans HI.out.off.size HT1.out.off.size
      generalize v.heap.size = gp at hbx hgS hgu hgB ⊢
      have HBX := Lib.hid (And.intro hbx (And.intro hgS (And.intro hgu hgB)))
      have HBYX := Lib.hid (HBY.out.grown hgx)
      have hTx := HT1.out.more hgx
      have HX : Hid (NetAt x S1 nb D1 ∧ Turn S S1 wr x) := ⟨HN1.out.grown hgx, hTx⟩
      have HATX : Hid (ActAt x ga (off + k * 4) c) := HAT.out.off hTx.off.toOff (fun hs => HC.out.2.1 (HI.out.from_ _ hs))
      clear hbx hgS hgu hgB hgx hTx HBY HN1 HT1 HAT
      go_cut [45] from 19 to 59 (fun s45 wx => wx = x ∧ ∃ b : Bool, s45 = .bool b ∧ (b = true → c.k.toNat % 8 < 2 ∧ code = 0) ∧ (b = false → ¬ (c.k.toNat % 8 < 2 ∧ code = 0)))
      case first =>
        obtain ⟨a0, a1, a2, a3⟩ := HATX.out
        clear a1 a2 a3
        by_cases hk2 : c.k.toNat % 8 < 2
        · have hm : decide ((c.k.toNat : Int) % 8 < 2) = true := decide_eq_true (by omega)
          have HK2 := Lib.hid hk2
          clear hk2
          by_cases hcode : code = 0
          · subst hcode
            go_wp2_with fail
            go_meet
            exact ⟨rfl, true, rfl, (fun _ => ⟨HK2.out, by first | rfl | trivial⟩), (fun e => by cases e)⟩
          · have HCO := Lib.hid hcode
            have hcb : (code == 0) = false := by simpa using hcode
            go_wp2_with fail
            go_meet
            exact ⟨rfl, false, by first | rfl | exact congrArg Value.bool hcb, (fun e => by cases e), (fun _ h => HCO.out h.2)⟩
        · have hm : decide ((c.k.toNat : Int) % 8 < 2) = false := decide_eq_false (by omega)
          have HK2 := Lib.hid hk2
          clear hk2
          go_wp2_with fail
          go_meet
          exact ⟨rfl, false, rfl, (fun e => by cases e), (fun _ h => HK2.out h.1)⟩
      case rest =>
        obtain ⟨hx, b, rfl, hb1, hb0⟩ := hcut
        have hx := hx.symm
        subst hx
        have HB := Lib.hid (And.intro hb1 hb0)
        clear hb1 hb0
        go_upto_if 45 with fail
        go_cut [6] from 19 to 59 (fun s6 wx => ∃ sl', TrueInv w' wx n nb (k + 1) S1 D1 s6 sl' ∧ (∀ q, amongB sl q = true → amongB sl' q = true) ∧ wx.heap[gp]? = some (.cells #[.int .i64 p.src, .int .i64 p.to, .slice Ap p.b.length capp] 37) ∧ Bytes wx (fun _ => True) Ap p.b)
        case first =>
          cases b
          case false =>
            go_wp2_with fail
            go_meet
            have h1 := HI.out.turn HX.out.1 HX.out.2 (fun q hq => by
              rcases HHAS.out q hq with h | h
              · exact HI.out.data q h
              · exact absurd ⟨h.1, h.2.1⟩ (HB.out.2 (by first | rfl | trivial)))
            exact ⟨sl, ⟨h1.net, h1.row, Nat.le_succ_of_le h1.few, h1.own, h1.data, h1.from_, h1.off⟩, fun _ h => h, HBX.out.1, HBYX.out⟩
          case true =>
            have h1 := HI.out.turn HX.out.1 HX.out.2
            have hrowx : ActRow x w'.heap.size u6 sl := HI.out.row.off HX.out.2.off.toOff HI.out.own
            have hgA := World.grownBy_alloc x (.cells #[.int .u8 (c.k.toNat : Int), .int .i64 c.i, .int .i64 c.to, strV c.b] 33) none
            have hbA := (MapKept.heap_alloc x (.cells #[.int .u8 (c.k.toNat : Int), .int .i64 c.i, .int .i64 c.to, strV c.b] 33)).1
            have HROW : Hid (ActRow (x.alloc (.cells #[.int .u8 (c.k.toNat : Int), .int .i64 c.i, .int .i64 c.to, strV c.b] 33)) w'.heap.size u6 sl) := row_grown hrowx hgA
            have HBA := Lib.hid hbA
            have HGA := Lib.hid hgA
            have HFEW : Hid (sl.length < 100000) := by show _ < _; have := HI.out.few; have := HL.out.1; omega
            have HBS : Hid (w'.heap.size ≤ (x.alloc (.cells #[.int .u8 (c.k.toNat : Int), .int .i64 c.i, .int .i64 c.to, strV c.b] 33)).heap.size) := Nat.le_trans HI.out.off.size (Nat.le_trans HX.out.2.off.size hgA.size)
            obtain ⟨a0, a1, a2, a3⟩ := HATX.out
            clear h1 hrowx hgA hbA
            go_wp2_with (first
              | (at_builtin; refine wpList_append_act rfl (.tmp 46) (.tmp 51) rfl w'.heap.size u6 sl c rfl HROW.out x.heap.size rfl HBA.out HFEW.out HBS.out ?_; intro v3 w3 hr3 hg3 hob3; go_frame)
              | fail)
            go_meet
            have hS1 : ∀ b, S1 b → b < x.heap.size := HX.out.2.lt
            have hg1 := HGA.out.size
            have hown3 : ∀ g, v3.ownBlock = some g → ¬ S1 g := by
              intro g hg hs
              rcases hob3 with e | e
              · rw [e] at hg
                rcases HX.out.2.sub g hs with e2 | e2
                · exact HI.out.own g hg e2
                · have := (HI.out.row.lt g hg).2; omega
              · rw [e] at hg
                have := Option.some.inj hg
                have := hS1 g hs
                omega
            -- the append turns nothing but the row itself
            have ho3 : Off (fun b => some b = u6.ownBlock) x w3 := ⟨hg3.os.trans HGA.out.os, hg3.tape.trans HGA.out.tape, hg3.output.trans HGA.out.output, Nat.le_trans hg1 hg3.size, fun b hb hne => (hg3.block b (by omega) hne).trans (HGA.out.block b hb (by simp))⟩
            have hu : ∀ b, some b = u6.ownBlock → ¬ S1 b ∧ w'.heap.size ≤ b ∧ b < wr.heap.size := fun b hb => ⟨fun hs => by
              rcases HX.out.2.sub b hs with e2 | e2
              · exact HI.out.own b hb.symm e2
              · have := (HI.out.row.lt b hb.symm).2; omega, (HI.out.row.lt b hb.symm).1, (HI.out.row.lt b hb.symm).2⟩
            have hu8 : Typed x gp 37 := ⟨_, _, HBX.out.1⟩
            refine ⟨sl ++ [c], ⟨HX.out.1.other ho3 (fun b hb e => (hu b e).1 hb), hr3, by rw [List.length_append]; have := HI.out.few; simp; omega, hown3, fun q hq => ?_, fun b hb => ?_, ?_⟩, fun q hq => amongB_append hq, ?_, ?_⟩
            · rcases HHAS.out q hq with h | ⟨_, _, h⟩
              · exact amongB_append (HI.out.data q h)
              · subst h
                exact amongB_mem (c := c) (by simp) rfl rfl rfl
            · rcases HX.out.2.sub b hb with e | e
              · exact HI.out.from_ b e
              · have := HI.out.off.size; omega
            · exact (HI.out.off.trans (HX.out.2.off.toOff.mono (fun b _ hb => HI.out.from_ b hb))).trans (ho3.mono (fun b _ hb => (hu b hb).2.1))
            · exact (ho3.block gp hu8.lt (fun e => HBX.out.2.2.1 gp e.symm rfl)).trans HBX.out.1
            · rcases HBYX.out with e | ⟨g, off2, e, _, hT, hr⟩
              · exact .inl e
              · have hne : ¬ some g = u6.ownBlock := by
                  intro e2
                  have hT2 : Typed x g 33 := by
                    rcases (HI.out.row.off HX.out.2.off.toOff HI.out.own).2 with ⟨e3, _⟩ | ⟨g', _, cur, e3, _, hb3, _⟩
                    · rw [e3] at e2; simp [Value.ownBlock] at e2
                    · rw [e3] at e2
                      simp only [Value.ownBlock, Option.some.injEq] at e2
                      subst e2
                      exact ⟨_, _, hb3⟩
                  exact (hT.ne hT2 (by decide)) rfl
                have hb3 := ho3.block g hT.lt hne
                exact .inr ⟨g, off2, e, trivial, let ⟨C, fr, hC⟩ := hT; ⟨C, fr, hb3.trans hC⟩, fun j u hj => (World.cell?_of_block (a := ⟨g, off2 + j, none⟩) hb3).trans (hr j u hj)⟩
        case rest =>
          obtain ⟨sl', hI1, hmono, hbx, hby⟩ := hcut
          have HI1 := Lib.hid hI1
          have HMONO := Lib.hid hmono
          have HBY1 := Lib.hid hby
          have e0 : wc.cell? ⟨gp, 0, none⟩ = some (.int .i64 p.src) := by simp only [World.cell?, hbx]; rfl
          have e1 : wc.cell? ⟨gp, 1, none⟩ = some (.int .i64 p.to) := by simp only [World.cell?, hbx]; rfl
          have e2 : wc.cell? ⟨gp, 2, none⟩ = some (.slice Ap p.b.length capp) := by simp only [World.cell?, hbx]; rfl
          clear hI1 hmono hbx hby
          cases ok
          case false =>
            go_wp2_with fail
            go_roundw
            case rel => exact ⟨k + 1, S1, D1, sl', HLT.out, nxt_num k (by have := HLT.out; have := HL.out.1; omega), HI1.out⟩
            case measure => exact nxt_meas _ k HLT.out (by have := HLT.out; have := HL.out.1; omega)
          case true =>
            obtain ⟨As, caps, rfl, hacts⟩ := HI1.out.row.acts
            have ham := among_at _ As sl' caps p Ap capp wc hacts (by have := HI1.out.few; have := HLT.out; have := HL.out.1; omega) HBY1.out
            rw [HMONO.out p (HI.out.data p (HGOT.out rfl))] at ham
            have HAM := Lib.hid ham
            clear ham hacts
            go_wp2_with fail
            refine HAM.out.mono ?_
            rintro e y ⟨rfl, hg⟩
            have HI2 := Lib.hid (HI1.out.grown hg)
            clear hg HAM
            go_wp2_with fail
            go_roundw
            case rel => exact ⟨k + 1, S1, D1, sl', HLT.out, nxt_num k (by have := HLT.out; have := HL.out.1; omega), HI2.out⟩
            case measure => exact nxt_meas _ k HLT.out (by have := HLT.out; have := HL.out.1; omega)
    · have hkd : decide ((k : Int) < (l.length : Int)) = false := by simp; omega
      have hkd2 : decide (k < l.length) = false := by simpa using hlt
      have HW := Lib.hid (way_at S nb D wr HI.out.net)
      clear hlt
      go_wp2_with fail
      refine HW.out.mono ?_
      rintro e y ⟨v, cs, rfl, hcs, hL, hg⟩
      have HI3 := Lib.hid (HI.out.grown hg)
      have hcl : cs.length ≤ 1000 := by
        have h1 := congrArg List.length hcs
        rw [List.length_map] at h1
        have := HI.out.net.ok.way
        omega
      obtain ⟨Ay, capy, rfl, hcap1, _, hcell⟩ := hL.open_
      obtain ⟨As, caps, rfl, hacts⟩ := HI3.out.row.acts
      have HCL := Lib.hid (And.intro hcap1 hcl)
      have HCELL := Lib.hid hcell
      have HCS := Lib.hid hcs
      have HLET := Lib.hid hL
      have HACTS := Lib.hid hacts
      clear hcs hL hg hcell hcap1 hcl hacts HW
      go_wp2_with fail
      go_loopw [12] (fun jv wr => ∃ j : Nat, j ≤ cs.length ∧ jv = .int .i64 (j : Int) ∧ y.grownBy wr none) (fun jv _ => cs.length - (intOf jv).toNat)
      case atStart => exact ⟨0, Nat.zero_le _, rfl, World.grownBy.refl _ _⟩
      case round =>
        obtain ⟨j, hj, rfl, hgy⟩ := hrel
        have HGY := Lib.hid hgy
        clear hgy
        by_cases hjn : j < cs.length
        · have hjd : decide ((j : Int) < (cs.length : Int)) = true := by simp; omega
          have hjd2 : decide (j < cs.length) = true := by simpa using hjn
          have j0 : (0 : Int) ≤ (j : Int) := by omega
          have j1 : (j : Int) < (cs.length : Int) := by omega
          obtain ⟨d, hd⟩ : ∃ d, cs[j]? = some d := ⟨_, List.getElem?_eq_getElem hjn⟩
          obtain ⟨gv, rfl, _, _, v0, v1, v2⟩ := HCELL.out j d hd
          have f0 := HGY.out.cell v0 (by simp)
          have f1 := HGY.out.cell v1 (by simp)
          have f2 := HGY.out.cell v2 (by simp)
          have hmem : d.1 ∈ D.row 0 := by rw [← HCS.out]; exact List.mem_map.2 ⟨d, List.mem_of_getElem? hd, rfl⟩
          have hbd := ((HLET.out.bytes d (List.mem_of_getElem? hd)).1.mono (T := fun _ => True) (fun _ _ _ => trivial)).grown HGY.out
          have hac : ActsAt _ (fun _ => False) As sl := HACTS.out.off (Off.of_grown HGY.out (by simp))
          have ham := among_at _ As sl caps d.1 d.2.1 d.2.2 _ hac (by have := HI.out.few; have := HL.out.1; omega) hbd
          rw [HI.out.data d.1 ⟨0, hmem⟩] at ham
          have HAM := Lib.hid ham
          have HJN := Lib.hid hjn
          have hjb := HCL.out
          clear hjn hd v0 v1 v2 hmem hbd hac ham
          go_wp2_with fail
          refine HAM.out.mono ?_
          rintro e z ⟨rfl, hg⟩
          have HGZ := Lib.hid hg
          clear hg HAM
          go_wp2_with fail
          go_roundw
          case rel => exact ⟨j + 1, HJN.out, by go_num, HGY.out.andThen HGZ.out (fun _ hj => .inr hj)⟩
          case measure => have := HJN.out; simp [intOf]; omega
        · have hjd : decide ((j : Int) < (cs.length : Int)) = false := by simp; omega
          have hjd2 : decide (j < cs.length) = false := by simpa using hjn
          clear hjn
          go_wp2_with fail
          refine (works_at _).mono ?_
          rintro e z ⟨rfl, hg⟩
          have HGZ := Lib.hid hg
          clear hg
          go_wp2_with fail
          go_ret
          exact ⟨rfl, FIN.out _ ((HI3.out.off.trans (Off.of_grown HGY.out (by simp))).trans (Off.of_grown HGZ.out (by simp)))⟩
end Go.Proofs.Ytonfpifikblnjaa.Net
