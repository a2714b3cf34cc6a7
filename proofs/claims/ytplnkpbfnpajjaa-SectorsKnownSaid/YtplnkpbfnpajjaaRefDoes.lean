/- The law's helper does. -/
import Derived.Test.YtplnkpbfnpajjaaRefTwo
namespace Go.Proofs.Ytplnkpbfnpajjaa.Sec
open Go.RowKit Go.Maps

/-- What a call does to a disk. -/
def didV (D : Dsk) (c : CallV) : Dsk :=
  match c.k.toNat % 9 with
  | 4 => D
  | 5 => { D with armed := if 0 ≤ c.i then some c.i.toNat else none }
  | 6 => { D with armed := none, off := true }
  | 7 => { D with armed := none, off := false }
  | 8 => { D with base := D.now, wr := [] }
  | _ => (wrote D c.i c.b).2
theorem didV_len (D : Dsk) (c : CallV) : (didV D c).wr.length ≤ D.wr.length + 1 ∧ (didV D c).n = D.n := by
  unfold didV
  split
  · exact ⟨Nat.le_succ _, rfl⟩
  · exact ⟨Nat.le_succ _, rfl⟩
  · exact ⟨Nat.le_succ _, rfl⟩
  · exact ⟨Nat.le_succ _, rfl⟩
  · exact ⟨Nat.zero_le _, rfl⟩
  · exact wrote_len D c.i c.b
theorem wf_i64_bounds {z : Int} (h : (Lit.int .i64 z).wf = true) : -9223372036854775808 ≤ z ∧ z ≤ 9223372036854775807 := by
  simpa [Lit.wf, IntKind.min, IntKind.max, IntKind.bits, IntKind.signed] using h

theorem Off.trans2 {S U : Nat → Prop} {a b c : World} (h : Off S a b) (k : Off U b c) (hU : ∀ x, U x → a.heap.size ≤ x) : Off S a c :=
  ⟨k.os.trans h.os, k.tape.trans h.tape, k.output.trans h.output, Nat.le_trans h.size k.size, fun j hj hs => (k.block j (Nat.lt_of_lt_of_le hj h.size) (fun x => by have := hU j x; omega)).trans (h.block j hj hs)⟩
theorem Two.off {v v' : World} {S T U : Nat → Prop} {d m : Nat} {D : Dsk} (h : Two v S T d m D) (ho : Off U v v') (hU : ∀ b, b < v.heap.size → U b → ¬ S b ∧ ¬ T b) : Two v' S T d m D :=
  ⟨h.disk.off ho (fun b hb hs hu => (hU b hb hu).1 hs), h.ref.off ho (fun b hb ht hu => (hU b hb hu).2 ht), h.full, h.apart, fun b hb => Nat.lt_of_lt_of_le (h.sB b hb) ho.size, fun b hb => Nat.lt_of_lt_of_le (h.tB b hb) ho.size⟩
theorem yields_conv {ops : Array Oper} {U : Nat → Prop} {Sw : World → Prop} {op : Oper} {a : Act} (hw : Region.wanted op (yielded ops a.tmps) = true) (x : Operand) (ho : op.op = .convert 29 9 x)
    (A : Option Addr) (l : List UInt8) (cap : Nat) (hx : a.eval x = .slice A l.length cap) (hS : ∀ w, Sw w → RowB w U A l) : YieldsIf Try.prog ops Sw op (strV l) a :=
  .inl ⟨hw, fun w hw' => by
    unfold execOp
    simp only [ho, hx, Sem.run_bind, run_str_row (hS w hw') cap, Result.andThen_ok, Sem.run_pure]⟩

set_option maxRecDepth 100000 in
set_option maxHeartbeats 8000000 in
theorem does_at (S T : Nat → Prop) (d m : Nat) (D : Dsk) (c : CallV) (A : Option Addr) (cap : Nat) (w : World) (h : Two w S T d m D) (hr : RowB w (fun b => S b ∨ T b ∨ w.heap.size ≤ b) A c.b) (hi : (Lit.int .i64 c.i).wf = true) (hb : c.b.length ≤ maxLen) (hn : D.wr.length + 1 < 1000000) :
    Calls Try.prog 18 #[.pointer (some ⟨d, 0, none⟩), .pointer (some ⟨m, 0, none⟩), .agg #[.int .u8 (c.k.toNat : Int), .int .i64 c.i, .slice A c.b.length cap]] w fun e w' => e = .returned (.bool true) ∧
      ∃ S' T', Two w' S' T' d m (didV D c) ∧ (∀ b, S' b → S b ∨ w.heap.size ≤ b) ∧ (∀ b, T' b → T b ∨ w.heap.size ≤ b) ∧ Off (fun b => S b ∨ T b) w w' := by
  have hb63 := wf_i64_bounds hi
  have hbl : c.b.length ≤ 9223372036854775807 := by unfold maxLen at hb; omega
  have HSB0 := Lib.hid (And.intro h.sB h.tB)
  -- the call's own block, and its bytes once more
  have hga := World.grownBy_alloc w (.cells #[.int .u8 (c.k.toNat : Int), .int .i64 c.i, .slice A c.b.length cap] 31) none
  have hsa : (w.alloc (.cells #[.int .u8 (c.k.toNat : Int), .int .i64 c.i, .slice A c.b.length cap] 31)).heap.size = w.heap.size + 1 := World.size_alloc ..
  have hha := (MapKept.heap_alloc w (.cells #[.int .u8 (c.k.toNat : Int), .int .i64 c.i, .slice A c.b.length cap] 31)).1
  have hra : RowB (w.alloc (.cells #[.int .u8 (c.k.toNat : Int), .int .i64 c.i, .slice A c.b.length cap] 31)) (fun b => S b ∨ T b ∨ w.heap.size ≤ b) A c.b := hr.grown hga
  have hcv := run_str_row hra cap
  obtain ⟨v, capi, hcb, hvr, hvb, hgv, hsv⟩ := run_bytes_new (w.alloc (.cells #[.int .u8 (c.k.toNat : Int), .int .i64 c.i, .slice A c.b.length cap] 31)) c.b
  rw [hsa] at hcb hvr hvb hsv
  have hg2 := hga.andThen hgv (fun _ hj => .inr hj)
  have hhv := (hgv.block w.heap.size (by omega) (by simp)).trans hha
  have ck := cell_blk hhv 0
  have ci := cell_blk hhv 1
  have cb := cell_blk hhv 2
  have HV := Lib.hid (And.intro hvr (And.intro hvb (And.intro hg2 (And.intro hsv hhv))))
  have HR := Lib.hid (hra.grown hgv)
  have H := Lib.hid (h.grown hg2)
  clear h hr hga hsa hha hra hvr hvb hgv hsv hg2 hhv
  obtain ⟨r, hrq⟩ : ∃ r : Nat, r = c.k.toNat % 9 := ⟨_, rfl⟩
  have hrl : r < 9 := by omega
  have hrem : Int.tmod (c.k.toNat : Int) 9 = (r : Int) := by rw [Int.tmod_eq_emod_of_nonneg (by omega)]; omega
  have hrem2 : ((c.k.toNat : Int) % 9) = (r : Int) := by omega
  have HRQ := Lib.hid hrq
  clear hrq
  go_enter Try.func18, Try.ntmps18
  have HSB : Hid ((∀ b, S b → b < w.heap.size) ∧ ∀ b, T b → b < w.heap.size) := HSB0.out
  have HNW : Hid (¬ (S w.heap.size ∨ T w.heap.size)) := by
    rintro (hs | ht)
    · have := HSB.out.1 _ hs; omega
    · have := HSB.out.2 _ ht; omega
  have hrc : r = 4 ∨ r = 5 ∨ r = 6 ∨ r = 7 ∨ r = 8 ∨ r < 4 := by omega
  rcases hrc with rfl | rfl | rfl | rfl | rfl | hr4
  · go_wp2_with fail
    rcases askedN_cases D c.i with hx | hx | ⟨hx, hoff, hz0, hzi⟩
    · refine (read_refused _ d c.i 20 D v H.out.disk hx (.inl rfl)).mono ?_
      rintro e v1 ⟨rfl, rfl⟩
      go_wp2_with fail
      refine (rread_refused _ m c.i 20 D v H.out.ref hx (.inl rfl)).mono ?_
      rintro e vz ⟨rfl, rfl⟩
      have HE : Hid (∃ S' T', Two v S' T' d m (didV D c) ∧ (∀ b, S' b → S b ∨ v.heap.size ≤ b) ∧ (∀ b, T' b → T b ∨ v.heap.size ≤ b)) := ⟨S, T, (by unfold didV; rw [← HRQ.out]; exact H.out), fun _ h => .inl h, fun _ h => .inl h⟩
      have HOZ : Hid (Off (fun b => S b ∨ T b) v v) := Off.refl _ _
      have hcn : ∀ w : World, (convert 29 9 (.slice none 0 0)).run Try.prog w = .ok (.string ⟨#[]⟩) w := fun w => run_convert_bytes_nil (P := Try.prog) w 29 5 Try.underlying29 Try.underlying5 0 0 _ Try.underlying9
      obtain ⟨vz, hvz⟩ : ∃ vz, vz = v := ⟨_, rfl⟩
      have HVZ := Lib.hid hvz
      clear ck ci cb hcv hcb hvz hx
      go_wp2_with fail
      rw [← HVZ.out]
      rw [show Off (fun b => S b ∨ T b) v v = Off (fun b => S b ∨ T b) v vz by rw [HVZ.out]] at HOZ
      rw [show (∃ S' T', Two v S' T' d m (didV D c) ∧ (∀ b, S' b → S b ∨ v.heap.size ≤ b) ∧ (∀ b, T' b → T b ∨ v.heap.size ≤ b)) = (∃ S' T', Two vz S' T' d m (didV D c) ∧ (∀ b, S' b → S b ∨ v.heap.size ≤ b) ∧ (∀ b, T' b → T b ∨ v.heap.size ≤ b)) by rw [HVZ.out]] at HE
      obtain ⟨S', T', htw, hSb, hTb⟩ := HE.out
      obtain ⟨hvr, hvb, hg2, hsv, hhv⟩ := HV.out
      have hnb : ∀ b, w.heap.size ≤ b → ¬ (S b ∨ T b) := by
        intro b hb
        rintro (hs | ht)
        · have := HSB.out.1 b hs; omega
        · have := HSB.out.2 b ht; omega
      have hhz := (HOZ.out.block w.heap.size (by omega) (hnb _ (Nat.le_refl _))).trans hhv
      have c2z := cell_blk hhz 2
      have hzr : vz.rangeAt (w.heap.size + 1) 0 (u8s c.b) := fun j u hj => cell_off HOZ.out (hnb _ (by omega)) (hvr j u hj)
      have hzb : ByteAt vz (w.heap.size + 1) c.b.length := fun j hj => by
        obtain ⟨⟨y, hy⟩, hf⟩ := hvb j hj
        refine ⟨⟨y, cell_off HOZ.out (hnb _ (by omega)) hy⟩, ?_⟩
        have hk := HOZ.out.block (w.heap.size + 1) (by omega) (hnb _ (by omega))
        rw [← hf]
        exact World.frozen?_of_block (a := ⟨w.heap.size + 1, j, none⟩) hk
      have hcz1 := run_string vz (w.heap.size + 1) 0 c.b capi hzr
      have hcz2 := run_str_row ((HR.out.mono (T := fun b => S b ∨ T b) (fun b _ hb => by rcases hb with h | h; exact .inl h; exact .inr (.inl h))).off HOZ.out) cap
      have HZB := Lib.hid hzb
      have HTW := Lib.hid (And.intro htw (And.intro hSb hTb))
      have HGI : Hid (¬ S (w.heap.size + 1) ∧ ¬ T (w.heap.size + 1)) := ⟨fun x => hnb _ (by omega) (.inl x), fun x => hnb _ (by omega) (.inr x)⟩
      clear hvr hvb hg2 hsv hhv hnb hhz hzr hzb htw hSb hTb
      go_wp2_with fail
      try (rw [hcz1]; simp only [Result.andThen]; rw [Oper.upon_value]; go_wp2_with fail)
      try (rw [hcz2]; simp only [Result.andThen]; rw [Oper.upon_value]; go_wp2_with fail)
      go_loopw [13] (fun tv wq => ∃ t : Nat, t ≤ c.b.length ∧ tv = .int .i64 (t : Int) ∧ ByteAt wq (w.heap.size + 1) c.b.length ∧ Off (fun b => b = w.heap.size + 1) vz wq) (fun tv _ => c.b.length - (intOf tv).toNat)
      case atStart => exact ⟨0, Nat.zero_le _, rfl, HZB.out, Off.refl _ _⟩
      case round =>
        obtain ⟨t, ht, rfl, hB, hoq⟩ := hrel
        have HB := Lib.hid hB
        have HOQ := Lib.hid hoq
        clear hB hoq
        by_cases htt : t < c.b.length
        · have hd1 : decide ((t : Int) < (c.b.length : Int)) = true := by simp; omega
          obtain ⟨⟨y, hy⟩, hzf⟩ := HB.out t htt
          have t0 : (0 : Int) ≤ (t : Int) := by omega
          have t1 : (t : Int) < (c.b.length : Int) := by omega
          go_wp2_with fail
          go_roundw
          case rel => exact ⟨t + 1, by omega, by go_num, HB.out.set htt, HOQ.out.trans (grown_off (grown_set _ (w.heap.size + 1) t _) rfl)⟩
          case measure => simp [intOf]; omega
        · have hd1 : decide ((t : Int) < (c.b.length : Int)) = false := by simp; omega
          have hd2 : decide (t < c.b.length) = false := by simpa using htt
          clear htt ht
          go_wp2_with fail
          go_ret
          obtain ⟨htw, hSb, hTb⟩ := HTW.out
          obtain ⟨_, _, hg2, hsv, _⟩ := HV.out
          obtain ⟨hgS, hgT⟩ := HGI.out
          refine ⟨rfl, S', T', htw.off HOQ.out (fun b hb hU => ?_), fun b hb => (hSb b hb).imp id (fun h => by omega), fun b hb => (hTb b hb).imp id (fun h => by omega), ?_⟩
          · subst hU
            exact ⟨fun x => by rcases hSb _ x with h | h; exact hgS h; omega, fun x => by rcases hTb _ x with h | h; exact hgT h; omega⟩
          · exact (((Off.of_grown hg2 (by simp)).trans HOZ.out)).trans2 HOQ.out (fun b hb => by subst hb; omega)
    · refine (read_refused _ d c.i 2 D v H.out.disk hx (.inr rfl)).mono ?_
      rintro e v1 ⟨rfl, rfl⟩
      go_wp2_with fail
      refine (rread_refused _ m c.i 2 D v H.out.ref hx (.inr rfl)).mono ?_
      rintro e vz ⟨rfl, rfl⟩
      have HE : Hid (∃ S' T', Two v S' T' d m (didV D c) ∧ (∀ b, S' b → S b ∨ v.heap.size ≤ b) ∧ (∀ b, T' b → T b ∨ v.heap.size ≤ b)) := ⟨S, T, (by unfold didV; rw [← HRQ.out]; exact H.out), fun _ h => .inl h, fun _ h => .inl h⟩
      have HOZ : Hid (Off (fun b => S b ∨ T b) v v) := Off.refl _ _
      have hcn : ∀ w : World, (convert 29 9 (.slice none 0 0)).run Try.prog w = .ok (.string ⟨#[]⟩) w := fun w => run_convert_bytes_nil (P := Try.prog) w 29 5 Try.underlying29 Try.underlying5 0 0 _ Try.underlying9
      obtain ⟨vz, hvz⟩ : ∃ vz, vz = v := ⟨_, rfl⟩
      have HVZ := Lib.hid hvz
      clear ck ci cb hcv hcb hvz hx
      go_wp2_with fail
      rw [← HVZ.out]
      rw [show Off (fun b => S b ∨ T b) v v = Off (fun b => S b ∨ T b) v vz by rw [HVZ.out]] at HOZ
      rw [show (∃ S' T', Two v S' T' d m (didV D c) ∧ (∀ b, S' b → S b ∨ v.heap.size ≤ b) ∧ (∀ b, T' b → T b ∨ v.heap.size ≤ b)) = (∃ S' T', Two vz S' T' d m (didV D c) ∧ (∀ b, S' b → S b ∨ v.heap.size ≤ b) ∧ (∀ b, T' b → T b ∨ v.heap.size ≤ b)) by rw [HVZ.out]] at HE
      obtain ⟨S', T', htw, hSb, hTb⟩ := HE.out
      obtain ⟨hvr, hvb, hg2, hsv, hhv⟩ := HV.out
      have hnb : ∀ b, w.heap.size ≤ b → ¬ (S b ∨ T b) := by
        intro b hb
        rintro (hs | ht)
        · have := HSB.out.1 b hs; omega
        · have := HSB.out.2 b ht; omega
      have hhz := (HOZ.out.block w.heap.size (by omega) (hnb _ (Nat.le_refl _))).trans hhv
      have c2z := cell_blk hhz 2
      have hzr : vz.rangeAt (w.heap.size + 1) 0 (u8s c.b) := fun j u hj => cell_off HOZ.out (hnb _ (by omega)) (hvr j u hj)
      have hzb : ByteAt vz (w.heap.size + 1) c.b.length := fun j hj => by
        obtain ⟨⟨y, hy⟩, hf⟩ := hvb j hj
        refine ⟨⟨y, cell_off HOZ.out (hnb _ (by omega)) hy⟩, ?_⟩
        have hk := HOZ.out.block (w.heap.size + 1) (by omega) (hnb _ (by omega))
        rw [← hf]
        exact World.frozen?_of_block (a := ⟨w.heap.size + 1, j, none⟩) hk
      have hcz1 := run_string vz (w.heap.size + 1) 0 c.b capi hzr
      have hcz2 := run_str_row ((HR.out.mono (T := fun b => S b ∨ T b) (fun b _ hb => by rcases hb with h | h; exact .inl h; exact .inr (.inl h))).off HOZ.out) cap
      have HZB := Lib.hid hzb
      have HTW := Lib.hid (And.intro htw (And.intro hSb hTb))
      have HGI : Hid (¬ S (w.heap.size + 1) ∧ ¬ T (w.heap.size + 1)) := ⟨fun x => hnb _ (by omega) (.inl x), fun x => hnb _ (by omega) (.inr x)⟩
      clear hvr hvb hg2 hsv hhv hnb hhz hzr hzb htw hSb hTb
      go_wp2_with fail
      try (rw [hcz1]; simp only [Result.andThen]; rw [Oper.upon_value]; go_wp2_with fail)
      try (rw [hcz2]; simp only [Result.andThen]; rw [Oper.upon_value]; go_wp2_with fail)
      go_loopw [13] (fun tv wq => ∃ t : Nat, t ≤ c.b.length ∧ tv = .int .i64 (t : Int) ∧ ByteAt wq (w.heap.size + 1) c.b.length ∧ Off (fun b => b = w.heap.size + 1) vz wq) (fun tv _ => c.b.length - (intOf tv).toNat)
      case atStart => exact ⟨0, Nat.zero_le _, rfl, HZB.out, Off.refl _ _⟩
      case round =>
        obtain ⟨t, ht, rfl, hB, hoq⟩ := hrel
        have HB := Lib.hid hB
        have HOQ := Lib.hid hoq
        clear hB hoq
        by_cases htt : t < c.b.length
        · have hd1 : decide ((t : Int) < (c.b.length : Int)) = true := by simp; omega
          obtain ⟨⟨y, hy⟩, hzf⟩ := HB.out t htt
          have t0 : (0 : Int) ≤ (t : Int) := by omega
          have t1 : (t : Int) < (c.b.length : Int) := by omega
          go_wp2_with fail
          go_roundw
          case rel => exact ⟨t + 1, by omega, by go_num, HB.out.set htt, HOQ.out.trans (grown_off (grown_set _ (w.heap.size + 1) t _) rfl)⟩
          case measure => simp [intOf]; omega
        · have hd1 : decide ((t : Int) < (c.b.length : Int)) = false := by simp; omega
          have hd2 : decide (t < c.b.length) = false := by simpa using htt
          clear htt ht
          go_wp2_with fail
          go_ret
          obtain ⟨htw, hSb, hTb⟩ := HTW.out
          obtain ⟨_, _, hg2, hsv, _⟩ := HV.out
          obtain ⟨hgS, hgT⟩ := HGI.out
          refine ⟨rfl, S', T', htw.off HOQ.out (fun b hb hU => ?_), fun b hb => (hSb b hb).imp id (fun h => by omega), fun b hb => (hTb b hb).imp id (fun h => by omega), ?_⟩
          · subst hU
            exact ⟨fun x => by rcases hSb _ x with h | h; exact hgS h; omega, fun x => by rcases hTb _ x with h | h; exact hgT h; omega⟩
          · exact (((Off.of_grown hg2 (by simp)).trans HOZ.out)).trans2 HOQ.out (fun b hb => by subst hb; omega)
    · obtain ⟨j, hzj⟩ : ∃ j : Nat, c.i = j := ⟨c.i.toNat, by omega⟩
      have hzi : j < D.n := by omega
      have hrd := read_told2 _ d j D v H.out.disk hzi hoff
      rw [← hzj] at hrd
      refine hrd.mono ?_
      rintro e vz ⟨rfl, hl2, hr2, hs2, hg3, hb2⟩
      have hcv3 := run_string vz v.heap.size 0 (D.now j) 128 hr2
      rw [hl2] at hcv3
      have hrr := rread_told _ m j D vz (H.out.ref.grown hg3) hzi hoff H.out.full
      rw [← hzj] at hrr
      have HRR := Lib.hid hrr
      have ci3 : vz.cell? ⟨w.heap.size, 1, none⟩ = some (.int .i64 c.i) := hg3.cell ci (by simp)
      have HE : Hid (∃ S' T', Two vz S' T' d m (didV D c) ∧ (∀ b, S' b → S b ∨ v.heap.size ≤ b) ∧ (∀ b, T' b → T b ∨ v.heap.size ≤ b)) := ⟨S, T, (by unfold didV; rw [← HRQ.out]; exact H.out.grown hg3), fun _ h => .inl h, fun _ h => .inl h⟩
      have HOZ : Hid (Off (fun b => S b ∨ T b) v vz) := Off.of_grown hg3 (by simp)
      clear hl2 hr2 hs2 hg3 hb2 hx hz0 hrd hrr hzi hzj ck ci cb hcv hcb hoff
      go_wp2_with fail
      refine HRR.out.mono ?_
      rintro e v3 ⟨rfl, rfl⟩
      go_wp2_with fail
      obtain ⟨S', T', htw, hSb, hTb⟩ := HE.out
      obtain ⟨hvr, hvb, hg2, hsv, hhv⟩ := HV.out
      have hnb : ∀ b, w.heap.size ≤ b → ¬ (S b ∨ T b) := by
        intro b hb
        rintro (hs | ht)
        · have := HSB.out.1 b hs; omega
        · have := HSB.out.2 b ht; omega
      have hhz := (HOZ.out.block w.heap.size (by omega) (hnb _ (Nat.le_refl _))).trans hhv
      have c2z := cell_blk hhz 2
      have hzr : vz.rangeAt (w.heap.size + 1) 0 (u8s c.b) := fun j u hj => cell_off HOZ.out (hnb _ (by omega)) (hvr j u hj)
      have hzb : ByteAt vz (w.heap.size + 1) c.b.length := fun j hj => by
        obtain ⟨⟨y, hy⟩, hf⟩ := hvb j hj
        refine ⟨⟨y, cell_off HOZ.out (hnb _ (by omega)) hy⟩, ?_⟩
        have hk := HOZ.out.block (w.heap.size + 1) (by omega) (hnb _ (by omega))
        rw [← hf]
        exact World.frozen?_of_block (a := ⟨w.heap.size + 1, j, none⟩) hk
      have hcz1 := run_string vz (w.heap.size + 1) 0 c.b capi hzr
      have hcz2 := run_str_row ((HR.out.mono (T := fun b => S b ∨ T b) (fun b _ hb => by rcases hb with h | h; exact .inl h; exact .inr (.inl h))).off HOZ.out) cap
      have HZB := Lib.hid hzb
      have HTW := Lib.hid (And.intro htw (And.intro hSb hTb))
      have HGI : Hid (¬ S (w.heap.size + 1) ∧ ¬ T (w.heap.size + 1)) := ⟨fun x => hnb _ (by omega) (.inl x), fun x => hnb _ (by omega) (.inr x)⟩
      clear hvr hvb hg2 hsv hhv hnb hhz hzr hzb htw hSb hTb
      go_wp2_with fail
      try (rw [hcz1]; simp only [Result.andThen]; rw [Oper.upon_value]; go_wp2_with fail)
      try (rw [hcz2]; simp only [Result.andThen]; rw [Oper.upon_value]; go_wp2_with fail)
      go_loopw [13] (fun tv wq => ∃ t : Nat, t ≤ c.b.length ∧ tv = .int .i64 (t : Int) ∧ ByteAt wq (w.heap.size + 1) c.b.length ∧ Off (fun b => b = w.heap.size + 1) vz wq) (fun tv _ => c.b.length - (intOf tv).toNat)
      case atStart => exact ⟨0, Nat.zero_le _, rfl, HZB.out, Off.refl _ _⟩
      case round =>
        obtain ⟨t, ht, rfl, hB, hoq⟩ := hrel
        have HB := Lib.hid hB
        have HOQ := Lib.hid hoq
        clear hB hoq
        by_cases htt : t < c.b.length
        · have hd1 : decide ((t : Int) < (c.b.length : Int)) = true := by simp; omega
          obtain ⟨⟨y, hy⟩, hzf⟩ := HB.out t htt
          have t0 : (0 : Int) ≤ (t : Int) := by omega
          have t1 : (t : Int) < (c.b.length : Int) := by omega
          go_wp2_with fail
          go_roundw
          case rel => exact ⟨t + 1, by omega, by go_num, HB.out.set htt, HOQ.out.trans (grown_off (grown_set _ (w.heap.size + 1) t _) rfl)⟩
          case measure => simp [intOf]; omega
        · have hd1 : decide ((t : Int) < (c.b.length : Int)) = false := by simp; omega
          have hd2 : decide (t < c.b.length) = false := by simpa using htt
          clear htt ht
          go_wp2_with fail
          go_ret
          obtain ⟨htw, hSb, hTb⟩ := HTW.out
          obtain ⟨_, _, hg2, hsv, _⟩ := HV.out
          obtain ⟨hgS, hgT⟩ := HGI.out
          refine ⟨rfl, S', T', htw.off HOQ.out (fun b hb hU => ?_), fun b hb => (hSb b hb).imp id (fun h => by omega), fun b hb => (hTb b hb).imp id (fun h => by omega), ?_⟩
          · subst hU
            exact ⟨fun x => by rcases hSb _ x with h | h; exact hgS h; omega, fun x => by rcases hTb _ x with h | h; exact hgT h; omega⟩
          · exact (((Off.of_grown hg2 (by simp)).trans HOZ.out)).trans2 HOQ.out (fun b hb => by subst hb; omega)
  · go_wp2_with fail
    refine (fail_at _ d D c.i hb63.2 v (more_new S v.heap.size) H.out.disk').mono ?_
    rintro e v1 ⟨rfl, hd1, ho1⟩
    have HMID := Lib.hid (H.out.mid hd1 ho1)
    have ci1 : v1.cell? ⟨w.heap.size, 1, none⟩ = some (.int .i64 c.i) := cell_off HMID.out.off HNW.out ci
    clear hd1 ho1
    go_wp2_with fail
    refine (rfail_at (More T v1.heap.size) m D c.i hb63.2 v1 (HMID.out.ref.mono (fun _ _ h => .inl h))).mono ?_
    rintro e vz ⟨rfl, hr1, ho2⟩
    have hmt := HMID.out.two hr1 ho2 (H.out.full)
    have HE : Hid (∃ S' T', Two vz S' T' d m (didV D c) ∧ (∀ b, S' b → S b ∨ v.heap.size ≤ b) ∧ (∀ b, T' b → T b ∨ v.heap.size ≤ b)) := by
      obtain ⟨T', h1, h2, _⟩ := hmt
      exact ⟨_, T', (by unfold didV; rw [← HRQ.out]; exact h1), HMID.out.sS, h2⟩
    have HOZ : Hid (Off (fun b => S b ∨ T b) v vz) := by
      obtain ⟨T', _, _, h3⟩ := hmt
      exact h3
    clear ci1
    clear hmt hr1 ho2 HMID ck ci cb hcv hcb
    go_wp2_with fail
    obtain ⟨S', T', htw, hSb, hTb⟩ := HE.out
    obtain ⟨hvr, hvb, hg2, hsv, hhv⟩ := HV.out
    have hnb : ∀ b, w.heap.size ≤ b → ¬ (S b ∨ T b) := by
      intro b hb
      rintro (hs | ht)
      · have := HSB.out.1 b hs; omega
      · have := HSB.out.2 b ht; omega
    have hhz := (HOZ.out.block w.heap.size (by omega) (hnb _ (Nat.le_refl _))).trans hhv
    have c2z := cell_blk hhz 2
    have hzr : vz.rangeAt (w.heap.size + 1) 0 (u8s c.b) := fun j u hj => cell_off HOZ.out (hnb _ (by omega)) (hvr j u hj)
    have hzb : ByteAt vz (w.heap.size + 1) c.b.length := fun j hj => by
      obtain ⟨⟨y, hy⟩, hf⟩ := hvb j hj
      refine ⟨⟨y, cell_off HOZ.out (hnb _ (by omega)) hy⟩, ?_⟩
      have hk := HOZ.out.block (w.heap.size + 1) (by omega) (hnb _ (by omega))
      rw [← hf]
      exact World.frozen?_of_block (a := ⟨w.heap.size + 1, j, none⟩) hk
    have hcz1 := run_string vz (w.heap.size + 1) 0 c.b capi hzr
    have hcz2 := run_str_row ((HR.out.mono (T := fun b => S b ∨ T b) (fun b _ hb => by rcases hb with h | h; exact .inl h; exact .inr (.inl h))).off HOZ.out) cap
    have HZB := Lib.hid hzb
    have HTW := Lib.hid (And.intro htw (And.intro hSb hTb))
    have HGI : Hid (¬ S (w.heap.size + 1) ∧ ¬ T (w.heap.size + 1)) := ⟨fun x => hnb _ (by omega) (.inl x), fun x => hnb _ (by omega) (.inr x)⟩
    clear hvr hvb hg2 hsv hhv hnb hhz hzr hzb htw hSb hTb
    go_wp2_with fail
    try (rw [hcz1]; simp only [Result.andThen]; rw [Oper.upon_value]; go_wp2_with fail)
    try (rw [hcz2]; simp only [Result.andThen]; rw [Oper.upon_value]; go_wp2_with fail)
    go_loopw [13] (fun tv wq => ∃ t : Nat, t ≤ c.b.length ∧ tv = .int .i64 (t : Int) ∧ ByteAt wq (w.heap.size + 1) c.b.length ∧ Off (fun b => b = w.heap.size + 1) vz wq) (fun tv _ => c.b.length - (intOf tv).toNat)
    case atStart => exact ⟨0, Nat.zero_le _, rfl, HZB.out, Off.refl _ _⟩
    case round =>
      obtain ⟨t, ht, rfl, hB, hoq⟩ := hrel
      have HB := Lib.hid hB
      have HOQ := Lib.hid hoq
      clear hB hoq
      by_cases htt : t < c.b.length
      · have hd1 : decide ((t : Int) < (c.b.length : Int)) = true := by simp; omega
        obtain ⟨⟨y, hy⟩, hzf⟩ := HB.out t htt
        have t0 : (0 : Int) ≤ (t : Int) := by omega
        have t1 : (t : Int) < (c.b.length : Int) := by omega
        go_wp2_with fail
        go_roundw
        case rel => exact ⟨t + 1, by omega, by go_num, HB.out.set htt, HOQ.out.trans (grown_off (grown_set _ (w.heap.size + 1) t _) rfl)⟩
        case measure => simp [intOf]; omega
      · have hd1 : decide ((t : Int) < (c.b.length : Int)) = false := by simp; omega
        have hd2 : decide (t < c.b.length) = false := by simpa using htt
        clear htt ht
        go_wp2_with fail
        go_ret
        obtain ⟨htw, hSb, hTb⟩ := HTW.out
        obtain ⟨_, _, hg2, hsv, _⟩ := HV.out
        obtain ⟨hgS, hgT⟩ := HGI.out
        refine ⟨rfl, S', T', htw.off HOQ.out (fun b hb hU => ?_), fun b hb => (hSb b hb).imp id (fun h => by omega), fun b hb => (hTb b hb).imp id (fun h => by omega), ?_⟩
        · subst hU
          exact ⟨fun x => by rcases hSb _ x with h | h; exact hgS h; omega, fun x => by rcases hTb _ x with h | h; exact hgT h; omega⟩
        · exact (((Off.of_grown hg2 (by simp)).trans HOZ.out)).trans2 HOQ.out (fun b hb => by subst hb; omega)
  · go_wp2_with fail
    refine (crash_at _ d D v H.out.disk').mono ?_
    rintro e v1 ⟨rfl, hd1, ho1⟩
    have HMID := Lib.hid (H.out.mid hd1 ho1)
    have ci1 : v1.cell? ⟨w.heap.size, 1, none⟩ = some (.int .i64 c.i) := cell_off HMID.out.off HNW.out ci
    clear hd1 ho1
    go_wp2_with fail
    refine (rcrash_at (More T v1.heap.size) m D v1 (HMID.out.ref.mono (fun _ _ h => .inl h))).mono ?_
    rintro e vz ⟨rfl, hr1, ho2⟩
    have hmt := HMID.out.two hr1 ho2 (H.out.full)
    have HE : Hid (∃ S' T', Two vz S' T' d m (didV D c) ∧ (∀ b, S' b → S b ∨ v.heap.size ≤ b) ∧ (∀ b, T' b → T b ∨ v.heap.size ≤ b)) := by
      obtain ⟨T', h1, h2, _⟩ := hmt
      exact ⟨_, T', (by unfold didV; rw [← HRQ.out]; exact h1), HMID.out.sS, h2⟩
    have HOZ : Hid (Off (fun b => S b ∨ T b) v vz) := by
      obtain ⟨T', _, _, h3⟩ := hmt
      exact h3
    clear ci1
    clear hmt hr1 ho2 HMID ck ci cb hcv hcb
    go_wp2_with fail
    obtain ⟨S', T', htw, hSb, hTb⟩ := HE.out
    obtain ⟨hvr, hvb, hg2, hsv, hhv⟩ := HV.out
    have hnb : ∀ b, w.heap.size ≤ b → ¬ (S b ∨ T b) := by
      intro b hb
      rintro (hs | ht)
      · have := HSB.out.1 b hs; omega
      · have := HSB.out.2 b ht; omega
    have hhz := (HOZ.out.block w.heap.size (by omega) (hnb _ (Nat.le_refl _))).trans hhv
    have c2z := cell_blk hhz 2
    have hzr : vz.rangeAt (w.heap.size + 1) 0 (u8s c.b) := fun j u hj => cell_off HOZ.out (hnb _ (by omega)) (hvr j u hj)
    have hzb : ByteAt vz (w.heap.size + 1) c.b.length := fun j hj => by
      obtain ⟨⟨y, hy⟩, hf⟩ := hvb j hj
      refine ⟨⟨y, cell_off HOZ.out (hnb _ (by omega)) hy⟩, ?_⟩
      have hk := HOZ.out.block (w.heap.size + 1) (by omega) (hnb _ (by omega))
      rw [← hf]
      exact World.frozen?_of_block (a := ⟨w.heap.size + 1, j, none⟩) hk
    have hcz1 := run_string vz (w.heap.size + 1) 0 c.b capi hzr
    have hcz2 := run_str_row ((HR.out.mono (T := fun b => S b ∨ T b) (fun b _ hb => by rcases hb with h | h; exact .inl h; exact .inr (.inl h))).off HOZ.out) cap
    have HZB := Lib.hid hzb
    have HTW := Lib.hid (And.intro htw (And.intro hSb hTb))
    have HGI : Hid (¬ S (w.heap.size + 1) ∧ ¬ T (w.heap.size + 1)) := ⟨fun x => hnb _ (by omega) (.inl x), fun x => hnb _ (by omega) (.inr x)⟩
    clear hvr hvb hg2 hsv hhv hnb hhz hzr hzb htw hSb hTb
    go_wp2_with fail
    try (rw [hcz1]; simp only [Result.andThen]; rw [Oper.upon_value]; go_wp2_with fail)
    try (rw [hcz2]; simp only [Result.andThen]; rw [Oper.upon_value]; go_wp2_with fail)
    go_loopw [13] (fun tv wq => ∃ t : Nat, t ≤ c.b.length ∧ tv = .int .i64 (t : Int) ∧ ByteAt wq (w.heap.size + 1) c.b.length ∧ Off (fun b => b = w.heap.size + 1) vz wq) (fun tv _ => c.b.length - (intOf tv).toNat)
    case atStart => exact ⟨0, Nat.zero_le _, rfl, HZB.out, Off.refl _ _⟩
    case round =>
      obtain ⟨t, ht, rfl, hB, hoq⟩ := hrel
      have HB := Lib.hid hB
      have HOQ := Lib.hid hoq
      clear hB hoq
      by_cases htt : t < c.b.length
      · have hd1 : decide ((t : Int) < (c.b.length : Int)) = true := by simp; omega
        obtain ⟨⟨y, hy⟩, hzf⟩ := HB.out t htt
        have t0 : (0 : Int) ≤ (t : Int) := by omega
        have t1 : (t : Int) < (c.b.length : Int) := by omega
        go_wp2_with fail
        go_roundw
        case rel => exact ⟨t + 1, by omega, by go_num, HB.out.set htt, HOQ.out.trans (grown_off (grown_set _ (w.heap.size + 1) t _) rfl)⟩
        case measure => simp [intOf]; omega
      · have hd1 : decide ((t : Int) < (c.b.length : Int)) = false := by simp; omega
        have hd2 : decide (t < c.b.length) = false := by simpa using htt
        clear htt ht
        go_wp2_with fail
        go_ret
        obtain ⟨htw, hSb, hTb⟩ := HTW.out
        obtain ⟨_, _, hg2, hsv, _⟩ := HV.out
        obtain ⟨hgS, hgT⟩ := HGI.out
        refine ⟨rfl, S', T', htw.off HOQ.out (fun b hb hU => ?_), fun b hb => (hSb b hb).imp id (fun h => by omega), fun b hb => (hTb b hb).imp id (fun h => by omega), ?_⟩
        · subst hU
          exact ⟨fun x => by rcases hSb _ x with h | h; exact hgS h; omega, fun x => by rcases hTb _ x with h | h; exact hgT h; omega⟩
        · exact (((Off.of_grown hg2 (by simp)).trans HOZ.out)).trans2 HOQ.out (fun b hb => by subst hb; omega)
  · go_wp2_with fail
    refine (on_at _ d D v H.out.disk').mono ?_
    rintro e v1 ⟨rfl, hd1, ho1⟩
    have HMID := Lib.hid (H.out.mid hd1 ho1)
    have ci1 : v1.cell? ⟨w.heap.size, 1, none⟩ = some (.int .i64 c.i) := cell_off HMID.out.off HNW.out ci
    clear hd1 ho1
    go_wp2_with fail
    refine (ron_at (More T v1.heap.size) m D v1 (HMID.out.ref.mono (fun _ _ h => .inl h))).mono ?_
    rintro e vz ⟨rfl, hr1, ho2⟩
    have hmt := HMID.out.two hr1 ho2 (H.out.full)
    have HE : Hid (∃ S' T', Two vz S' T' d m (didV D c) ∧ (∀ b, S' b → S b ∨ v.heap.size ≤ b) ∧ (∀ b, T' b → T b ∨ v.heap.size ≤ b)) := by
      obtain ⟨T', h1, h2, _⟩ := hmt
      exact ⟨_, T', (by unfold didV; rw [← HRQ.out]; exact h1), HMID.out.sS, h2⟩
    have HOZ : Hid (Off (fun b => S b ∨ T b) v vz) := by
      obtain ⟨T', _, _, h3⟩ := hmt
      exact h3
    clear ci1
    clear hmt hr1 ho2 HMID ck ci cb hcv hcb
    go_wp2_with fail
    obtain ⟨S', T', htw, hSb, hTb⟩ := HE.out
    obtain ⟨hvr, hvb, hg2, hsv, hhv⟩ := HV.out
    have hnb : ∀ b, w.heap.size ≤ b → ¬ (S b ∨ T b) := by
      intro b hb
      rintro (hs | ht)
      · have := HSB.out.1 b hs; omega
      · have := HSB.out.2 b ht; omega
    have hhz := (HOZ.out.block w.heap.size (by omega) (hnb _ (Nat.le_refl _))).trans hhv
    have c2z := cell_blk hhz 2
    have hzr : vz.rangeAt (w.heap.size + 1) 0 (u8s c.b) := fun j u hj => cell_off HOZ.out (hnb _ (by omega)) (hvr j u hj)
    have hzb : ByteAt vz (w.heap.size + 1) c.b.length := fun j hj => by
      obtain ⟨⟨y, hy⟩, hf⟩ := hvb j hj
      refine ⟨⟨y, cell_off HOZ.out (hnb _ (by omega)) hy⟩, ?_⟩
      have hk := HOZ.out.block (w.heap.size + 1) (by omega) (hnb _ (by omega))
      rw [← hf]
      exact World.frozen?_of_block (a := ⟨w.heap.size + 1, j, none⟩) hk
    have hcz1 := run_string vz (w.heap.size + 1) 0 c.b capi hzr
    have hcz2 := run_str_row ((HR.out.mono (T := fun b => S b ∨ T b) (fun b _ hb => by rcases hb with h | h; exact .inl h; exact .inr (.inl h))).off HOZ.out) cap
    have HZB := Lib.hid hzb
    have HTW := Lib.hid (And.intro htw (And.intro hSb hTb))
    have HGI : Hid (¬ S (w.heap.size + 1) ∧ ¬ T (w.heap.size + 1)) := ⟨fun x => hnb _ (by omega) (.inl x), fun x => hnb _ (by omega) (.inr x)⟩
    clear hvr hvb hg2 hsv hhv hnb hhz hzr hzb htw hSb hTb
    go_wp2_with fail
    try (rw [hcz1]; simp only [Result.andThen]; rw [Oper.upon_value]; go_wp2_with fail)
    try (rw [hcz2]; simp only [Result.andThen]; rw [Oper.upon_value]; go_wp2_with fail)
    go_loopw [13] (fun tv wq => ∃ t : Nat, t ≤ c.b.length ∧ tv = .int .i64 (t : Int) ∧ ByteAt wq (w.heap.size + 1) c.b.length ∧ Off (fun b => b = w.heap.size + 1) vz wq) (fun tv _ => c.b.length - (intOf tv).toNat)
    case atStart => exact ⟨0, Nat.zero_le _, rfl, HZB.out, Off.refl _ _⟩
    case round =>
      obtain ⟨t, ht, rfl, hB, hoq⟩ := hrel
      have HB := Lib.hid hB
      have HOQ := Lib.hid hoq
      clear hB hoq
      by_cases htt : t < c.b.length
      · have hd1 : decide ((t : Int) < (c.b.length : Int)) = true := by simp; omega
        obtain ⟨⟨y, hy⟩, hzf⟩ := HB.out t htt
        have t0 : (0 : Int) ≤ (t : Int) := by omega
        have t1 : (t : Int) < (c.b.length : Int) := by omega
        go_wp2_with fail
        go_roundw
        case rel => exact ⟨t + 1, by omega, by go_num, HB.out.set htt, HOQ.out.trans (grown_off (grown_set _ (w.heap.size + 1) t _) rfl)⟩
        case measure => simp [intOf]; omega
      · have hd1 : decide ((t : Int) < (c.b.length : Int)) = false := by simp; omega
        have hd2 : decide (t < c.b.length) = false := by simpa using htt
        clear htt ht
        go_wp2_with fail
        go_ret
        obtain ⟨htw, hSb, hTb⟩ := HTW.out
        obtain ⟨_, _, hg2, hsv, _⟩ := HV.out
        obtain ⟨hgS, hgT⟩ := HGI.out
        refine ⟨rfl, S', T', htw.off HOQ.out (fun b hb hU => ?_), fun b hb => (hSb b hb).imp id (fun h => by omega), fun b hb => (hTb b hb).imp id (fun h => by omega), ?_⟩
        · subst hU
          exact ⟨fun x => by rcases hSb _ x with h | h; exact hgS h; omega, fun x => by rcases hTb _ x with h | h; exact hgT h; omega⟩
        · exact (((Off.of_grown hg2 (by simp)).trans HOZ.out)).trans2 HOQ.out (fun b hb => by subst hb; omega)
  · go_wp2_with fail
    refine (settle_at _ d D v H.out.disk').mono ?_
    rintro e v1 ⟨rfl, hd1, ho1⟩
    have HMID := Lib.hid (H.out.mid hd1 ho1)
    have ci1 : v1.cell? ⟨w.heap.size, 1, none⟩ = some (.int .i64 c.i) := cell_off HMID.out.off HNW.out ci
    clear hd1 ho1
    go_wp2_with fail
    refine (rsettle_at _ m D v1 (HMID.out.ref.mono (fun _ _ h => .inl h)) (more_new T v1.heap.size) H.out.full).mono ?_
    rintro e vz ⟨rfl, hr1, ho2⟩
    have hmt := HMID.out.two hr1 ho2 (rfl)
    have HE : Hid (∃ S' T', Two vz S' T' d m (didV D c) ∧ (∀ b, S' b → S b ∨ v.heap.size ≤ b) ∧ (∀ b, T' b → T b ∨ v.heap.size ≤ b)) := by
      obtain ⟨T', h1, h2, _⟩ := hmt
      exact ⟨_, T', (by unfold didV; rw [← HRQ.out]; exact h1), HMID.out.sS, h2⟩
    have HOZ : Hid (Off (fun b => S b ∨ T b) v vz) := by
      obtain ⟨T', _, _, h3⟩ := hmt
      exact h3
    clear ci1
    clear hmt hr1 ho2 HMID ck ci cb hcv hcb
    go_wp2_with fail
    obtain ⟨S', T', htw, hSb, hTb⟩ := HE.out
    obtain ⟨hvr, hvb, hg2, hsv, hhv⟩ := HV.out
    have hnb : ∀ b, w.heap.size ≤ b → ¬ (S b ∨ T b) := by
      intro b hb
      rintro (hs | ht)
      · have := HSB.out.1 b hs; omega
      · have := HSB.out.2 b ht; omega
    have hhz := (HOZ.out.block w.heap.size (by omega) (hnb _ (Nat.le_refl _))).trans hhv
    have c2z := cell_blk hhz 2
    have hzr : vz.rangeAt (w.heap.size + 1) 0 (u8s c.b) := fun j u hj => cell_off HOZ.out (hnb _ (by omega)) (hvr j u hj)
    have hzb : ByteAt vz (w.heap.size + 1) c.b.length := fun j hj => by
      obtain ⟨⟨y, hy⟩, hf⟩ := hvb j hj
      refine ⟨⟨y, cell_off HOZ.out (hnb _ (by omega)) hy⟩, ?_⟩
      have hk := HOZ.out.block (w.heap.size + 1) (by omega) (hnb _ (by omega))
      rw [← hf]
      exact World.frozen?_of_block (a := ⟨w.heap.size + 1, j, none⟩) hk
    have hcz1 := run_string vz (w.heap.size + 1) 0 c.b capi hzr
    have hcz2 := run_str_row ((HR.out.mono (T := fun b => S b ∨ T b) (fun b _ hb => by rcases hb with h | h; exact .inl h; exact .inr (.inl h))).off HOZ.out) cap
    have HZB := Lib.hid hzb
    have HTW := Lib.hid (And.intro htw (And.intro hSb hTb))
    have HGI : Hid (¬ S (w.heap.size + 1) ∧ ¬ T (w.heap.size + 1)) := ⟨fun x => hnb _ (by omega) (.inl x), fun x => hnb _ (by omega) (.inr x)⟩
    clear hvr hvb hg2 hsv hhv hnb hhz hzr hzb htw hSb hTb
    go_wp2_with fail
    try (rw [hcz1]; simp only [Result.andThen]; rw [Oper.upon_value]; go_wp2_with fail)
    try (rw [hcz2]; simp only [Result.andThen]; rw [Oper.upon_value]; go_wp2_with fail)
    go_loopw [13] (fun tv wq => ∃ t : Nat, t ≤ c.b.length ∧ tv = .int .i64 (t : Int) ∧ ByteAt wq (w.heap.size + 1) c.b.length ∧ Off (fun b => b = w.heap.size + 1) vz wq) (fun tv _ => c.b.length - (intOf tv).toNat)
    case atStart => exact ⟨0, Nat.zero_le _, rfl, HZB.out, Off.refl _ _⟩
    case round =>
      obtain ⟨t, ht, rfl, hB, hoq⟩ := hrel
      have HB := Lib.hid hB
      have HOQ := Lib.hid hoq
      clear hB hoq
      by_cases htt : t < c.b.length
      · have hd1 : decide ((t : Int) < (c.b.length : Int)) = true := by simp; omega
        obtain ⟨⟨y, hy⟩, hzf⟩ := HB.out t htt
        have t0 : (0 : Int) ≤ (t : Int) := by omega
        have t1 : (t : Int) < (c.b.length : Int) := by omega
        go_wp2_with fail
        go_roundw
        case rel => exact ⟨t + 1, by omega, by go_num, HB.out.set htt, HOQ.out.trans (grown_off (grown_set _ (w.heap.size + 1) t _) rfl)⟩
        case measure => simp [intOf]; omega
      · have hd1 : decide ((t : Int) < (c.b.length : Int)) = false := by simp; omega
        have hd2 : decide (t < c.b.length) = false := by simpa using htt
        clear htt ht
        go_wp2_with fail
        go_ret
        obtain ⟨htw, hSb, hTb⟩ := HTW.out
        obtain ⟨_, _, hg2, hsv, _⟩ := HV.out
        obtain ⟨hgS, hgT⟩ := HGI.out
        refine ⟨rfl, S', T', htw.off HOQ.out (fun b hb hU => ?_), fun b hb => (hSb b hb).imp id (fun h => by omega), fun b hb => (hTb b hb).imp id (fun h => by omega), ?_⟩
        · subst hU
          exact ⟨fun x => by rcases hSb _ x with h | h; exact hgS h; omega, fun x => by rcases hTb _ x with h | h; exact hgT h; omega⟩
        · exact (((Off.of_grown hg2 (by simp)).trans HOZ.out)).trans2 HOQ.out (fun b hb => by subst hb; omega)
  · have hb4 : ((r : Int) == 4) = false := by simp; omega
    have hb5 : ((r : Int) == 5) = false := by simp; omega
    have hb6 : ((r : Int) == 6) = false := by simp; omega
    have hb7 : ((r : Int) == 7) = false := by simp; omega
    have hb8 : ((r : Int) == 8) = false := by simp; omega
    have HDV : Hid (didV D c = (wrote D c.i c.b).2) := by
      show didV D c = _
      unfold didV
      rw [← HRQ.out]
      rcases (show r = 0 ∨ r = 1 ∨ r = 2 ∨ r = 3 by omega) with rfl | rfl | rfl | rfl <;> rfl
    have HRU := Lib.hid (HR.out.mono (T := fun b => S b ∨ T b) (fun b _ hb => by rcases hb with h | h; exact .inl h; exact .inr (.inl h)))
    have HRI : Hid (RowB v.drew (More S v.drew.heap.size) (some ⟨w.heap.size + 1, 0, none⟩) c.b) := by
      obtain ⟨hvr, _, _, hsv, _⟩ := HV.out
      refine .inr ⟨w.heap.size + 1, 0, rfl, ?_, (World.rangeAt_drew _ _ _ _).2 hvr⟩
      rintro (hs | hs)
      · have := HSB.out.1 _ hs; omega
      · have : v.heap.size ≤ w.heap.size + 1 := hs
        omega
    clear hr4
    go_wp2_with fail
    refine wp_region_noPanic ?_
    refine wp_region_held_drew (S := fun w' => w'.cell? ⟨w.heap.size, 1, none⟩ = some (.int .i64 c.i) ∧ w'.cell? ⟨w.heap.size, 2, none⟩ = some (.slice A c.b.length cap) ∧ RowB w' (fun b => S b ∨ T b) A c.b) (by kernel_rfl) ?hSf (fun hHeld => ?_)
    case hSf => exact ⟨ci, cb, HRU.out.grown (drew_grown v none)⟩
    refine wpAnyH_take (i := 0) (oi := ⟨_, _, _, _, _, _⟩) (v := ?vf0) rfl (by kernel_rfl) (by kernel_rfl) (by kernel_rfl) (fun _ _ _ h => h) (Or.inl ⟨by rfl, ?hyf0⟩) hHeld ?_
    case hyf0 => (intro wS hSw; (try dsimp only at hSw); go_simp; (first | done | with_reducible rfl))
    try simp only [Act.put, List.setIfInBounds_toArray, List.set_cons_zero, List.set_cons_succ]
    refine wpAnyH_take (i := 1) (oi := ⟨_, _, _, _, _, _⟩) (v := ?vf1) rfl (by kernel_rfl) (by kernel_rfl) (by kernel_rfl) (fun _ _ _ h => h) (Or.inl ⟨by rfl, ?hyf1⟩) hHeld ?_
    case hyf1 => (intro wS hSw; (try dsimp only at hSw); go_simp; (first | done | with_reducible rfl))
    try simp only [Act.put, List.setIfInBounds_toArray, List.set_cons_zero, List.set_cons_succ]
    refine wpAnyH_take (i := 2) (oi := ⟨_, _, _, _, _, _⟩) (v := ?vf2) rfl (by kernel_rfl) (by kernel_rfl) (by kernel_rfl) (fun _ _ _ h => h) (Or.inl ⟨by rfl, ?hyf2⟩) hHeld ?_
    case hyf2 => (intro wS hSw; (try dsimp only at hSw); go_simp; (first | done | with_reducible rfl))
    try simp only [Act.put, List.setIfInBounds_toArray, List.set_cons_zero, List.set_cons_succ]
    refine wpAnyH_take (i := 3) (oi := ⟨_, _, _, _, _, _⟩) (v := ?vf3) rfl (by kernel_rfl) (by kernel_rfl) (by kernel_rfl) (fun _ _ _ h => h) (Or.inl ⟨by rfl, ?hyf3⟩) hHeld ?_
    case hyf3 => (intro wS hSw; (try dsimp only at hSw); go_simp; (first | done | with_reducible rfl))
    try simp only [Act.put, List.setIfInBounds_toArray, List.set_cons_zero, List.set_cons_succ]
    refine wpAnyH_take (i := 5) (oi := ⟨_, _, _, _, _, _⟩) (v := ?vf5) rfl (by kernel_rfl) (by kernel_rfl) (by kernel_rfl) (fun _ _ _ h => h) (Or.inl ⟨by rfl, ?hyf5⟩) hHeld ?_
    case hyf5 => (intro wS hSw; (try dsimp only at hSw); go_simp; (first | done | with_reducible rfl))
    try simp only [Act.put, List.setIfInBounds_toArray, List.set_cons_zero, List.set_cons_succ]
    refine wpAnyH_take (i := 6) (oi := ⟨_, _, _, _, _, _⟩) (v := ?vf6) rfl (by kernel_rfl) (by kernel_rfl) (by kernel_rfl) (fun _ _ _ h => h) (Or.inl ⟨by rfl, ?hyf6⟩) hHeld ?_
    case hyf6 => (intro wS hSw; (try dsimp only at hSw); go_simp; (first | done | with_reducible rfl))
    try simp only [Act.put, List.setIfInBounds_toArray, List.set_cons_zero, List.set_cons_succ]
    refine wpAnyH_take (i := 7) (oi := ⟨_, _, _, _, _, _⟩) (v := ?vf7) rfl (by kernel_rfl) (by kernel_rfl) (by kernel_rfl) (fun _ _ _ h => h) (Or.inl ⟨by rfl, ?hyf7⟩) hHeld ?_
    case hyf7 => (intro wS hSw; (try dsimp only at hSw); go_simp; (first | done | with_reducible rfl))
    try simp only [Act.put, List.setIfInBounds_toArray, List.set_cons_zero, List.set_cons_succ]
    refine wpAnyH_take (i := 8) (oi := ⟨_, _, _, _, _, _⟩) (v := ?vf8) rfl (by kernel_rfl) (by kernel_rfl) (by kernel_rfl) (fun _ _ _ h => h) (Or.inl ⟨by rfl, ?hyf8⟩) hHeld ?_
    case hyf8 => (intro wS hSw; (try dsimp only at hSw); go_simp; (first | done | with_reducible rfl))
    try simp only [Act.put, List.setIfInBounds_toArray, List.set_cons_zero, List.set_cons_succ]
    refine wpAnyH_take (i := 9) (oi := ⟨_, _, _, _, _, _⟩) (v := ?vf9) rfl (by kernel_rfl) (by kernel_rfl) (by kernel_rfl) (fun _ _ _ h => h) (Or.inl ⟨by rfl, ?hyf9⟩) hHeld ?_
    case hyf9 => (intro wS hSw; (try dsimp only at hSw); go_simp; (first | done | with_reducible rfl))
    try simp only [Act.put, List.setIfInBounds_toArray, List.set_cons_zero, List.set_cons_succ]
    refine wpAnyH_take (i := 10) (oi := ⟨_, _, _, _, _, _⟩) (v := strV c.b) rfl (by kernel_rfl) (by kernel_rfl) (by kernel_rfl) (fun _ _ _ h => h) (yields_conv (by rfl) (.tmp 30) rfl A c.b cap rfl (fun w h => h.2.2)) hHeld ?_
    try simp only [Act.put, List.setIfInBounds_toArray, List.set_cons_zero, List.set_cons_succ]
    refine wpAnyH_ready (rs := [4]) (by kernel_rfl) (by simp) ?_
    refine AllReadyH.cons (o := ⟨_, _, _, _, _, _⟩) rfl (fun K hK => ?_) AllReadyH.nil
    go_simp
    refine (write_at _ d c.i D c.b _ capi v.drew ((H.out.grown (drew_grown v none)).disk') HRI.out (fun b hb => .inr hb) (by omega)).mono ?_
    rintro e v1 ⟨rfl, hd1, ho1⟩
    have HMID := Lib.hid ((H.out.grown (drew_grown v none)).mid hd1 ho1)
    clear hd1 ho1
    go_wp2_with fail
    refine hK.out _ _ ?kf4 (fun hNew => ?_)
    case kf4 => (try dsimp only); exact ⟨cell_off HMID.out.off HNW.out hHeld.1, cell_off HMID.out.off HNW.out hHeld.2.1, hHeld.2.2.off HMID.out.off⟩
    clear hK K hHeld
    have hHeld := hNew
    clear hNew
    try simp only [Act.put, List.setIfInBounds_toArray, List.set_cons_zero, List.set_cons_succ]
    refine wpAnyH_ready (rs := [11]) (by kernel_rfl) (by simp) ?_
    refine AllReadyH.cons (o := ⟨_, _, _, _, _, _⟩) rfl (fun K hK => ?_) AllReadyH.nil
    go_simp
    refine (rwrite_at _ m c.i D c.b v1 (HMID.out.ref.mono (fun _ _ h => .inl h)) (more_new T v1.heap.size) hb hn).mono ?_
    rintro e vz ⟨rfl, hr1, ho2⟩
    have hmt := HMID.out.two hr1 ho2 (H.out.full.wrote _ _)
    have HE : Hid (∃ S' T', Two vz S' T' d m (didV D c) ∧ (∀ b, S' b → S b ∨ v.heap.size ≤ b) ∧ (∀ b, T' b → T b ∨ v.heap.size ≤ b)) := by
      obtain ⟨T', h1, h2, _⟩ := hmt
      exact ⟨_, T', (by rw [HDV.out]; exact h1), HMID.out.sS, h2⟩
    have hoz : Off (fun b => S b ∨ T b) v.drew vz := by
      obtain ⟨T', _, _, h3⟩ := hmt
      exact h3
    have HOZ : Hid (Off (fun b => S b ∨ T b) v vz) := (Off.of_grown (drew_grown v none) (by simp)).trans hoz
    clear hmt hr1 ho2 hoz
    go_wp2_with fail
    refine hK.out _ _ ?kf11 (fun hNew => ?_)
    case kf11 => (try dsimp only); exact ⟨cell_off HOZ.out HNW.out ci, cell_off HOZ.out HNW.out cb, HRU.out.off HOZ.out⟩
    clear hK K hHeld
    have hHeld := hNew
    clear hNew
    try simp only [Act.put, List.setIfInBounds_toArray, List.set_cons_zero, List.set_cons_succ]
    refine wpAnyH_take (i := 12) (oi := ⟨_, _, _, _, _, _⟩) (v := ?vf12) rfl (by kernel_rfl) (by kernel_rfl) (by kernel_rfl) (fun _ _ _ h => h) (Or.inl ⟨by rfl, ?hyf12⟩) hHeld ?_
    case hyf12 => (intro wS hSw; (try dsimp only at hSw); go_simp; (first | done | with_reducible rfl))
    try simp only [Act.put, List.setIfInBounds_toArray, List.set_cons_zero, List.set_cons_succ]
    refine wpAnyH_take (i := 13) (oi := ⟨_, _, _, _, _, _⟩) (v := ?vf13) rfl (by kernel_rfl) (by kernel_rfl) (by kernel_rfl) (fun _ _ _ h => h) (Or.inl ⟨by rfl, ?hyf13⟩) hHeld ?_
    case hyf13 => (intro wS hSw; (try dsimp only at hSw); go_simp; (first | done | with_reducible rfl))
    try simp only [Act.put, List.setIfInBounds_toArray, List.set_cons_zero, List.set_cons_succ]
    refine wpAnyH_done (by kernel_rfl) ?_ _
    refine NoPanic.normal ?_
    clear HMID hHeld ck ci cb hcv hcb
    go_wp2_with fail
    obtain ⟨S', T', htw, hSb, hTb⟩ := HE.out
    obtain ⟨hvr, hvb, hg2, hsv, hhv⟩ := HV.out
    have hnb : ∀ b, w.heap.size ≤ b → ¬ (S b ∨ T b) := by
      intro b hb
      rintro (hs | ht)
      · have := HSB.out.1 b hs; omega
      · have := HSB.out.2 b ht; omega
    have hhz := (HOZ.out.block w.heap.size (by omega) (hnb _ (Nat.le_refl _))).trans hhv
    have c2z := cell_blk hhz 2
    have hzr : vz.rangeAt (w.heap.size + 1) 0 (u8s c.b) := fun j u hj => cell_off HOZ.out (hnb _ (by omega)) (hvr j u hj)
    have hzb : ByteAt vz (w.heap.size + 1) c.b.length := fun j hj => by
      obtain ⟨⟨y, hy⟩, hf⟩ := hvb j hj
      refine ⟨⟨y, cell_off HOZ.out (hnb _ (by omega)) hy⟩, ?_⟩
      have hk := HOZ.out.block (w.heap.size + 1) (by omega) (hnb _ (by omega))
      rw [← hf]
      exact World.frozen?_of_block (a := ⟨w.heap.size + 1, j, none⟩) hk
    have hcz1 := run_string vz (w.heap.size + 1) 0 c.b capi hzr
    have hcz2 := run_str_row ((HR.out.mono (T := fun b => S b ∨ T b) (fun b _ hb => by rcases hb with h | h; exact .inl h; exact .inr (.inl h))).off HOZ.out) cap
    have HZB := Lib.hid hzb
    have HTW := Lib.hid (And.intro htw (And.intro hSb hTb))
    have HGI : Hid (¬ S (w.heap.size + 1) ∧ ¬ T (w.heap.size + 1)) := ⟨fun x => hnb _ (by omega) (.inl x), fun x => hnb _ (by omega) (.inr x)⟩
    clear hvr hvb hg2 hsv hhv hnb hhz hzr hzb htw hSb hTb
    go_wp2_with fail
    try (rw [hcz1]; simp only [Result.andThen]; rw [Oper.upon_value]; go_wp2_with fail)
    try (rw [hcz2]; simp only [Result.andThen]; rw [Oper.upon_value]; go_wp2_with fail)
    go_loopw [13] (fun tv wq => ∃ t : Nat, t ≤ c.b.length ∧ tv = .int .i64 (t : Int) ∧ ByteAt wq (w.heap.size + 1) c.b.length ∧ Off (fun b => b = w.heap.size + 1) vz wq) (fun tv _ => c.b.length - (intOf tv).toNat)
    case atStart => exact ⟨0, Nat.zero_le _, rfl, HZB.out, Off.refl _ _⟩
    case round =>
      obtain ⟨t, ht, rfl, hB, hoq⟩ := hrel
      have HB := Lib.hid hB
      have HOQ := Lib.hid hoq
      clear hB hoq
      by_cases htt : t < c.b.length
      · have hd1 : decide ((t : Int) < (c.b.length : Int)) = true := by simp; omega
        obtain ⟨⟨y, hy⟩, hzf⟩ := HB.out t htt
        have t0 : (0 : Int) ≤ (t : Int) := by omega
        have t1 : (t : Int) < (c.b.length : Int) := by omega
        go_wp2_with fail
        go_roundw
        case rel => exact ⟨t + 1, by omega, by go_num, HB.out.set htt, HOQ.out.trans (grown_off (grown_set _ (w.heap.size + 1) t _) rfl)⟩
        case measure => simp [intOf]; omega
      · have hd1 : decide ((t : Int) < (c.b.length : Int)) = false := by simp; omega
        have hd2 : decide (t < c.b.length) = false := by simpa using htt
        clear htt ht
        go_wp2_with fail
        go_ret
        obtain ⟨htw, hSb, hTb⟩ := HTW.out
        obtain ⟨_, _, hg2, hsv, _⟩ := HV.out
        obtain ⟨hgS, hgT⟩ := HGI.out
        refine ⟨rfl, S', T', htw.off HOQ.out (fun b hb hU => ?_), fun b hb => (hSb b hb).imp id (fun h => by omega), fun b hb => (hTb b hb).imp id (fun h => by omega), ?_⟩
        · subst hU
          exact ⟨fun x => by rcases hSb _ x with h | h; exact hgS h; omega, fun x => by rcases hTb _ x with h | h; exact hgT h; omega⟩
        · exact (((Off.of_grown hg2 (by simp)).trans HOZ.out)).trans2 HOQ.out (fun b hb => by subst hb; omega)
end Go.Proofs.Ytplnkpbfnpajjaa.Sec
