/- The entries of one map of sectors go into another: maps.Copy; maps.Clone. -/
import Derived.Lib.SlMapMerge
import Derived.Maps.RangeWalk
import Derived.Laws.IdiomRangeMap
import Derived.Laws.Externs
import Derived.Shelf.SlMaps.Clone
import Derived.Test.YtplnkpbfnpajjaaSecRead
namespace Go.Proofs.Ytplnkpbfnpajjaa.Sec
open Go.RowKit Go.Maps

theorem grown_cells (w : World) (b : Nat) : ∀ (vs : List Value) (o : Nat), w.grownBy (w.setCells b o vs) (some b)
  | [], _ => ⟨rfl, rfl, rfl, Nat.le_refl _, fun _ _ _ => rfl⟩
  | v :: r, o => grown_trans (grown_set w b o v) (grown_cells _ b r (o + 1))
theorem grown_new (w : World) (o : Obj) (vs : List Value) (k : Nat) : w.grownBy ((w.alloc o).setCells w.heap.size k vs) none := by
  have h1 := World.grownBy_alloc w o none
  have h2 := grown_cells (w.alloc o) w.heap.size vs k
  exact ⟨h2.os.trans h1.os, h2.tape.trans h1.tape, h2.output.trans h1.output, Nat.le_trans h1.size h2.size, fun j hj _ => (h2.block j (by rw [World.size_alloc]; omega) (fun e => by injection e with e; omega)).trans (h1.block j hj (by simp))⟩
theorem range_new (w : World) (C : Array Value) (t : TypeId) (vs : List Value) (h : vs.length ≤ C.size) : ((w.alloc (.cells C t)).setCells w.heap.size 0 vs).rangeAt w.heap.size 0 vs :=
  World.rangeAt_setCells_same _ _ _ _ (there_new w C t _ h)

set_option maxRecDepth 100000 in
set_option maxHeartbeats 4000000 in
theorem copy_at (bd bs N : Nat) (g : Nat → List UInt8) (w : World) (hN : N ≤ 16384) (hd : w.ownsMap Try.prog 3 secR bd 0 (.map [])) (hs : SecMap w bs N g) (hne : bd ≠ bs) :
    Calls Try.prog 27 #[.map (some bd), .map (some bs)] w fun e w' => e = .returned (.tuple #[]) ∧ SecMap w' bd N g ∧ w.grownBy w' (some bd) := by
  obtain ⟨ns, Ds, hns, hs, hk, hf⟩ := hs
  have hsz := size_le hs hk
  have hbd := hd.lt
  have hbs := hs.lt
  have hzs := zero_sec
  have hroom : Maps.size Ds ≤ maxLen := by unfold maxLen; omega
  have HSZ := Lib.hid hsz
  have HF := Lib.hid hf
  have HK := Lib.hid hk
  clear hf hk hsz
  go_enter Try.func27, Try.ntmps27
  go_wp2_with (first
    | (at_range; refine wpList_range_own _ rfl _ 46 rfl 3 53 intKeyed Try.underlying46 secR bs ns _ rfl hs ?_; intro w0 hrg0 hg0 hs0)
    | go_in)
  go_frame
  go_loopw [8] (fun _ wr => ∃ (left : Lit → Bool) (cnt : Nat) (Dout : DataW Unit), wr.ranges Try.prog 3 secR bs w.heap.size ns Ds left cnt ∧ cnt ≤ Maps.size Ds ∧
      wr.ownsMap Try.prog 3 secR bd (Maps.size Ds - cnt) Dout ∧ Merged Dout (.map []) Ds left ∧ w.grownBy wr (some bd))
    (fun _ wr => wr.rangeLeft bs w.heap.size)
  case atStart =>
    exact ⟨_, _, .map [], hrg0, Nat.le_refl _, (hd.kept hg0 (by simp)).mono (by omega), merged_start _ Ds, hg0.but _⟩
  case round =>
    obtain ⟨left, cnt, Dout, hrg, hcs, hout, hM, hgw⟩ := hrel
    go_wp2_with (first
      | (at_next; refine wpList_next_ranges _ rfl _ rfl 3 intKeyed secR id id (fun key _ _ => ⟨key, rfl⟩) (fun v _ _ => ⟨v, rfl⟩) bs w.heap.size ns _ _ _ rfl hrg ?_ ?_)
      | go_in)
    · intro hc0 hl0
      go_wp2
      go_end0
      subst hc0
      refine ⟨rfl, ⟨_, Dout, ?_, hout, ?_, ?_⟩, hgw⟩
      · have := HSZ.out
        omega
      · intro k hh
        rw [hM.1 k, hl0 k] at hh
        exact HK.out k (by simpa [has_eq] using hh)
      · intro i hi
        rw [hM.2, hl0]
        cases hh : has Ds (key i)
        · have := HF.out i hi
          have hA : ∀ z, Ds.atKey (key i) z = z := by
            intro z
            obtain ⟨es, rfl, _⟩ := hrg.owns.canon intKeyed
            rw [has_eq, List.any_eq_false] at hh
            simp only [DataW.atKey]
            rw [List.find?_eq_none.2 (fun p hp => by simpa using hh p hp)]
          rw [hA] at this
          rw [← this]
          simp [DataW.atKey]
        · simpa using HF.out i hi
    · intro x c kl yd yp w1 cnt1 hkey hlx hv hat hrg1 hlt hg1 hs1 hen
      have hout1 := hout.kept hg1 (fun e => by have := Option.some.inj e; omega)
      obtain ⟨l, hl, ev, ez⟩ := secR_inv hv
      subst ev
      cases ez
      have HL := Lib.hid hl
      have ht := there_new w1 (u8s noughts).toArray 53 128 (by simp [u8s_length, noughts_length])
      have hgn := grown_new w1 (.cells (u8s noughts).toArray 53) (u8s l) 0
      have hr := range_new w1 (u8s noughts).toArray 53 (u8s l) (by simp [u8s_length, noughts_length, hl])
      rw [hs1] at ht hgn hr
      have HT := Lib.hid ht
      have HR := Lib.hid hr
      have hout2 := hout1.kept hgn (by simp)
      have hrg2 := hrg1.kept hgn (by simp) (by simp)
      have HRG2 := Lib.hid hrg2
      have HGN := Lib.hid hgn
      clear hl hrg2 hgn ht hr
      go_wp2_with (first
        | (at_mapUpdate; refine wpList_mapUpdate_own _ rfl _ _ _ 46 rfl 3 53 intKeyed Try.underlying46 secR bd _ _ rfl hout2 (by omega) _ _ _ rfl rfl hkey _ _ hv ?_; intro w2 hout3 hg2; go_frame)
        | (refine wpList_store_sec rfl _ _ rfl wr.heap.size 0 l HL.out rfl rfl HT.out ?_; go_frame)
        | (refine wpList_load_sec rfl _ rfl wr.heap.size 0 rfl l HL.out HR.out ?_; go_frame)
        | go_in)
      have hrg3 := HRG2.out.kept hg2 (fun e => hne (Option.some.inj e).symm) (fun e => by have := Option.some.inj e; omega)
      go_roundw
      case rel =>
        exact ⟨_, cnt1, _, hrg3, by omega, hout3.mono (by omega), merged_step hM hout.isMap (intKeyed.key hkey) hat, ((hgw.andThen hg1 (fun j hj => .inl (by cases hj; exact Nat.le_refl _))).andThen (HGN.out.but _) (fun j hj => .inr hj)).andThen hg2 (fun j hj => .inr hj)⟩
      case measure => rw [hrg3.left_eq, hrg.left_eq]; exact hlt

theorem run_eql_map (w : World) (t k e : TypeId) (p : Option Nat) (h : Try.prog.underlying t = some (.map k e)) :
    (binOp .eql t (.map p) (.map none)).run Try.prog w = .ok (.bool p.isNone) w := Go.Proofs.run_eql_map_nil_sl w t k e p h

set_option maxHeartbeats 2000000 in
theorem clone_at (b N : Nat) (f : Nat → List UInt8) (w : World) (h : SecMap w b N f) :
    Calls Try.prog 28 #[.map (some b)] w fun e w' => e = .returned (.map (some w.heap.size)) ∧ SecMap w' w.heap.size N f ∧ w.grownBy w' none := by
  obtain ⟨n, D, hn, hown, hk, hf⟩ := h
  have hlt := hown.lt
  obtain ⟨es, clock, hb, F, hs, hD⟩ := hown
  have hq := fun w => run_eql_map w 46 _ _ (some b) Try.underlying46
  have fin : SecMap (w.alloc (.map es clock)) w.heap.size N f := ⟨n, D, hn, ⟨es, clock, (MapKept.heap_alloc w _).1, F, hs, hD⟩, hk, hf⟩
  have FIN := Lib.hid fin
  clear fin hk hf F hs hD
  go_enter Try.func28, Try.ntmps28
  go_wp2

  rw [run_callFunc_extern Try.func37 (by kernel_rfl) (by kernel_rfl) (by kernel_rfl) (e := Extern.MapsClone.clone) (by kernel_rfl), Go.Proofs.run_maps_clone_sl w 46 hb]
  simp only [Result.andThen]
  rw [Oper.upon_value]
  go_wp2
  rw [Go.Proofs.run_typeAssert_map_sl _ 46 20 _ _ _ Try.underlying46]
  simp only [Result.andThen]
  rw [Oper.upon_value]
  go_wp2
  go_ret
  exact ⟨rfl, FIN.out, World.grownBy_alloc w _ none⟩
end Go.Proofs.Ytplnkpbfnpajjaa.Sec
