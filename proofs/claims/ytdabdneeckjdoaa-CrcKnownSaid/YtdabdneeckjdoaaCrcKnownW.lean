/- The walk of the closed statement CrcKnown. -/
import Derived.Test.YtdabdneeckjdoaaCrcTurnsW
namespace Go.Proofs.Ytdabdneeckjdoaa.Crc
open Go.RowKit
attribute [local go_sem] u32_signed not_max_u xor_u xor_at8

/-- A slice of n bytes, whichever they are. -/
def RowN (w : World) (A : Option Addr) (n : Nat) : Prop := ∃ l : List UInt8, l.length = n ∧ Row8 w w.heap.size A l
theorem u_of_bd {x : Int} (h0 : 0 ≤ x) (h1 : x ≤ 4294967295) : ∃ s : BitVec 32, x = u s := by
  obtain ⟨n, rfl⟩ := Int.eq_ofNat_of_zero_le h0
  exact ⟨_, u_of n (by omega)⟩
theorem rowN_ints {w : World} {g : Nat} {t : TypeId} {fr : Nat × Nat} {C : Array Value} (zs : List Int) (hz : ∀ z ∈ zs, 0 ≤ z ∧ z ≤ 255) (hC : C = (zs.map (Value.int .u8)).toArray) (hg : w.heap[g]? = some (.cells C t fr)) : RowN w (some ⟨g, 0, none⟩) zs.length := by
  refine ⟨zs.map fun z => UInt8.ofNat z.toNat, by simp, row8_blk hg ?_⟩
  rw [hC]
  unfold cellsOf
  rw [List.map_map]
  congr 1
  apply List.map_congr_left
  intro z hm
  have := hz z hm
  simp
  omega
theorem RowN.below {w w' : World} {A : Option Addr} {n : Nat} (h : RowN w A n) (hb : Below w.heap.size w w') : RowN w' A n := by
  obtain ⟨l, hl, hr⟩ := h
  exact ⟨l, hl, (hr.below hb).more hb.size⟩
theorem rowN_head {w : World} {b n : Nat} (h : RowN w (some ⟨b, 0, none⟩) n) (k : Nat) (hk : k ≤ n) : RowN w (some ⟨b, 0, none⟩) k := by
  obtain ⟨l, hl, hr⟩ := h
  rcases hr with rfl | ⟨b', off, e, hb, hc⟩
  · exact ⟨[], by simp at hl ⊢; omega, .inl rfl⟩
  · injection e with e
    injection e with e1 e2
    subst e1 e2
    exact ⟨l.take k, by rw [List.length_take]; omega, Row8.head hb hc k⟩
theorem rowN_tail {w : World} {b n : Nat} (h : RowN w (some ⟨b, 0, none⟩) n) (k : Nat) (hk : k ≤ n) : RowN w (some ⟨b, k, none⟩) (n - k) := by
  obtain ⟨l, hl, hr⟩ := h
  rcases hr with rfl | ⟨b', off, e, hb, hc⟩
  · exact ⟨[], by simp at hl ⊢; omega, .inl rfl⟩
  · injection e with e
    injection e with e1 e2
    subst e1 e2
    refine ⟨(l.drop k).take l.length, by rw [List.length_take, List.length_drop]; omega, ?_⟩
    have := Row8.part hb hc k l.length
    rwa [Nat.zero_add] at this
theorem k_halves (x : Int) (h0 : 0 ≤ x) (h1 : x ≤ 4294967295) (A : Option Addr) (n cap : Nat) (w : World) (hl : n ≤ 9223372036854775807) (h : RowN w A n) :
    Calls Try.prog 3 #[.int .u32 x, .slice A n cap] w fun e w' => e = .returned (.bool true) ∧ Below w.heap.size w w' := by
  obtain ⟨s, rfl⟩ := u_of_bd h0 h1
  obtain ⟨l, hn, hr⟩ := h
  exact halves_walk s A l n cap w hn hl hr
theorem k_back (x : Int) (h0 : 0 ≤ x) (h1 : x ≤ 4294967295) (a a' : Addr) (n cap n' cap' : Nat) (w : World) (hl : n ≤ 9223372036854775807) (hl' : n' ≤ 9223372036854775807) (h : RowN w (some a) n) (h' : RowN w (some a') n') :
    Calls Try.prog 6 #[.int .u32 x, .slice (some a) n cap, .slice (some a') n' cap'] w fun e w' => e = .returned (.bool true) ∧ Below w.heap.size w w' := by
  obtain ⟨s, rfl⟩ := u_of_bd h0 h1
  obtain ⟨l, hn, hr⟩ := h
  obtain ⟨l', hn', hr'⟩ := h'
  exact back_walk s _ l n cap _ l' n' cap' w hn (fun e => by cases e) hr hn' (fun e => by cases e) hr' hl hl'
theorem k_unlikes (x1 x2 x3 x4 : Int) (h1 : 0 ≤ x1 ∧ x1 ≤ 4294967295) (h2 : 0 ≤ x2 ∧ x2 ≤ 4294967295) (h3 : 0 ≤ x3 ∧ x3 ≤ 4294967295) (h4 : 0 ≤ x4 ∧ x4 ≤ 4294967295) (A : Option Addr) (n cap : Nat) (w : World) (hl : n ≤ 9223372036854775807) (h : RowN w A n) :
    Calls Try.prog 7 #[.int .u32 x1, .int .u32 x2, .slice A n cap, .int .u32 x3, .int .u32 x4] w fun e w' => e = .returned (.bool true) ∧ Below w.heap.size w w' := by
  obtain ⟨s1, rfl⟩ := u_of_bd h1.1 h1.2
  obtain ⟨s2, rfl⟩ := u_of_bd h2.1 h2.2
  obtain ⟨s3, rfl⟩ := u_of_bd h3.1 h3.2
  obtain ⟨s4, rfl⟩ := u_of_bd h4.1 h4.2
  obtain ⟨l, hn, hr⟩ := h
  exact unlikes_walk s1 s2 A l n cap s3 s4 w hn hl hr
theorem k_turns (x : Int) (h0 : 0 ≤ x) (h1 : x ≤ 255) (a a' : Addr) (n cap n' cap' : Nat) (w : World) (h : RowN w (some a) n) (h' : RowN w (some a') n') :
    Calls Try.prog 8 #[.slice (some a) n cap, .slice (some a') n' cap', .int .u8 x] w fun e w' => e = .returned (.bool true) ∧ Below w.heap.size w w' := by
  obtain ⟨d, rfl⟩ := Int.eq_ofNat_of_zero_le h0
  by_cases hs : n = 0 ∨ 40 < n ∨ 100 < n'
  · exact turns_short _ n cap _ n' cap' d w hs
  · obtain ⟨l, hn, hr⟩ := h
    obtain ⟨l', hn', hr'⟩ := h'
    exact turns_long _ l n cap _ l' n' cap' d w hn (fun e => by cases e) hr hn' (fun e => by cases e) hr' (by omega) (by omega) (by omega) (by omega)
theorem k_windows (W : Int) (h0 : -9223372036854775808 ≤ W) (h1 : W ≤ 9223372036854775807) (A : Option Addr) (n cap : Nat) (w : World) (hc : n ≤ cap) (h : RowN w A n) :
    Calls Try.prog 4 #[.slice A n cap, .int .i64 W] w fun e w' => e = .returned (.bool true) ∧ Below w.heap.size w w' := by
  obtain ⟨l, hn, hr⟩ := h
  exact windows_walk A l n cap W w hn hc (by simp [Lit.wf, IntKind.min, IntKind.max, IntKind.bits, IntKind.signed]; omega) hr
theorem k_slides (x : Int) (h0 : 0 ≤ x) (h1 : x ≤ 65535) (A : Option Addr) (n cap : Nat) (w : World) (hc : n ≤ cap) (hcm : cap ≤ 9223372036854775807) (h : RowN w A n) :
    Calls Try.prog 5 #[.slice A n cap, .int .u16 x] w fun e w' => e = .returned (.bool true) ∧ Below w.heap.size w w' := by
  obtain ⟨d, rfl⟩ := Int.eq_ofNat_of_zero_le h0
  by_cases hs : n = 0 ∨ 600 < n
  · exact slides_short A n cap d w hs
  · obtain ⟨l, hn, hr⟩ := h
    exact slides_long A l n cap d w hn hc hcm (by omega) hr (by omega) (by omega)

theorem below_alloc {w w1 : World} {o : Obj} (h : Below (w.alloc o).heap.size (w.alloc o) w1) : Below w.heap.size w w1 :=
  ((Below.refl _ _).alloc (Nat.le_refl _) _).trans (h.mono (by rw [World.size_alloc]; omega))
theorem not_u8_all : ∀ k : Fin 256, bits .xor .u8 IntKind.u8.max ((k.val : Nat) : Int) = 255 - ((k.val : Nat) : Int) := by decide +kernel
theorem not_u8 {k : Nat} (h : k < 256) : bits .xor .u8 IntKind.u8.max (k : Int) = 255 - (k : Int) := not_u8_all ⟨k, h⟩

theorem wrap_u32 (x : Int) : 0 ≤ IntKind.u32.wrap x ∧ IntKind.u32.wrap x ≤ 4294967295 := by simp [IntKind.wrap, IntKind.bits, IntKind.signed]; omega
theorem wrap_u16 (x : Int) : 0 ≤ IntKind.u16.wrap x ∧ IntKind.u16.wrap x ≤ 65535 := by simp [IntKind.wrap, IntKind.bits, IntKind.signed]; omega
theorem wrap_i64 (x : Int) : -9223372036854775808 ≤ IntKind.i64.wrap x ∧ IntKind.i64.wrap x ≤ 9223372036854775807 := by simp [IntKind.wrap, IntKind.bits, IntKind.signed]; omega

def sevens : Array Value := #[.int .i64 (-9223372036854775808), .int .i64 (-1), .int .i64 0, .int .i64 1, .int .i64 11, .int .i64 12, .int .i64 9223372036854775807]
theorem seven_cells (w : World) (t : TypeId) : ∀ j : Nat, j < 7 → ∃ z : Int, (w.alloc (.cells sevens t)).cell? ⟨w.heap.size, j, none⟩ = some (.int .i64 z) ∧ -9223372036854775808 ≤ z ∧ z ≤ 9223372036854775807 := by
  intro j hj
  have hb := heap_alloc_new w (.cells sevens t)
  have h : ∀ j : Fin 7, ∃ z : Int, sevens[j.val]? = some (.int .i64 z) ∧ -9223372036854775808 ≤ z ∧ z ≤ 9223372036854775807 := by
    intro j
    match j with
    | ⟨0, _⟩ => exact ⟨_, rfl, by decide⟩
    | ⟨1, _⟩ => exact ⟨_, rfl, by decide⟩
    | ⟨2, _⟩ => exact ⟨_, rfl, by decide⟩
    | ⟨3, _⟩ => exact ⟨_, rfl, by decide⟩
    | ⟨4, _⟩ => exact ⟨_, rfl, by decide⟩
    | ⟨5, _⟩ => exact ⟨_, rfl, by decide⟩
    | ⟨6, _⟩ => exact ⟨_, rfl, by decide⟩
  obtain ⟨z, hz, hr⟩ := h ⟨j, hj⟩
  exact ⟨z, by simp only [World.cell?, hb]; exact hz, hr⟩

theorem sum_known : u (sum [49, 50, 51, 52, 53, 54, 55, 56, 57]) = 3808858755 := by decide +kernel
theorem sum_nought : u (sum []) = 0 := by decide +kernel
theorem sum_zero : u (sum [0]) = 1383945041 := by decide +kernel
theorem more_known : u (more 4294967294#32 [0]) = 227835132 := by decide +kernel

set_option maxRecDepth 100000 in
set_option maxHeartbeats 4000000 in
theorem known_walk (w : World) :
    Calls Try.prog 9 #[] w fun e w' => e = .returned (.bool true) ∧ Below w.heap.size w w' := by
  have kc := fun (w : World) (C : Array Value) (n c : Nat) => Lib.run_convert_bytes_const (P := Try.prog) w 23 5 C n c Try.underlying23 Try.underlying5
  go_enter Try.func9, Try.ntmps9
  go_wp2_with fail
  have hT : RowN (w.alloc (.cells #[.int .u8 97, .int .u8 98, .int .u8 99, .int .u8 100, .int .u8 101, .int .u8 102, .int .u8 103, .int .u8 104, .int .u8 105, .int .u8 106, .int .u8 107] 5 (11, 12))) (some ⟨w.heap.size, 0, none⟩) 11 :=
    rowN_ints [97, 98, 99, 100, 101, 102, 103, 104, 105, 106, 107] (by decide) rfl (heap_alloc_new w _)
  have hB : Below w.heap.size w (w.alloc (.cells #[.int .u8 97, .int .u8 98, .int .u8 99, .int .u8 100, .int .u8 101, .int .u8 102, .int .u8 103, .int .u8 104, .int .u8 105, .int .u8 106, .int .u8 107] 5 (11, 12))) := (Below.refl _ _).alloc (Nat.le_refl _) _
  revert hT hB
  generalize w.alloc (.cells #[.int .u8 97, .int .u8 98, .int .u8 99, .int .u8 100, .int .u8 101, .int .u8 102, .int .u8 103, .int .u8 104, .int .u8 105, .int .u8 106, .int .u8 107] 5 (11, 12)) = w0
  intro hT hB
  have HT := Lib.hid hT
  have HB0 := Lib.hid hB
  have hs0 := hB.size
  clear hT hB
  go_loopw [2] (fun i wr => ∃ k : Nat, k ≤ 256 ∧ i = .int .i64 k ∧ Below w0.heap.size w0 wr) (fun i _ => 256 - (intOf i).toNat)
  case atStart => exact ⟨0, Nat.zero_le _, rfl, Below.refl _ _⟩
  case round =>
    obtain ⟨k, hk, rfl, hnx⟩ := hrel
    have hszr := hnx.size
    have HX := Lib.hid hnx
    clear hnx
    by_cases hlt : k < 256
    · have hkd : decide ((k : Int) < 256) = true := by simp; omega
      have hTr := HT.out.below HX.out
      have HTr := Lib.hid hTr
      clear hTr
      have hR1 : ∀ w' : World, RowN (w'.alloc (.cells #[.int .u8 (bits .xor .u8 IntKind.u8.max (k : Int))] 5)) (some ⟨w'.heap.size, 0, none⟩) 1 := fun w' => rowN_ints [255 - (k : Int)] (by simp; omega) (by rw [not_u8 hlt]; rfl) (heap_alloc_new w' _)
      have hR2 : ∀ w' : World, RowN (w'.alloc (.cells #[.int .u8 (k : Int), .int .u8 1] 5)) (some ⟨w'.heap.size, 0, none⟩) 2 := fun w' => rowN_ints [(k : Int), 1] (by simp; omega) rfl (heap_alloc_new w' _)
      have hR3 : ∀ w' : World, RowN (w'.alloc (.cells #[.int .u8 (k : Int), .int .u8 97, .int .u8 (k : Int)] 5)) (some ⟨w'.heap.size, 0, none⟩) 3 := fun w' => rowN_ints [(k : Int), 97, (k : Int)] (by simp; omega) rfl (heap_alloc_new w' _)
      have hR4 : ∀ w' : World, RowN (w'.alloc (.cells #[.int .u8 (k : Int)] 5)) (some ⟨w'.heap.size, 0, none⟩) 1 := fun w' => rowN_ints [(k : Int)] (by simp; omega) rfl (heap_alloc_new w' _)
      go_wp2_with fail
      refine (k_halves ((k : Int) * 16843009) (by omega) (by omega) _ 1 1 _ (by omega) (by exact hR4 wr)).mono ?_
      rintro e w1 ⟨rfl, hb1⟩
      have H1 := Lib.hid (below_alloc hb1)
      have hz1 := H1.out.size
      clear hb1
      go_wp2_with fail
      refine (k_back ((k : Int) * 1048576) (by omega) (by omega) _ _ 2 2 1 1 _ (by omega) (by omega) (by exact (hR2 w1).below ((Below.refl _ _).alloc (Nat.le_refl _) _)) (by have h := hR1 (w1.alloc (.cells #[.int .u8 (k : Int), .int .u8 1] 5)); rwa [World.size_alloc] at h)).mono ?_
      rintro e w2 ⟨rfl, hb2⟩
      have H2 := Lib.hid (H1.out.trans ((below_alloc (below_alloc hb2)).mono hz1))
      have hz2 := H2.out.size
      clear hb2
      go_wp2_with fail
      refine (k_unlikes (k : Int) ((k : Int) % 16) (k : Int) ((k : Int) % 9) (by omega) (by omega) (by omega) (by omega) _ (k % 12) 11 w2 (by omega) (by exact rowN_head (HTr.out.below H2.out) (k % 12) (by omega))).mono ?_
      rintro e w3 ⟨rfl, hb3⟩
      have H3 := Lib.hid (H2.out.trans (hb3.mono hz2))
      have hz3 := H3.out.size
      clear hb3
      go_wp2_with fail
      refine (k_turns (k : Int) (by omega) (by omega) _ _ 3 3 (k % 12) 11 _ (by exact hR3 w3) (by exact rowN_head ((HTr.out.below H3.out).below ((Below.refl _ _).alloc (Nat.le_refl _) _)) (k % 12) (by omega))).mono ?_
      rintro e w4 ⟨rfl, hb4⟩
      have H4 := Lib.hid (H3.out.trans ((below_alloc hb4).mono hz3))
      have hz4 := H4.out.size
      clear hb4
      go_wp2_with fail
      go_roundw
      case rel => exact ⟨k + 1, by omega, by go_num, HX.out.trans (H4.out.mono hszr)⟩
      case measure => simp [intOf]; omega
    · have hkd : decide ((k : Int) < 256) = false := by simp; omega
      clear hlt hk
      have HZ0 := Lib.hid (HB0.out.trans (HX.out.mono hs0))
      have hTr := HT.out.below HX.out
      have HTr := Lib.hid hTr
      obtain ⟨v0, hv0⟩ : ∃ v0 : World, v0 = wr := ⟨_, rfl⟩
      rw [← hv0] at HTr HX HZ0 ⊢
      clear hv0 hTr
      have hs1 := HX.out.size
      go_wp2_with fail
      go_loopw [4] (fun i wr => ∃ k : Nat, k ≤ 32 ∧ i = .int .i64 k ∧ Below v0.heap.size v0 wr) (fun i _ => 32 - (intOf i).toNat)
      case atStart => exact ⟨0, Nat.zero_le _, rfl, Below.refl _ _⟩
      case round =>
        obtain ⟨k, hk, rfl, hnx⟩ := hrel
        have hszr := hnx.size
        have HX2 := Lib.hid hnx
        clear hnx
        by_cases hlt : k < 32
        · have hkd : decide ((k : Int) < 32) = true := by simp; omega
          have HTr2 : Hid (RowN wr (some ⟨w.heap.size, 0, none⟩) 11) := HTr.out.below HX2.out
          have k0 : 0 ≤ (k : Int) := by omega
          have t11 : (k : Int).tmod 11 = (k : Int) % 11 := Int.tmod_eq_emod_of_nonneg k0
          have t12 : (k : Int).tmod 12 = (k : Int) % 12 := Int.tmod_eq_emod_of_nonneg k0
          have t14 : (k : Int).tmod 14 = (k : Int) % 14 := Int.tmod_eq_emod_of_nonneg k0
          have p1 : 0 ≤ (k : Int) % 11 := by omega
          have p2 : (k : Int) % 11 ≤ 11 := by omega
          have p3 : ((k : Int) % 11).toNat = k % 11 := by omega
          have p4 : ¬ 11 = k % 11 := by omega
          have p5 : 0 ≤ (k : Int) % 12 := by omega
          have p6 : (k : Int) % 12 ≤ 11 := by omega
          have p7 : ((k : Int) % 12).toNat = k % 12 := by omega
          go_wp2_with fail
          refine wp_region_noPanic ?_
          refine wp_region_held_drew (S := (fun w' => Below wr.heap.size wr w')) (by kernel_rfl) ?hSa (fun hHeld => ?_)
          case hSa => exact ⟨rfl, rfl, rfl, Nat.le_refl _, fun _ _ => rfl⟩
          refine wpAnyH_take (i := 0) (oi := ⟨_, _, _, _, _, _⟩) (v := ?va0) rfl (by kernel_rfl) (by kernel_rfl) (by kernel_rfl) (fun _ _ _ h => h) (Or.inl ⟨by rfl, ?hya0⟩) hHeld ?_
          case hya0 => (intro wS hSw; (try dsimp only at hSw); go_simp; (first | done | with_reducible rfl))
          try simp only [Act.put, List.setIfInBounds_toArray, List.set_cons_zero, List.set_cons_succ]
          refine wpAnyH_take (i := 1) (oi := ⟨_, _, _, _, _, _⟩) (v := ?va1) rfl (by kernel_rfl) (by kernel_rfl) (by kernel_rfl) (fun _ _ _ h => h) (Or.inl ⟨by rfl, ?hya1⟩) hHeld ?_
          case hya1 => (intro wS hSw; (try dsimp only at hSw); go_simp; (first | done | with_reducible rfl))
          try simp only [Act.put, List.setIfInBounds_toArray, List.set_cons_zero, List.set_cons_succ]
          refine wpAnyH_take (i := 2) (oi := ⟨_, _, _, _, _, _⟩) (v := ?va2) rfl (by kernel_rfl) (by kernel_rfl) (by kernel_rfl) (fun _ _ _ h => h) (Or.inl ⟨by rfl, ?hya2⟩) hHeld ?_
          case hya2 => (intro wS hSw; (try dsimp only at hSw); go_simp; (first | done | with_reducible rfl))
          try simp only [Act.put, List.setIfInBounds_toArray, List.set_cons_zero, List.set_cons_succ]
          refine wpAnyH_take (i := 3) (oi := ⟨_, _, _, _, _, _⟩) (v := ?va3) rfl (by kernel_rfl) (by kernel_rfl) (by kernel_rfl) (fun _ _ _ h => h) (Or.inl ⟨by rfl, ?hya3⟩) hHeld ?_
          case hya3 => (intro wS hSw; (try dsimp only at hSw); go_simp; (first | done | with_reducible rfl))
          try simp only [Act.put, List.setIfInBounds_toArray, List.set_cons_zero, List.set_cons_succ]
          refine wpAnyH_take (i := 4) (oi := ⟨_, _, _, _, _, _⟩) (v := ?va4) rfl (by kernel_rfl) (by kernel_rfl) (by kernel_rfl) (fun _ _ _ h => h) (Or.inl ⟨by rfl, ?hya4⟩) hHeld ?_
          case hya4 => (intro wS hSw; (try dsimp only at hSw); go_simp; (first | done | with_reducible rfl))
          try simp only [Act.put, List.setIfInBounds_toArray, List.set_cons_zero, List.set_cons_succ]
          refine wpAnyH_take (i := 5) (oi := ⟨_, _, _, _, _, _⟩) (v := ?va5) rfl (by kernel_rfl) (by kernel_rfl) (by kernel_rfl) (fun _ _ _ h => h) (Or.inl ⟨by rfl, ?hya5⟩) hHeld ?_
          case hya5 => (intro wS hSw; (try dsimp only at hSw); go_simp; (first | done | with_reducible rfl))
          try simp only [Act.put, List.setIfInBounds_toArray, List.set_cons_zero, List.set_cons_succ]
          refine wpAnyH_ready (rs := [6]) (by kernel_rfl) (by simp) ?_
          refine AllReadyH.cons (o := ⟨_, _, _, _, _, _⟩) rfl (fun K hK => ?_) AllReadyH.nil
          go_simp
          refine (k_halves _ (by exact (wrap_u32 _).1) (by exact (wrap_u32 _).2) _ (11 - k % 11) (11 - k % 11) _ (by omega) (by exact rowN_tail HTr2.out (k % 11) (by omega))).mono ?_
          rintro e v1 ⟨rfl, hb⟩
          have hb2 : Below wr.heap.size wr v1 := ⟨hb.os, hb.tape, hb.output, hb.size, hb.block⟩
          have HL1 : Hid (Below wr.heap.size wr v1) := (Below.refl _ _).trans (hb2.mono (Nat.le_refl _))
          clear hb hb2
          go_wp2_with fail
          refine hK.out _ _ ?ka6 (fun hNew => ?_)
          case ka6 => (try dsimp only); exact HL1.out
          clear hK K hHeld
          have hHeld := hNew
          clear hNew
          try simp only [Act.put, List.setIfInBounds_toArray, List.set_cons_zero, List.set_cons_succ]
          refine wpAnyH_take (i := 7) (oi := ⟨_, _, _, _, _, _⟩) (v := ?va7) rfl (by kernel_rfl) (by kernel_rfl) (by kernel_rfl) (fun _ _ _ h => h) (Or.inl ⟨by rfl, ?hya7⟩) hHeld ?_
          case hya7 => (intro wS hSw; (try dsimp only at hSw); go_simp; (first | done | with_reducible rfl))
          try simp only [Act.put, List.setIfInBounds_toArray, List.set_cons_zero, List.set_cons_succ]
          refine wpAnyH_take (i := 8) (oi := ⟨_, _, _, _, _, _⟩) (v := ?va8) rfl (by kernel_rfl) (by kernel_rfl) (by kernel_rfl) (fun _ _ _ h => h) (Or.inl ⟨by rfl, ?hya8⟩) hHeld ?_
          case hya8 => (intro wS hSw; (try dsimp only at hSw); go_simp; (first | done | with_reducible rfl))
          try simp only [Act.put, List.setIfInBounds_toArray, List.set_cons_zero, List.set_cons_succ]
          refine wpAnyH_take (i := 9) (oi := ⟨_, _, _, _, _, _⟩) (v := ?va9) rfl (by kernel_rfl) (by kernel_rfl) (by kernel_rfl) (fun _ _ _ h => h) (Or.inl ⟨by rfl, ?hya9⟩) hHeld ?_
          case hya9 => (intro wS hSw; (try dsimp only at hSw); go_simp; (first | done | with_reducible rfl))
          try simp only [Act.put, List.setIfInBounds_toArray, List.set_cons_zero, List.set_cons_succ]
          refine wpAnyH_take (i := 10) (oi := ⟨_, _, _, _, _, _⟩) (v := ?va10) rfl (by kernel_rfl) (by kernel_rfl) (by kernel_rfl) (fun _ _ _ h => h) (Or.inl ⟨by rfl, ?hya10⟩) hHeld ?_
          case hya10 => (intro wS hSw; (try dsimp only at hSw); go_simp; (first | done | with_reducible rfl))
          try simp only [Act.put, List.setIfInBounds_toArray, List.set_cons_zero, List.set_cons_succ]
          refine wpAnyH_take (i := 11) (oi := ⟨_, _, _, _, _, _⟩) (v := ?va11) rfl (by kernel_rfl) (by kernel_rfl) (by kernel_rfl) (fun _ _ _ h => h) (Or.inl ⟨by rfl, ?hya11⟩) hHeld ?_
          case hya11 => (intro wS hSw; (try dsimp only at hSw); go_simp; (first | done | with_reducible rfl))
          try simp only [Act.put, List.setIfInBounds_toArray, List.set_cons_zero, List.set_cons_succ]
          refine wpAnyH_take (i := 12) (oi := ⟨_, _, _, _, _, _⟩) (v := ?va12) rfl (by kernel_rfl) (by kernel_rfl) (by kernel_rfl) (fun _ _ _ h => h) (Or.inl ⟨by rfl, ?hya12⟩) hHeld ?_
          case hya12 => (intro wS hSw; (try dsimp only at hSw); go_simp; (first | done | with_reducible rfl))
          try simp only [Act.put, List.setIfInBounds_toArray, List.set_cons_zero, List.set_cons_succ]
          refine wpAnyH_take (i := 13) (oi := ⟨_, _, _, _, _, _⟩) (v := ?va13) rfl (by kernel_rfl) (by kernel_rfl) (by kernel_rfl) (fun _ _ _ h => h) (Or.inl ⟨by rfl, ?hya13⟩) hHeld ?_
          case hya13 => (intro wS hSw; (try dsimp only at hSw); go_simp; (first | done | with_reducible rfl))
          try simp only [Act.put, List.setIfInBounds_toArray, List.set_cons_zero, List.set_cons_succ]
          refine wpAnyH_ready (rs := [14]) (by kernel_rfl) (by simp) ?_
          refine AllReadyH.cons (o := ⟨_, _, _, _, _, _⟩) rfl (fun K hK => ?_) AllReadyH.nil
          go_simp
          refine (k_unlikes _ 0 _ 0 (by exact wrap_u32 _) (by decide) (by exact wrap_u32 _) (by decide) _ 11 11 _ (by omega) (by exact (HTr2.out.below HL1.out))).mono ?_
          rintro e v2 ⟨rfl, hb⟩
          have hb2 : Below v1.heap.size v1 v2 := ⟨hb.os, hb.tape, hb.output, hb.size, hb.block⟩
          have HL2 : Hid (Below wr.heap.size wr v2) := (HL1.out).trans (hb2.mono (HL1.out.size))
          clear hb hb2
          go_wp2_with fail
          refine hK.out _ _ ?ka14 (fun hNew => ?_)
          case ka14 => (try dsimp only); exact HL2.out
          clear hK K hHeld
          have hHeld := hNew
          clear hNew
          try simp only [Act.put, List.setIfInBounds_toArray, List.set_cons_zero, List.set_cons_succ]
          refine wpAnyH_take (i := 15) (oi := ⟨_, _, _, _, _, _⟩) (v := ?va15) rfl (by kernel_rfl) (by kernel_rfl) (by kernel_rfl) (fun _ _ _ h => h) (Or.inl ⟨by rfl, ?hya15⟩) hHeld ?_
          case hya15 => (intro wS hSw; (try dsimp only at hSw); go_simp; (first | done | with_reducible rfl))
          try simp only [Act.put, List.setIfInBounds_toArray, List.set_cons_zero, List.set_cons_succ]
          refine wpAnyH_take (i := 16) (oi := ⟨_, _, _, _, _, _⟩) (v := ?va16) rfl (by kernel_rfl) (by kernel_rfl) (by kernel_rfl) (fun _ _ _ h => h) (Or.inl ⟨by rfl, ?hya16⟩) hHeld ?_
          case hya16 => (intro wS hSw; (try dsimp only at hSw); go_simp; (first | done | with_reducible rfl))
          try simp only [Act.put, List.setIfInBounds_toArray, List.set_cons_zero, List.set_cons_succ]
          refine wpAnyH_take (i := 17) (oi := ⟨_, _, _, _, _, _⟩) (v := ?va17) rfl (by kernel_rfl) (by kernel_rfl) (by kernel_rfl) (fun _ _ _ h => h) (Or.inl ⟨by rfl, ?hya17⟩) hHeld ?_
          case hya17 => (intro wS hSw; (try dsimp only at hSw); go_simp; (first | done | with_reducible rfl))
          try simp only [Act.put, List.setIfInBounds_toArray, List.set_cons_zero, List.set_cons_succ]
          refine wpAnyH_take (i := 18) (oi := ⟨_, _, _, _, _, _⟩) (v := ?va18) rfl (by kernel_rfl) (by kernel_rfl) (by kernel_rfl) (fun _ _ _ h => h) (Or.inl ⟨by rfl, ?hya18⟩) hHeld ?_
          case hya18 => (intro wS hSw; (try dsimp only at hSw); go_simp; (first | done | with_reducible rfl))
          try simp only [Act.put, List.setIfInBounds_toArray, List.set_cons_zero, List.set_cons_succ]
          refine wpAnyH_take (i := 19) (oi := ⟨_, _, _, _, _, _⟩) (v := ?va19) rfl (by kernel_rfl) (by kernel_rfl) (by kernel_rfl) (fun _ _ _ h => h) (Or.inl ⟨by rfl, ?hya19⟩) hHeld ?_
          case hya19 => (intro wS hSw; (try dsimp only at hSw); go_simp; (first | done | with_reducible rfl))
          try simp only [Act.put, List.setIfInBounds_toArray, List.set_cons_zero, List.set_cons_succ]
          refine wpAnyH_take (i := 20) (oi := ⟨_, _, _, _, _, _⟩) (v := ?va20) rfl (by kernel_rfl) (by kernel_rfl) (by kernel_rfl) (fun _ _ _ h => h) (Or.inl ⟨by rfl, ?hya20⟩) hHeld ?_
          case hya20 => (intro wS hSw; (try dsimp only at hSw); go_simp; (first | done | with_reducible rfl))
          try simp only [Act.put, List.setIfInBounds_toArray, List.set_cons_zero, List.set_cons_succ]
          refine wpAnyH_take (i := 21) (oi := ⟨_, _, _, _, _, _⟩) (v := ?va21) rfl (by kernel_rfl) (by kernel_rfl) (by kernel_rfl) (fun _ _ _ h => h) (Or.inl ⟨by rfl, ?hya21⟩) hHeld ?_
          case hya21 => (intro wS hSw; (try dsimp only at hSw); go_simp; (first | done | with_reducible rfl))
          try simp only [Act.put, List.setIfInBounds_toArray, List.set_cons_zero, List.set_cons_succ]
          refine wpAnyH_take (i := 22) (oi := ⟨_, _, _, _, _, _⟩) (v := ?va22) rfl (by kernel_rfl) (by kernel_rfl) (by kernel_rfl) (fun _ _ _ h => h) (Or.inl ⟨by rfl, ?hya22⟩) hHeld ?_
          case hya22 => (intro wS hSw; (try dsimp only at hSw); go_simp; (first | done | with_reducible rfl))
          try simp only [Act.put, List.setIfInBounds_toArray, List.set_cons_zero, List.set_cons_succ]
          refine wpAnyH_take (i := 23) (oi := ⟨_, _, _, _, _, _⟩) (v := ?va23) rfl (by kernel_rfl) (by kernel_rfl) (by kernel_rfl) (fun _ _ _ h => h) (Or.inl ⟨by rfl, ?hya23⟩) hHeld ?_
          case hya23 => (intro wS hSw; (try dsimp only at hSw); go_simp; (first | done | with_reducible rfl))
          try simp only [Act.put, List.setIfInBounds_toArray, List.set_cons_zero, List.set_cons_succ]
          refine wpAnyH_take (i := 24) (oi := ⟨_, _, _, _, _, _⟩) (v := ?va24) rfl (by kernel_rfl) (by kernel_rfl) (by kernel_rfl) (fun _ _ _ h => h) (Or.inl ⟨by rfl, ?hya24⟩) hHeld ?_
          case hya24 => (intro wS hSw; (try dsimp only at hSw); go_simp; (first | done | with_reducible rfl))
          try simp only [Act.put, List.setIfInBounds_toArray, List.set_cons_zero, List.set_cons_succ]
          refine wpAnyH_ready (rs := [25]) (by kernel_rfl) (by simp) ?_
          refine AllReadyH.cons (o := ⟨_, _, _, _, _, _⟩) rfl (fun K hK => ?_) AllReadyH.nil
          go_simp
          refine (k_windows _ (by first | exact (wrap_i64 _).1 | omega) (by first | exact (wrap_i64 _).2 | omega) _ (k % 12) 11 _ (by omega) (by exact rowN_head (HTr2.out.below HL2.out) (k % 12) (by omega))).mono ?_
          rintro e v3 ⟨rfl, hb⟩
          have hb2 : Below v2.heap.size v2 v3 := ⟨hb.os, hb.tape, hb.output, hb.size, hb.block⟩
          have HL3 : Hid (Below wr.heap.size wr v3) := (HL2.out).trans (hb2.mono (HL2.out.size))
          clear hb hb2
          go_wp2_with fail
          refine hK.out _ _ ?ka25 (fun hNew => ?_)
          case ka25 => (try dsimp only); exact HL3.out
          clear hK K hHeld
          have hHeld := hNew
          clear hNew
          try simp only [Act.put, List.setIfInBounds_toArray, List.set_cons_zero, List.set_cons_succ]
          refine wpAnyH_take (i := 26) (oi := ⟨_, _, _, _, _, _⟩) (v := ?va26) rfl (by kernel_rfl) (by kernel_rfl) (by kernel_rfl) (fun _ _ _ h => h) (Or.inl ⟨by rfl, ?hya26⟩) hHeld ?_
          case hya26 => (intro wS hSw; (try dsimp only at hSw); go_simp; (first | done | with_reducible rfl))
          try simp only [Act.put, List.setIfInBounds_toArray, List.set_cons_zero, List.set_cons_succ]
          refine wpAnyH_take (i := 27) (oi := ⟨_, _, _, _, _, _⟩) (v := ?va27) rfl (by kernel_rfl) (by kernel_rfl) (by kernel_rfl) (fun _ _ _ h => h) (Or.inl ⟨by rfl, ?hya27⟩) hHeld ?_
          case hya27 => (intro wS hSw; (try dsimp only at hSw); go_simp; (first | done | with_reducible rfl))
          try simp only [Act.put, List.setIfInBounds_toArray, List.set_cons_zero, List.set_cons_succ]
          refine wpAnyH_take (i := 28) (oi := ⟨_, _, _, _, _, _⟩) (v := ?va28) rfl (by kernel_rfl) (by kernel_rfl) (by kernel_rfl) (fun _ _ _ h => h) (Or.inl ⟨by rfl, ?hya28⟩) hHeld ?_
          case hya28 => (intro wS hSw; (try dsimp only at hSw); go_simp; (first | done | with_reducible rfl))
          try simp only [Act.put, List.setIfInBounds_toArray, List.set_cons_zero, List.set_cons_succ]
          refine wpAnyH_take (i := 29) (oi := ⟨_, _, _, _, _, _⟩) (v := ?va29) rfl (by kernel_rfl) (by kernel_rfl) (by kernel_rfl) (fun _ _ _ h => h) (Or.inl ⟨by rfl, ?hya29⟩) hHeld ?_
          case hya29 => (intro wS hSw; (try dsimp only at hSw); go_simp; (first | done | with_reducible rfl))
          try simp only [Act.put, List.setIfInBounds_toArray, List.set_cons_zero, List.set_cons_succ]
          refine wpAnyH_take (i := 30) (oi := ⟨_, _, _, _, _, _⟩) (v := ?va30) rfl (by kernel_rfl) (by kernel_rfl) (by kernel_rfl) (fun _ _ _ h => h) (Or.inl ⟨by rfl, ?hya30⟩) hHeld ?_
          case hya30 => (intro wS hSw; (try dsimp only at hSw); go_simp; (first | done | with_reducible rfl))
          try simp only [Act.put, List.setIfInBounds_toArray, List.set_cons_zero, List.set_cons_succ]
          refine wpAnyH_take (i := 31) (oi := ⟨_, _, _, _, _, _⟩) (v := ?va31) rfl (by kernel_rfl) (by kernel_rfl) (by kernel_rfl) (fun _ _ _ h => h) (Or.inl ⟨by rfl, ?hya31⟩) hHeld ?_
          case hya31 => (intro wS hSw; (try dsimp only at hSw); go_simp; (first | done | with_reducible rfl))
          try simp only [Act.put, List.setIfInBounds_toArray, List.set_cons_zero, List.set_cons_succ]
          refine wpAnyH_take (i := 32) (oi := ⟨_, _, _, _, _, _⟩) (v := ?va32) rfl (by kernel_rfl) (by kernel_rfl) (by kernel_rfl) (fun _ _ _ h => h) (Or.inl ⟨by rfl, ?hya32⟩) hHeld ?_
          case hya32 => (intro wS hSw; (try dsimp only at hSw); go_simp; (first | done | with_reducible rfl))
          try simp only [Act.put, List.setIfInBounds_toArray, List.set_cons_zero, List.set_cons_succ]
          refine wpAnyH_take (i := 33) (oi := ⟨_, _, _, _, _, _⟩) (v := ?va33) rfl (by kernel_rfl) (by kernel_rfl) (by kernel_rfl) (fun _ _ _ h => h) (Or.inl ⟨by rfl, ?hya33⟩) hHeld ?_
          case hya33 => (intro wS hSw; (try dsimp only at hSw); go_simp; (first | done | with_reducible rfl))
          try simp only [Act.put, List.setIfInBounds_toArray, List.set_cons_zero, List.set_cons_succ]
          refine wpAnyH_take (i := 34) (oi := ⟨_, _, _, _, _, _⟩) (v := ?va34) rfl (by kernel_rfl) (by kernel_rfl) (by kernel_rfl) (fun _ _ _ h => h) (Or.inl ⟨by rfl, ?hya34⟩) hHeld ?_
          case hya34 => (intro wS hSw; (try dsimp only at hSw); go_simp; (first | done | with_reducible rfl))
          try simp only [Act.put, List.setIfInBounds_toArray, List.set_cons_zero, List.set_cons_succ]
          refine wpAnyH_ready (rs := [35]) (by kernel_rfl) (by simp) ?_
          refine AllReadyH.cons (o := ⟨_, _, _, _, _, _⟩) rfl (fun K hK => ?_) AllReadyH.nil
          go_simp
          refine (k_slides _ (by first | exact (wrap_u16 _).1 | omega) (by first | exact (wrap_u16 _).2 | omega) _ (11 - k % 11) (11 - k % 11) _ (by omega) (by omega) (by exact rowN_tail (HTr2.out.below HL3.out) (k % 11) (by omega))).mono ?_
          rintro e v4 ⟨rfl, hb⟩
          have hb2 : Below v3.heap.size v3 v4 := ⟨hb.os, hb.tape, hb.output, hb.size, hb.block⟩
          have HL4 : Hid (Below wr.heap.size wr v4) := (HL3.out).trans (hb2.mono (HL3.out.size))
          clear hb hb2
          go_wp2_with fail
          refine hK.out _ _ ?ka35 (fun hNew => ?_)
          case ka35 => (try dsimp only); exact HL4.out
          clear hK K hHeld
          have hHeld := hNew
          clear hNew
          try simp only [Act.put, List.setIfInBounds_toArray, List.set_cons_zero, List.set_cons_succ]
          refine wpAnyH_take (i := 36) (oi := ⟨_, _, _, _, _, _⟩) (v := ?va36) rfl (by kernel_rfl) (by kernel_rfl) (by kernel_rfl) (fun _ _ _ h => h) (Or.inl ⟨by rfl, ?hya36⟩) hHeld ?_
          case hya36 => (intro wS hSw; (try dsimp only at hSw); go_simp; (first | done | with_reducible rfl))
          try simp only [Act.put, List.setIfInBounds_toArray, List.set_cons_zero, List.set_cons_succ]
          refine wpAnyH_take (i := 37) (oi := ⟨_, _, _, _, _, _⟩) (v := ?va37) rfl (by kernel_rfl) (by kernel_rfl) (by kernel_rfl) (fun _ _ _ h => h) (Or.inl ⟨by rfl, ?hya37⟩) hHeld ?_
          case hya37 => (intro wS hSw; (try dsimp only at hSw); go_simp; (first | done | with_reducible rfl))
          try simp only [Act.put, List.setIfInBounds_toArray, List.set_cons_zero, List.set_cons_succ]
          refine wpAnyH_done (by kernel_rfl) ?_ _
          refine NoPanic.normal ?_
          go_wp2_with fail
          go_roundw
          case rel => exact ⟨k + 1, by omega, by go_num, HX2.out.trans (HL4.out.mono hszr)⟩
          case measure => simp [intOf]; omega
        · have hkd : decide ((k : Int) < 32) = false := by simp; omega
          clear hlt hk
          have hs2 := HX2.out.size
          have HZ1 : Hid (Below w.heap.size w wr) := HZ0.out.trans (HX2.out.mono HZ0.out.size)
          have HTr2 : Hid (RowN wr (some ⟨w.heap.size, 0, none⟩) 11) := HTr.out.below HX2.out
          go_wp2_with fail
          have hZ2 := HZ1.out.alloc HZ1.out.size (.cells sevens 3)
          have hTs := HTr2.out.below ((Below.refl _ wr).alloc (Nat.le_refl _) (.cells sevens 3))
          have hse := fun j hj => seven_cells wr 3 j hj
          have hgs : wr.heap.size < (wr.alloc (.cells sevens 3)).heap.size := by rw [World.size_alloc]; omega
          unfold sevens at hZ2 hTs hse hgs
          revert hZ2 hTs hse hgs
          generalize wr.alloc _ = v1
          intro hZ2 hTs hse hgs
          have HZ2 := Lib.hid hZ2
          have HTs := Lib.hid hTs
          have HSE := Lib.hid hse
          have hs3 := HZ2.out.size
          clear hZ2 hTs hse HX HX2 HZ1 HTr2
          obtain ⟨g, hgq⟩ : ∃ g, g = wr.heap.size := ⟨_, rfl⟩
          rw [← hgq] at HSE hgs ⊢
          clear hgq
          go_loopw [108] (fun i wr => ∃ k : Nat, k ≤ 7 ∧ i = .int .i64 k ∧ Below v1.heap.size v1 wr) (fun i _ => 7 - (intOf i).toNat)
          case atStart => exact ⟨0, Nat.zero_le _, rfl, Below.refl _ _⟩
          case round =>
            obtain ⟨k, hk, rfl, hnx⟩ := hrel
            have hszr := hnx.size
            have HX3 := Lib.hid hnx
            clear hnx
            by_cases hlt : k < 7
            · have hkd : decide ((k : Int) < 7) = true := by simp; omega
              obtain ⟨z, hz, hz1, hz2⟩ := HSE.out k hlt
              have a1 := (HX3.out.cell (p := ⟨g, k, none⟩) hgs).trans hz
              have hTr := Lib.hid (HTs.out.below HX3.out)
              have k0 : 0 ≤ (k : Int) := by omega
              have k1 : (k : Int) < 7 := by omega
              clear hz
              go_wp2_with fail
              refine (k_windows z hz1 hz2 _ 11 11 _ (by omega) (by exact hTr.out)).mono ?_
              rintro e x1 ⟨rfl, hb⟩
              have HL1 := Lib.hid (HX3.out.trans (hb.mono hszr))
              have hz3 := HL1.out.size
              clear hb
              go_wp2_with fail
              refine (k_windows z hz1 hz2 _ 0 0 _ (by omega) (by exact ⟨[], rfl, .inl rfl⟩)).mono ?_
              rintro e x2 ⟨rfl, hb⟩
              have HL2 := Lib.hid (HL1.out.trans (hb.mono hz3))
              clear hb
              go_wp2_with fail
              go_roundw
              case rel => exact ⟨k + 1, by omega, by go_num, HL2.out⟩
              case measure => simp [intOf]; omega
            · have hkd : decide ((k : Int) < 7) = false := by simp; omega
              clear hlt hk
              have HZ3 : Hid (Below w.heap.size w wr) := HZ2.out.trans (HX3.out.mono HZ2.out.size)
              have hs4 := HZ3.out.size
              go_wp2_with fail
              have hb1 := HZ3.out.alloc hs4 (.cells #[.int .u8 49, .int .u8 50, .int .u8 51, .int .u8 52, .int .u8 53, .int .u8 54, .int .u8 55, .int .u8 56, .int .u8 57] 5 (9, 10))
              have hr1 : Row8 (wr.alloc (.cells #[.int .u8 49, .int .u8 50, .int .u8 51, .int .u8 52, .int .u8 53, .int .u8 54, .int .u8 55, .int .u8 56, .int .u8 57] 5 (9, 10))) _ (some ⟨wr.heap.size, 0, none⟩) [49, 50, 51, 52, 53, 54, 55, 56, 57] := row8_blk (heap_alloc_new wr _) rfl
              refine (sum_at _ [49, 50, 51, 52, 53, 54, 55, 56, 57] 9 9 _ _ rfl (by omega) (by exact hr1)).mono ?_
              rintro e w1 ⟨rfl, rfl⟩
              revert hr1 hb1
              generalize wr.alloc _ = w1
              intro hb1 hr1
              rw [sum_known]
              have HW1 := Lib.hid hb1
              have hz1 := hb1.size
              clear hr1 hb1
              go_wp2_with fail
              refine (sum_at none [] 0 0 0 _ rfl (by omega) (by exact .inl rfl)).mono ?_
              rintro e w2 ⟨rfl, rfl⟩
              rw [sum_nought]
              go_wp2_with fail
              have hb1 := HW1.out.alloc hz1 (.cells #[.int .u8 0] 5)
              have hr1 : Row8 (w1.alloc (.cells #[.int .u8 0] 5)) _ (some ⟨w1.heap.size, 0, none⟩) [0] := row8_blk (heap_alloc_new w1 _) rfl
              refine (sum_at _ [0] 1 1 _ _ rfl (by omega) (by exact hr1)).mono ?_
              rintro e w2 ⟨rfl, rfl⟩
              revert hr1 hb1
              generalize w1.alloc _ = w2
              intro hb1 hr1
              rw [sum_zero]
              have HW2 := Lib.hid hb1
              have hz2 := hb1.size
              clear hr1 hb1
              go_wp2_with fail
              have hb1 := HW2.out.alloc hz2 (.cells #[.int .u8 0] 5)
              have hr1 : Row8 (w2.alloc (.cells #[.int .u8 0] 5)) _ (some ⟨w2.heap.size, 0, none⟩) [0] := row8_blk (heap_alloc_new w2 _) rfl
              refine (more_at 4294967294 4294967294#32 rfl _ [0] 1 1 _ _ rfl (by omega) (by exact hr1)).mono ?_
              rintro e w3 ⟨rfl, rfl⟩
              revert hr1 hb1
              generalize w2.alloc _ = w3
              intro hb1 hr1
              rw [more_known]
              have HW3 := Lib.hid hb1
              have hz3 := hb1.size
              clear hr1 hb1
              go_wp2_with fail
              refine (works_true _).mono ?_
              rintro e w8 ⟨rfl, hB8⟩
              have HB8 := Lib.hid hB8
              clear hB8
              go_wp2_with fail
              go_ret
              exact ⟨rfl, HW3.out.trans (HB8.out.mono hz3)⟩
end Go.Proofs.Ytdabdneeckjdoaa.Crc
