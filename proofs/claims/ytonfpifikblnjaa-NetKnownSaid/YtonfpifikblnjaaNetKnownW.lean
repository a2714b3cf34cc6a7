/- NetKnown: the walk. -/
import Derived.Test.YtonfpifikblnjaaNetKnownRow
namespace Go.Proofs.Ytonfpifikblnjaa.Net
open Go.RowKit

def lit11 : List ActV := [⟨4, 3, 0, []⟩, ⟨3, 255, 0, []⟩, ⟨4, 255, 0, []⟩, ⟨4, 254, 0, []⟩, ⟨4, -1, 0, []⟩, ⟨2, -1, 0, []⟩, ⟨3, 4611686018427387904, 0, []⟩, ⟨5, 255, 0, []⟩, ⟨5, 256, 0, []⟩, ⟨5, 0, 0, []⟩, ⟨5, -9223372036854775808, 0, []⟩]
def lit8 : List ActV := [⟨7, 0, 1, []⟩, ⟨6, 0, 0, []⟩, ⟨6, 0, 1, []⟩, ⟨6, 0, -1, []⟩, ⟨0, -1, 0, []⟩, ⟨0, 0, 2, []⟩, ⟨0, 3, 1, []⟩, ⟨7, 0, 9, []⟩]
theorem ActRow.alloc {w : World} {B : Nat} {v : Value} {cs : List ActV} (h : ActRow w B v cs) (o : Obj) : ActRow (w.alloc o) B v cs := h.off (Off.of_grown (World.grownBy_alloc w o none) (S := fun _ => False) (by simp)) (fun _ _ x => x)

def ends7 : Array Value := #[.int .i64 (-9223372036854775808), .int .i64 0, .int .i64 1, .int .i64 2, .int .i64 3, .int .i64 64, .int .i64 65]
theorem ends7_get {t : Nat} (h : t < 7) : ∃ z : Int, ends7[t]? = some (.int .i64 z) := by
  have : t = 0 ∨ t = 1 ∨ t = 2 ∨ t = 3 ∨ t = 4 ∨ t = 5 ∨ t = 6 := by omega
  rcases this with rfl | rfl | rfl | rfl | rfl | rfl | rfl <;> exact ⟨_, rfl⟩
theorem Acts.grown {w w' : World} {A : Option Addr} {n : Nat} (h : Acts w A n) (hg : w.grownBy w' none) : Acts w' A n := h.below ((Off.of_grown hg (S := fun _ => False) (by simp)).below (Nat.le_refl _) (fun _ _ x => x))
theorem below_step {n : Nat} {y wr v : World} (h : Below n y wr) (k : Below wr.heap.size wr v) (hn : n ≤ wr.heap.size) : Below n y v := h.trans (k.mono hn)

set_option maxRecDepth 100000 in
set_option maxHeartbeats 8000000 in
theorem known_walk (w : World) : Calls Try.prog 8 #[] w fun e w' => e = .returned (.bool true) ∧ Below w.heap.size w w' := by
  have FIN : Hid (∀ w' : World, Off (fun b => w.heap.size ≤ b) w w' → Below w.heap.size w w') := fun w' h => h.below (Nat.le_refl _) (fun k hk h => by omega)
  go_enter Try.func8, Try.ntmps8
  go_wp2_with fail
  refine (clear_nil _).mono ?_
  rintro e w' ⟨rfl, rfl⟩
  go_wp2_with fail
  refine (receive_nil _).mono ?_
  rintro e w1 ⟨rfl, hg1⟩
  have HG1 := Lib.hid hg1
  clear hg1
  go_wp2_with fail
  have hgv := World.grownBy_alloc w1 (.cells #[.int .i64 0, .int .i64 0, .slice none 0 0] 37) none
  obtain ⟨v1, hv1⟩ : ∃ v1, v1 = w1.alloc (.cells #[.int .i64 0, .int .i64 0, .slice none 0 0] 37) := ⟨_, rfl⟩
  rw [← hv1] at hgv ⊢
  have HV : Hid (Off (fun b => w'.heap.size ≤ b) w' v1) := (Off.of_grown HG1.out (by simp)).trans (Off.of_grown hgv (by simp))
  clear hgv hv1
  refine (ends_nil _).mono ?_
  rintro e wq ⟨rfl, rfl⟩
  go_wp2_with fail
  refine (send_nil _).mono ?_
  rintro e wq ⟨rfl, rfl⟩
  go_wp2_with fail
  refine (deliver_nil _).mono ?_
  rintro e wq ⟨rfl, rfl⟩
  go_wp2_with fail
  refine (drop_nil _).mono ?_
  rintro e wq ⟨rfl, rfl⟩
  go_wp2_with fail
  refine (double_nil _).mono ?_
  rintro e wq ⟨rfl, rfl⟩
  go_wp2_with fail
  refine (delay_nil _).mono ?_
  rintro e wq ⟨rfl, rfl⟩
  go_wp2_with fail
  refine (way_nil _).mono ?_
  rintro e wq ⟨rfl, rfl⟩
  go_wp2_with fail
  refine (waits_nil _).mono ?_
  rintro e wq ⟨rfl, rfl⟩
  go_wp2_with fail
  go_loopw [4, 5] (fun v iv wr => ∃ (k : Nat) (cs : List ActV), k ≤ 258 ∧ cs.length = k ∧ iv = .int .i64 (k : Int) ∧ ActRow wr w'.heap.size v cs ∧ Off (fun b => w'.heap.size ≤ b) w' wr) (fun _ iv _ => 258 - (intOf iv).toNat)
  case atStart => exact ⟨0, [], Nat.zero_le _, rfl, rfl, ⟨rfl, .inl ⟨rfl, rfl⟩⟩, HV.out⟩
  case round =>
    obtain ⟨k, cs, hk, hlen, rfl, hrow, hoff⟩ := hrel
    have HROW := Lib.hid hrow
    have HOFF := Lib.hid hoff
    have HLEN := Lib.hid hlen
    clear hrow hoff hlen HV
    by_cases hlt : k < 258
    · have hkd : decide ((k : Int) < 258) = true := by simp; omega
      have hkd2 : decide (k < 258) = true := by simpa using hlt
      have HLT := Lib.hid hlt
      obtain ⟨x, hx⟩ : ∃ x, x = Utf8.encode (97 + (k : Int) % 26) := ⟨_, rfl⟩
      have HBA : Hid ((wr.alloc (.cells #[.int .u8 0, .int .i64 ((k : Int) % 3), .int .i64 ((k : Int) % 2), .string (Utf8.encode (97 + (k : Int) % 26))] 33)).heap[wr.heap.size]? = some (.cells (([⟨0, (k : Int) % 3, (k : Int) % 2, x.data.toList⟩] : List ActV).flatMap acells).toArray 33)) := by
        rw [← hx]
        exact (MapKept.heap_alloc wr (.cells #[.int .u8 0, .int .i64 ((k : Int) % 3), .int .i64 ((k : Int) % 2), .string x] 33)).1
      have HGA := Lib.hid (World.grownBy_alloc wr (.cells #[.int .u8 0, .int .i64 ((k : Int) % 3), .int .i64 ((k : Int) % 2), .string (Utf8.encode (97 + (k : Int) % 26))] 33) none)
      have hrowx : ActRow (wr.alloc (.cells #[.int .u8 0, .int .i64 ((k : Int) % 3), .int .i64 ((k : Int) % 2), .string (Utf8.encode (97 + (k : Int) % 26))] 33)) w'.heap.size _ cs := HROW.out.off (Off.of_grown HGA.out (S := fun _ => False) (by simp)) (fun _ _ x => x)
      have HRX := Lib.hid hrowx
      have HFEW : Hid (cs.length + 1 < 100000) := by show _ < _; have := HLEN.out; have := HLT.out; omega
      have HBS : Hid (w'.heap.size ≤ (wr.alloc (.cells #[.int .u8 0, .int .i64 ((k : Int) % 3), .int .i64 ((k : Int) % 2), .string (Utf8.encode (97 + (k : Int) % 26))] 33)).heap.size) := Nat.le_trans HOFF.out.size HGA.out.size
      clear hlt hk hx hrowx
      go_wp2_with (first
        | (at_builtin; refine wpList_append_acts rfl (.tmp 62) (.tmp 73) rfl w'.heap.size _ cs _ 1 rfl rfl HRX.out wr.heap.size rfl HBA.out HFEW.out HBS.out ?_; intro v3 w3 hr3 hg3; go_frame)
        | fail)
      go_roundw
      case rel => exact ⟨k + 1, _, HLT.out, by rw [List.length_append, HLEN.out]; rfl, nxt_num k (by have := HLT.out; omega), hr3, (HOFF.out.trans (Off.of_grown HGA.out (by simp))).trans (Off.of_grown hg3 (fun b hb => (HROW.out.lt b hb).1))⟩
      case measure => exact nxt_meas _ k HLT.out (by have := HLT.out; omega)
    · have hkd : decide ((k : Int) < 258) = false := by simp; omega
      have hkd2 : decide (k < 258) = false := by simpa using hlt
      obtain rfl : k = 258 := by omega
      clear hlt hk
      obtain ⟨A0, n0, cap0, rfl⟩ := row_any HROW.out
      have HBS : Hid (∀ o : Obj, w'.heap.size ≤ (wr.alloc o).heap.size) := fun o => Nat.le_trans HOFF.out.size (World.grownBy_alloc wr o none).size
      have HFEW : Hid (cs.length + 11 < 100000) := by show _ < _; have := HLEN.out; omega
      go_wp2_with (first
        | (at_builtin; refine wpList_append_acts rfl (.tmp 75) (.tmp 87) rfl w'.heap.size _ cs lit11 11 rfl rfl (HROW.out.alloc _) wr.heap.size rfl (MapKept.heap_alloc wr _).1 HFEW.out (HBS.out _) ?_; intro v3 w3 hr3 hg3; go_frame)
        | fail)
      have HO3 : Hid (Off (fun b => w'.heap.size ≤ b) w' w3) := (HOFF.out.trans (Off.of_grown (World.grownBy_alloc wr _ none) (by simp))).trans (Off.of_grown hg3 (fun b hb => (HROW.out.lt b hb).1))
      have HL3 : Hid ((cs ++ lit11).length = 269) := by rw [List.length_append, HLEN.out]; rfl
      have HR3 := Lib.hid hr3
      clear hr3 hg3
      go_loopw [4, 6] (fun v iv wr => ∃ (k : Nat) (cs : List ActV), k ≤ 70 ∧ cs.length = 269 + k ∧ iv = .int .i64 (k : Int) ∧ ActRow wr w'.heap.size v cs ∧ Off (fun b => w'.heap.size ≤ b) w' wr) (fun _ iv _ => 70 - (intOf iv).toNat)
      case atStart => exact ⟨0, _, Nat.zero_le _, HL3.out, rfl, HR3.out, HO3.out⟩
      case round =>
        obtain ⟨k, cs, hk, hlen, rfl, hrow, hoff⟩ := hrel
        clear HROW HOFF HLEN HBS HFEW HO3 HL3 HR3
        have HROW := Lib.hid hrow
        have HOFF := Lib.hid hoff
        have HLEN := Lib.hid hlen
        obtain ⟨A0, n0, cap0, rfl⟩ := row_any hrow
        have HBS : Hid (∀ o : Obj, w'.heap.size ≤ (wr.alloc o).heap.size) := fun o => Nat.le_trans hoff.size (World.grownBy_alloc wr o none).size
        clear hrow hoff hlen
        by_cases hlt : k < 70
        · have hkd : decide ((k : Int) < 70) = true := by simp; omega
          have hkd2 : decide (k < 70) = true := by simpa using hlt
          have HLT := Lib.hid hlt
          have HFEW : Hid (cs.length + 1 < 100000) := by show _ < _; have := HLEN.out; omega
          clear hlt hk
          go_wp2_with (first
            | (at_builtin; refine wpList_append_acts rfl (.tmp 93) (.tmp 97) rfl w'.heap.size _ cs [⟨2, (k : Int) % 3, 0, []⟩] 1 rfl rfl (HROW.out.alloc _) wr.heap.size rfl (MapKept.heap_alloc wr _).1 HFEW.out (HBS.out _) ?_; intro v3 w3 hr3 hg3; go_frame)
            | fail)
          go_roundw
          case rel => exact ⟨k + 1, _, HLT.out, by rw [List.length_append, HLEN.out]; rfl, nxt_num k (by have := HLT.out; omega), hr3, (HOFF.out.trans (Off.of_grown (World.grownBy_alloc wr _ none) (by simp))).trans (Off.of_grown hg3 (fun b hb => (HROW.out.lt b hb).1))⟩
          case measure => exact nxt_meas _ k HLT.out (by have := HLT.out; omega)
        · have hkd : decide ((k : Int) < 70) = false := by simp; omega
          have hkd2 : decide (k < 70) = false := by simpa using hlt
          obtain rfl : k = 70 := by omega
          clear hlt hk
          have HFEW : Hid (cs.length + 8 < 100000) := by show _ < _; have := HLEN.out; omega
          go_wp2_with (first
            | (at_builtin; refine wpList_append_acts rfl (.tmp 99) (.tmp 108) rfl w'.heap.size _ cs lit8 8 rfl rfl (HROW.out.alloc _) wr.heap.size rfl (MapKept.heap_alloc wr _).1 HFEW.out (HBS.out _) ?_; intro v3 w3 hr3 hg3; obtain ⟨g, cap, rfl, hc1, hc2, hacts⟩ := hr3.have_ (n := 347) (by rw [List.length_append, HLEN.out]; rfl) (by decide); go_frame)
            | fail)
          have HO3 : Hid (Off (fun b => w'.heap.size ≤ b) w' w3) := (HOFF.out.trans (Off.of_grown (World.grownBy_alloc wr _ none) (by simp))).trans (Off.of_grown hg3 (fun b hb => (HROW.out.lt b hb).1))
          have hgy := World.grownBy_alloc w3 (.cells ends7 3) none
          have hby := (MapKept.heap_alloc w3 (.cells ends7 3)).1
          obtain ⟨y, hy⟩ : ∃ y, y = w3.alloc (.cells ends7 3) := ⟨_, rfl⟩
          rw [← hy] at hgy hby
          have hy2 : w3.alloc (.cells #[.int .i64 (-9223372036854775808), .int .i64 0, .int .i64 1, .int .i64 2, .int .i64 3, .int .i64 64, .int .i64 65] 3) = y := hy.symm
          rw [hy2]
          have HACTS := Lib.hid (hacts.grown hgy)
          have HOY := Lib.hid (HO3.out.trans (Off.of_grown hgy (by simp)))
          obtain ⟨gi, hgi⟩ : ∃ gi, gi = w3.heap.size := ⟨_, rfl⟩
          rw [← hgi] at hby ⊢
          have HBY := Lib.hid hby
          have HC1 := Lib.hid hc1
          clear hgy hby hy hy2 hgi hg3 hr3 hacts
          rw [show ((258 : Nat) : Int) = (258 : Int) from rfl, show ((70 : Nat) : Int) = (70 : Int) from rfl]
          go_loopw [112] (fun iv wr => ∃ t : Nat, t ≤ 7 ∧ iv = .int .i64 (t : Int) ∧ Below y.heap.size y wr) (fun iv _ => 7 - (intOf iv).toNat)
          case atStart => exact ⟨0, Nat.zero_le _, rfl, Below.refl _ _⟩
          case round =>
            obtain ⟨t, ht, rfl, hbw⟩ := hrel
            have HBW := Lib.hid hbw
            clear hbw
            by_cases hlt : t < 7
            · have htd : decide ((t : Int) < 7) = true := by simp; omega
              have htd2 : decide (t < 7) = true := by simpa using hlt
              obtain ⟨ends, hends⟩ := ends7_get hlt
              have hce : wr.cell? ⟨gi, t, none⟩ = some (.int .i64 ends) := by
                have hb := HBW.out.block gi (Array.getElem?_eq_some_iff.1 HBY.out).1
                simp only [World.cell?, hb, HBY.out]
                exact hends
              have HLT := Lib.hid hlt
              have HAW := Lib.hid (HACTS.out.below HBW.out)
              have t0 : (0 : Int) ≤ (t : Int) := by omega
              have t1 : (t : Int) < 7 := by omega
              have n1 : (347 : Int) ≤ (cap : Int) := by omega
              clear hlt ht hends
              go_wp2_with fail
              refine (says_n wr _ 107 _ ends ((HACTS.out.below HBW.out).part 240 107 (by decide)) (by omega) (by omega)).mono ?_
              rintro e z1 ⟨rfl, hb1⟩
              have HB1 := Lib.hid (below_step HBW.out hb1 HBW.out.size)
              clear hb1
              go_wp2_with fail
              refine (says_n z1 _ 9 _ ends ((HACTS.out.below HB1.out).part 0 9 (by decide)) (by omega) (by omega)).mono ?_
              rintro e z2 ⟨rfl, hb2⟩
              have HB2 := Lib.hid (below_step HB1.out hb2 HB1.out.size)
              clear hb2
              go_wp2_with fail
              refine (true_n z2 _ 147 _ ends ((HACTS.out.below HB2.out).part 200 147 (by decide)) (by omega) (by omega)).mono ?_
              rintro e z3 ⟨rfl, hb3⟩
              have HB3 := Lib.hid (below_step HB2.out hb3 HB2.out.size)
              clear hb3
              go_wp2_with fail
              refine (count_n z3 _ 97 _ ends ((HACTS.out.below HB3.out).part 250 97 (by decide)) (by omega) (by omega)).mono ?_
              rintro e z4 ⟨rfl, hb4⟩
              have HB4 := Lib.hid (below_step HB3.out hb4 HB3.out.size)
              clear hb4
              go_wp2_with fail
              refine (fair_n z4 _ 30 _ ends _ ((HACTS.out.below HB4.out).part 0 30 (by decide)) (by omega) (by omega)).mono ?_
              rintro e z5 ⟨rfl, hb5⟩
              have HB5 := Lib.hid (below_step HB4.out hb5 HB4.out.size)
              clear hb5
              go_wp2_with fail
              refine (turns_n z5 _ 7 _ ends _ ((HACTS.out.below HB5.out).part 0 7 (by decide)) (by omega) (by omega)).mono ?_
              rintro e z6 ⟨rfl, hb6⟩
              have HB6 := Lib.hid (below_step HB5.out hb6 HB5.out.size)
              clear hb6
              go_wp2_with fail
              refine (turns_n z6 _ 5 _ ends _ ((HACTS.out.below HB6.out).part 0 5 (by decide)) (by omega) (by omega)).mono ?_
              rintro e z7 ⟨rfl, hb7⟩
              have HB7 := Lib.hid (below_step HB6.out hb7 HB6.out.size)
              clear hb7
              go_wp2_with fail
              go_roundw
              case rel => exact ⟨t + 1, HLT.out, by rw [Int.natCast_add]; rfl, HB7.out⟩
              case measure => show 7 - ((t : Int) + 1).toNat < 7 - (t : Int).toNat; have := HLT.out; omega
            · have htd : decide ((t : Int) < 7) = false := by simp; omega
              have htd2 : decide (t < 7) = false := by simpa using hlt
              clear hlt ht
              go_wp2_with fail
              have n1 : (347 : Int) ≤ (cap : Int) := by omega
              refine (says_n wr _ 347 _ 3 (HACTS.out.below HBW.out) (by omega) (by omega)).mono ?_
              rintro e z1 ⟨rfl, hb1⟩
              have HB1 := Lib.hid (below_step HBW.out hb1 HBW.out.size)
              clear hb1
              go_wp2_with fail
              refine (true_n z1 _ 347 _ 3 (HACTS.out.below HB1.out) (by omega) (by omega)).mono ?_
              rintro e z2 ⟨rfl, hb2⟩
              have HB2 := Lib.hid (below_step HB1.out hb2 HB1.out.size)
              clear hb2
              go_wp2_with fail
              refine (fair_n z2 _ 200 _ 3 1 ((HACTS.out.below HB2.out).part 0 200 (by decide)) (by omega) (by omega)).mono ?_
              rintro e z3 ⟨rfl, hb3⟩
              have HB3 := Lib.hid (below_step HB2.out hb3 HB2.out.size)
              clear hb3
              go_wp2_with fail
              refine (new_at 70 z3).mono ?_
              rintro e z4 ⟨nb, rfl, hn4, hg4⟩
              have HN4 := Lib.hid hn4
              have HG4 := Lib.hid hg4
              clear hn4 hg4
              go_wp2_with fail
              refine (ends_at _ nb _ z4 HN4.out).mono ?_
              rintro e wq ⟨rfl, hq⟩
              have hq := hq.symm
              subst hq
              have e70 : ((fresh (max 1 (min 64 (70 : Int))).toNat).n : Int) = 64 := by decide
              rw [e70]
              go_wp2_with fail
              refine (new_at (-3) z4).mono ?_
              rintro e z5 ⟨nb5, rfl, hn5, hg5⟩
              have HN5 := Lib.hid hn5
              have HG5 := Lib.hid hg5
              clear hn5 hg5 HN4
              go_wp2_with fail
              refine (ends_at _ nb5 _ z5 HN5.out).mono ?_
              rintro e wq ⟨rfl, hq⟩
              have hq := hq.symm
              subst hq
              have e3 : ((fresh (max 1 (min 64 (-3 : Int))).toNat).n : Int) = 1 := by decide
              rw [e3]
              go_wp2_with fail
              refine (works_at z5).mono ?_
              rintro e z6 ⟨rfl, hg6⟩
              have HG6 := Lib.hid hg6
              clear hg6
              go_wp2_with fail
              go_ret
              have hgy : y.heap.size ≤ z3.heap.size := HB3.out.size
              have hOz : Off (fun b => y.heap.size ≤ b) y z3 := ⟨HB3.out.os, HB3.out.tape, HB3.out.output, HB3.out.size, fun k hk hn => HB3.out.block k hk⟩
              have hO6 : Off (fun b => w'.heap.size ≤ b) w' z6 := ((((HOY.out.trans (hOz.mono (fun b _ hb => Nat.le_trans HOY.out.size hb))).trans (Off.of_grown HG4.out (by simp))).trans (Off.of_grown HG5.out (by simp))).trans (Off.of_grown HG6.out (by simp)))
              exact ⟨rfl, FIN.out _ hO6⟩
end Go.Proofs.Ytonfpifikblnjaa.Net
