/- The walk of the program's gone: the table of what each byte has left. -/
import Derived.Test.YtdabdneeckjdoaaCrcTab
import Derived.Test.YtdabdneeckjdoaaCrcFns
namespace Go.Proofs.Ytdabdneeckjdoaa.Crc
open Go.RowKit
attribute [local go_sem] u32_signed not_max_u xor_u xor_at8

theorem zero_table (w : World) : (zeroValue 44).run Try.prog w = .ok (.agg noughtCells) w := by kernel_rfl
theorem info_table : (Try.prog.info? 44).map (·.size) = some 256 := by kernel_rfl

set_option maxRecDepth 100000 in
set_option maxHeartbeats 600000 in
theorem gone_any (n : Nat) (w : World) (hn2 : n ≤ 9223372036854775806) :
    Calls Try.prog 26 #[.int .i64 n] w fun e w' => e = .returned (.agg (table (n + 1) 256)) ∧ Below w.heap.size w w' := by
  have hz := zero_table
  go_enter Try.func26, Try.ntmps26
  go_wp2
  clear hz
  go_loopw [3] (fun i wr => ∃ c : Nat, 1 ≤ c ∧ c ≤ 256 ∧ i = .int .i64 c ∧ TabBlk wr w.heap.size 44 (n + 1) c ∧ Below w.heap.size w wr) (fun i _ => 256 - (intOf i).toNat)
  case atStart => exact ⟨1, by omega, by omega, rfl, by unfold TabBlk; rw [← table_one]; exact heap_alloc_new w _, (Below.refl _ _).alloc (Nat.le_refl _) _⟩
  case round =>
    obtain ⟨c, hc1, hc, rfl, hT, hB⟩ := hrel
    by_cases hlt : c < 256
    · have hlow := low_form ⟨c, hlt⟩ hc1
      have hle := low_le ⟨c, hlt⟩ hc1
      have hx := low_xor ⟨c, hlt⟩
      simp only at hlow hle hx
      obtain ⟨b, hb⟩ : ∃ b, b = lowb c := ⟨_, rfl⟩
      rw [← hb] at hlow hle hx
      clear hb
      obtain ⟨hb1, hb2⟩ := hle
      by_cases hbc : b < c
      · have HX : Hid (BitVec.ofNat 32 b ^^^ BitVec.ofNat 32 (c - b) = BitVec.ofNat 32 c) := hx.resolve_right (by omega)
        have hcb := hT.cell b (by omega)
        have hcc := hT.cell (c - b) (by omega)
        have hcx := hT.cell c hlt
        have hfx := hT.frozen c
        have HT := Lib.hid hT
        clear hx hT
        go_wp2
        go_region
        all_goals go_wp2
        all_goals go_roundw
        case rel => exact ⟨c + 1, by omega, by omega, by go_num, by rw [tab_xor _ _ _ _ hbc (by omega) HX.out]; exact HT.out.set, (hB.setCell (p := ⟨w.heap.size, c, none⟩) (Nat.le_refl _) _).drew⟩
        case measure => simp [intOf]; omega
      · obtain rfl : b = c := by omega
        clear hx
        have hcx := hT.cell b hlt
        have hfx := hT.frozen b
        have HT := Lib.hid hT
        clear hT
        have hd : decide ((b : Int) < 256) = true := by simp; omega
        go_wp2
        go_loop [5, 32] (fun r i => ∃ j : Nat, j ≤ n + 1 ∧ i = .int .i64 j ∧ r = .int .u32 (u (times h8 j (BitVec.ofNat 32 b)))) (fun _ i => n + 1 - (intOf i).toNat)
        case atStart => exact ⟨0, Nat.zero_le _, rfl, by rw [u_of b (by omega)]; rfl⟩
        case round =>
          obtain ⟨j, hj, rfl, rfl⟩ := hrel
          by_cases hjn : j < n + 1
          · go_wp2_with (go_at_call 20; refine (eight_h _ _).mono ?_; rintro e w' ⟨rfl, rfl⟩)
            go_round
            case rel => exact ⟨j + 1, by omega, by go_num, by rw [times_succ']⟩
            case measure => simp [intOf]; omega
          · obtain rfl : j = n + 1 := by omega
            go_wp2
            go_roundw
            case rel => exact ⟨b + 1, by omega, by omega, by go_num, HT.out.set, hB.setCell (p := ⟨w.heap.size, b, none⟩) (Nat.le_refl _) _⟩
            case measure => simp [intOf]; omega
    · obtain rfl : c = 256 := by omega
      have HT := Lib.hid hT
      clear hT
      have hi : (Try.prog.info? 44).map (·.size) = some (table (n + 1) 256).size := by rw [table_size]; exact info_table
      have HI := Lib.hid hi
      clear hi
      go_wp2_with (first | (with_reducible refine wpList_load_row rfl 44 (.tmp 2) rfl w.heap.size rfl 44 (table (n + 1) 256) (0, 0) _ HT.out.heap Try.underlying44 rfl HI.out ?_) | (with_reducible refine wpList_store_mid rfl 44 (.tmp 2) (.tmp 40) rfl w.heap.size 0 (table (n + 1) 256) rfl rfl HT.out.there HI.out (table_oneCell _ _) ?_; rw [HT.out.stored]))
      refine bodyPost_ret (v := .agg (table (n + 1) 256)) (results_cell_row rfl _ _ w.heap.size 44 (table (n + 1) 256) (0, 0) _ rfl HT.out.heap Try.underlying44 rfl HI.out) rfl ⟨rfl, hB⟩
end Go.Proofs.Ytdabdneeckjdoaa.Crc
