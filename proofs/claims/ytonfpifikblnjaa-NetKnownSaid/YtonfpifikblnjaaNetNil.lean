/- A net that is not there: what its calls tell. -/
import Derived.Test.YtonfpifikblnjaaNetSaysW
import Derived.Test.YtonfpifikblnjaaNetCountW
import Derived.Test.YtonfpifikblnjaaNetTurnsW
import Derived.Test.YtonfpifikblnjaaNetTrueW
import Derived.Test.YtonfpifikblnjaaNetFairW
namespace Go.Proofs.Ytonfpifikblnjaa.Net
open Go.RowKit

set_option maxHeartbeats 1000000 in
theorem ends_nil (w : World) : Calls Try.prog 12 #[.pointer none] w fun e w' => e = .returned (.int .i64 0) ∧ w' = w := by
  go_enter Try.func12, Try.ntmps12
  go_wp2_with fail
  go_ret
  exact ⟨rfl, rfl⟩
set_option maxHeartbeats 1000000 in
theorem end_nil (w : World) : Calls Try.prog 29 #[.pointer none, .int .i64 0] w fun e w' => e = .returned (.bool false) ∧ w' = w := by
  have HE := Lib.hid (ends_nil w)
  go_enter Try.func29, Try.ntmps29
  go_wp2_with fail
  refine HE.out.mono ?_
  rintro e w' ⟨rfl, rfl⟩
  go_wp2_with fail
  go_ret
  exact ⟨rfl, rfl⟩
set_option maxHeartbeats 1000000 in
theorem waits_nil (w : World) : Calls Try.prog 24 #[.pointer none, .int .i64 0] w fun e w' => e = .returned (.int .i64 0) ∧ w' = w := by
  have HE := Lib.hid (end_nil w)
  go_enter Try.func24, Try.ntmps24
  go_wp2_with fail
  refine HE.out.mono ?_
  rintro e w' ⟨rfl, rfl⟩
  go_wp2_with fail
  go_ret
  exact ⟨rfl, rfl⟩
set_option maxHeartbeats 1000000 in
theorem clear_nil (w : World) : Calls Try.prog 27 #[.pointer none, .int .i64 0] w fun e w' => e = .returned (.tuple #[]) ∧ w' = w := by
  have HE := Lib.hid (end_nil w)
  go_enter Try.func27, Try.ntmps27
  go_wp2_with fail
  refine HE.out.mono ?_
  rintro e w' ⟨rfl, rfl⟩
  go_wp2_with fail
  go_end0
  exact ⟨rfl, rfl⟩
set_option maxHeartbeats 1000000 in
theorem there_nil (w : World) : Calls Try.prog 32 #[.pointer none, .int .i64 0] w fun e w' => e = .returned (.int .i64 1) ∧ w' = w := by
  go_enter Try.func32, Try.ntmps32
  go_wp2_with fail
  go_ret
  exact ⟨rfl, rfl⟩
set_option maxHeartbeats 1000000 in
theorem send_nil (w : World) : Calls Try.prog 13 #[.pointer none, .int .i64 0, .int .i64 0, .slice none 0 0] w fun e w' => e = .returned (.int .i64 1) ∧ w' = w := by
  go_enter Try.func13, Try.ntmps13
  go_wp2_with fail
  go_ret
  exact ⟨rfl, rfl⟩
set_option maxHeartbeats 1000000 in
theorem deliver_nil (w : World) : Calls Try.prog 14 #[.pointer none, .int .i64 0] w fun e w' => e = .returned (.int .i64 1) ∧ w' = w := by
  have HE := Lib.hid (there_nil w)
  go_enter Try.func14, Try.ntmps14
  go_wp2_with fail
  refine HE.out.mono ?_
  rintro e w' ⟨rfl, rfl⟩
  go_wp2_with fail
  go_ret
  exact ⟨rfl, rfl⟩
set_option maxHeartbeats 1000000 in
theorem drop_nil (w : World) : Calls Try.prog 26 #[.pointer none, .int .i64 0] w fun e w' => e = .returned (.int .i64 1) ∧ w' = w := by
  have HE := Lib.hid (there_nil w)
  go_enter Try.func26, Try.ntmps26
  go_wp2_with fail
  refine HE.out.mono ?_
  rintro e w' ⟨rfl, rfl⟩
  go_wp2_with fail
  go_ret
  exact ⟨rfl, rfl⟩
set_option maxHeartbeats 1000000 in
theorem double_nil (w : World) : Calls Try.prog 28 #[.pointer none, .int .i64 0] w fun e w' => e = .returned (.int .i64 1) ∧ w' = w := by
  have HE := Lib.hid (there_nil w)
  go_enter Try.func28, Try.ntmps28
  go_wp2_with fail
  refine HE.out.mono ?_
  rintro e w' ⟨rfl, rfl⟩
  go_wp2_with fail
  go_ret
  exact ⟨rfl, rfl⟩
set_option maxHeartbeats 1000000 in
theorem delay_nil (w : World) : Calls Try.prog 25 #[.pointer none, .int .i64 0] w fun e w' => e = .returned (.int .i64 1) ∧ w' = w := by
  have HE := Lib.hid (there_nil w)
  go_enter Try.func25, Try.ntmps25
  go_wp2_with fail
  refine HE.out.mono ?_
  rintro e w' ⟨rfl, rfl⟩
  go_wp2_with fail
  go_ret
  exact ⟨rfl, rfl⟩
set_option maxHeartbeats 1000000 in
theorem way_nil (w : World) : Calls Try.prog 16 #[.pointer none] w fun e w' => e = .returned (.slice none 0 0) ∧ w' = w := by
  go_enter Try.func16, Try.ntmps16
  go_wp2_with fail
  go_ret
  exact ⟨rfl, rfl⟩
set_option maxHeartbeats 1000000 in
theorem receive_nil (w : World) : Calls Try.prog 15 #[.pointer none, .int .i64 0] w fun e w' => e = .returned (.tuple #[.agg #[.int .i64 0, .int .i64 0, .slice none 0 0], .bool false]) ∧ w.grownBy w' none := by
  have hg1 := World.grownBy_alloc w (.cells #[.int .i64 0, .int .i64 0, .slice none 0 0] 37) none
  have hb1 := (MapKept.heap_alloc w (.cells #[.int .i64 0, .int .i64 0, .slice none 0 0] 37)).1
  obtain ⟨w1, hw1⟩ : ∃ w1, w1 = w.alloc (.cells #[.int .i64 0, .int .i64 0, .slice none 0 0] 37) := ⟨_, rfl⟩
  rw [← hw1] at hg1 hb1
  have HW := Lib.hid (waits_nil w1)
  have HW1 := Lib.hid hw1
  have HG := Lib.hid hg1
  have HRES : Hid (w1.heap[w.heap.size]? = _) := hb1
  clear hg1 hb1 hw1
  go_enter Try.func15, Try.ntmps15
  go_wp2_with fail
  rw [← HW1.out]
  refine HW.out.mono ?_
  rintro e w' ⟨rfl, rfl⟩
  have hw1 := HW1.out
  subst hw1
  go_wp2_with fail
  (try simp only [Exit.inBlock, Exit.then])
  refine bodyPost_ret (results_row_tmp rfl _ _ w.heap.size _ _ _ _ rfl HRES.out Try.underlying37 rfl (by kernel_rfl)) rfl ?_
  exact ⟨rfl, HG.out⟩
end Go.Proofs.Ytonfpifikblnjaa.Net
