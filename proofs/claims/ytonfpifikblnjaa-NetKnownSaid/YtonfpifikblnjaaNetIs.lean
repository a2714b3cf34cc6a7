/- Is a letter the document's: the law's helper is. -/
import Derived.Test.YtonfpifikblnjaaNetTrueData
namespace Go.Proofs.Ytonfpifikblnjaa.Net
open Go.RowKit

def isB (p q : Pk) : Bool := (p.src == q.src) && (p.to == q.to) && ((bs p.b).toList == (bs q.b).toList)
theorem isB_self (p : Pk) : isB p p = true := by
  unfold isB
  simp
theorem isB_iff (p q : Pk) : isB p q = true ↔ p = q := by
  unfold isB
  rw [Bool.and_eq_true, Bool.and_eq_true, beq_iff_eq, beq_iff_eq, bs_toList, bs_toList, beq_iff_eq]
  cases p; cases q
  simp [and_assoc]

set_option maxRecDepth 100000 in
set_option maxHeartbeats 4000000 in
theorem is_at (p q : Pk) (A : Option Addr) (cap : Nat) (w : World) (hb : Bytes w (fun _ => True) A p.b) :
    Calls Try.prog 20 #[.agg #[.int .i64 p.src, .int .i64 p.to, .slice A p.b.length cap], .agg #[.int .i64 q.src, .int .i64 q.to, strV q.b]] w fun e w' => e = .returned (.bool (isB p q)) ∧ w.grownBy w' none := by
  have hg : w.grownBy ((w.alloc (.cells #[.int .i64 p.src, .int .i64 p.to, .slice A p.b.length cap] 37)).alloc (.cells #[.int .i64 q.src, .int .i64 q.to, strV q.b] 48)) none :=
    (World.grownBy_alloc w _ none).andThen (World.grownBy_alloc _ _ none) (fun _ hj => .inr hj)
  have hcv := run_str (hb.grown hg) cap
  have HG := Lib.hid hg
  obtain ⟨r, hr⟩ : ∃ r, r = isB p q := ⟨_, rfl⟩
  rw [← hr]
  have HR := Lib.hid hr
  clear hg hb hr
  cases hb1 : (p.src == q.src) with
  | false =>
    have HRR : Hid (r = false) := by show _ = _; rw [HR.out]; unfold isB; rw [hb1]; rfl
    go_enter Try.func20, Try.ntmps20
    go_wp2_with fail
    go_ret
    rw [HRR.out]
    exact ⟨rfl, HG.out⟩
  | true =>
    cases hb2 : (p.to == q.to) with
    | false =>
      have HRR : Hid (r = false) := by show _ = _; rw [HR.out]; unfold isB; rw [hb1, hb2]; rfl
      go_enter Try.func20, Try.ntmps20
      go_wp2_with fail
      go_ret
      rw [HRR.out]
      exact ⟨rfl, HG.out⟩
    | true =>
      have HRR : Hid (r = ((bs p.b).toList == (bs q.b).toList)) := by show _ = _; rw [HR.out]; unfold isB; rw [hb1, hb2]; rfl
      go_enter Try.func20, Try.ntmps20
      go_wp2_with fail
      go_ret
      rw [HRR.out]
      exact ⟨rfl, HG.out⟩
end Go.Proofs.Ytonfpifikblnjaa.Net
