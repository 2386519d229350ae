/- PushChecks: missions and campaigns that are valid, and the speeds of flights. No condition. -/
import Derived.Test.YtiladlangkjoiaaGreatChecks8Lift
namespace Go.Proofs.YtiladlangkjoiaaGreat
open Go.RowKit Go.ChangeShapes Go.WideShapes Go.ChangeAt

set_option maxHeartbeats 4000000 in
theorem pchecks_closed : joinedFacts Tryz.pinned.checked.prog 3 Tryz.f3 Rows.pushChecksSpec Rows.pushChecksRow = true := by
  unfold joinedFacts
  simp only [Bool.and_eq_true]
  repeat' apply And.intro
  all_goals decide +kernel
theorem pchecks_holds : Rows.PushChecksSaid :=
  OpenClaim.holds_of_wide 3 Tryz.f3 rfl rfl rfl rfl rfl rfl rfl ⟨rfl, rfl, rfl, rfl, rfl⟩ rfl rfl rfl rfl rfl (by kernel_rfl) Tryz.func3 pchecks_closed
    (of_decide_eq_true (by kernel_rfl)) (by unfold Func.isWrapper; first | (rw [if_pos (by decide +kernel)]; kernel_rfl) | (rw [if_neg (by decide +kernel)]; exact ⟨rfl, rfl⟩))
    (fun os started H enc _ => pchecks_lifted os started H enc)

end Go.Proofs.YtiladlangkjoiaaGreat
