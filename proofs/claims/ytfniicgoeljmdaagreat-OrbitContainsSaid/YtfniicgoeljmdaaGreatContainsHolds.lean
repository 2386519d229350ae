/- OrbitContains: steps contain all that is possible. No condition. -/
import Derived.Test.YtfniicgoeljmdaaGreatContainsLift
namespace Go.Proofs.YtfniicgoeljmdaaGreat
open Go.RowKit Go.ChangeShapes Go.WideShapes Go.ChangeAt

set_option maxHeartbeats 4000000 in
theorem contains_closed : joinedFacts Tryz.pinned.checked.prog 5 Tryz.f5 Rows.orbitContainsSpec Rows.orbitContainsRow = true := by
  unfold joinedFacts
  simp only [Bool.and_eq_true]
  repeat' apply And.intro
  all_goals decide +kernel
theorem contains_holds : Rows.OrbitContainsSaid :=
  OpenClaim.holds_of_wide 5 Tryz.f5 rfl rfl rfl rfl rfl rfl rfl ⟨rfl, rfl, rfl, rfl, rfl⟩ rfl rfl rfl rfl rfl (by kernel_rfl) Tryz.func5 contains_closed
    (of_decide_eq_true (by kernel_rfl)) (by unfold Func.isWrapper; first | (rw [if_pos (by decide +kernel)]; kernel_rfl) | (rw [if_neg (by decide +kernel)]; exact ⟨rfl, rfl⟩))
    (fun os started H enc _ => contains_lifted os started H enc)

end Go.Proofs.YtfniicgoeljmdaaGreat
