/- OrbitTight: the step of a box of one state is the least box of its possible successors. No condition. -/
import Derived.Test.YtfniicgoeljmdaaTightLift
namespace Go.Proofs.Ytfniicgoeljmdaa
open Go.RowKit Go.ChangeShapes Go.WideShapes Go.ChangeAt

set_option maxHeartbeats 4000000 in
theorem tight_closed : joinedFacts Try.pinned.checked.prog 3 Try.f3 Rows.orbitTightSpec Rows.orbitTightRow = true := by
  unfold joinedFacts
  simp only [Bool.and_eq_true]
  repeat' apply And.intro
  all_goals decide +kernel
theorem tight_holds : Rows.OrbitTightSaid :=
  OpenClaim.holds_of_wide 3 Try.f3 rfl rfl rfl rfl rfl rfl rfl ⟨rfl, rfl, rfl, rfl, rfl⟩ rfl rfl rfl rfl rfl (by kernel_rfl) Try.func3 tight_closed
    (of_decide_eq_true (by kernel_rfl)) (by unfold Func.isWrapper; first | (rw [if_pos (by decide +kernel)]; kernel_rfl) | (rw [if_neg (by decide +kernel)]; exact ⟨rfl, rfl⟩))
    (fun os started H enc _ => tight_lifted os started H enc)

end Go.Proofs.Ytfniicgoeljmdaa
