/- OrbitTruth: the truth stays in the set. No condition. -/
import Derived.Test.YtfniicgoeljmdaaGreatOTruthLift
namespace Go.Proofs.YtfniicgoeljmdaaGreat
open Go.RowKit Go.ChangeShapes Go.WideShapes Go.ChangeAt

set_option maxHeartbeats 4000000 in
theorem otruth_closed : joinedFacts Tryz.pinned.checked.prog 14 Tryz.f14 Rows.orbitTruthSpec Rows.orbitTruthRow = true := by
  unfold joinedFacts
  simp only [Bool.and_eq_true]
  repeat' apply And.intro
  all_goals decide +kernel
theorem otruth_holds : Rows.OrbitTruthSaid :=
  OpenClaim.holds_of_wide 14 Tryz.f14 rfl rfl rfl rfl rfl rfl rfl ⟨rfl, rfl, rfl, rfl, rfl⟩ rfl rfl rfl rfl rfl (by kernel_rfl) Tryz.func14 otruth_closed
    (of_decide_eq_true (by kernel_rfl)) (by unfold Func.isWrapper; first | (rw [if_pos (by decide +kernel)]; kernel_rfl) | (rw [if_neg (by decide +kernel)]; exact ⟨rfl, rfl⟩))
    (fun os started H enc _ => otruth_lifted os started H enc)

end Go.Proofs.YtfniicgoeljmdaaGreat
