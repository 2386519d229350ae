/- OrbitKeeps: what agrees stays. No condition. -/
import Derived.Test.YtfniicgoeljmdaaGreatKeepsLift
namespace Go.Proofs.YtfniicgoeljmdaaGreat
open Go.RowKit Go.ChangeShapes Go.WideShapes Go.ChangeAt

set_option maxHeartbeats 4000000 in
theorem okeeps_closed : joinedFacts Tryz.pinned.checked.prog 13 Tryz.f13 Rows.orbitKeepsSpec Rows.orbitKeepsRow = true := by
  unfold joinedFacts
  simp only [Bool.and_eq_true]
  repeat' apply And.intro
  all_goals decide +kernel
theorem okeeps_holds : Rows.OrbitKeepsSaid :=
  OpenClaim.holds_of_wide 13 Tryz.f13 rfl rfl rfl rfl rfl rfl rfl ⟨rfl, rfl, rfl, rfl, rfl⟩ rfl rfl rfl rfl rfl (by kernel_rfl) Tryz.func13 okeeps_closed
    (of_decide_eq_true (by kernel_rfl)) (by unfold Func.isWrapper; first | (rw [if_pos (by decide +kernel)]; kernel_rfl) | (rw [if_neg (by decide +kernel)]; exact ⟨rfl, rfl⟩))
    (fun os started H enc _ => okeeps_lifted os started H enc)

end Go.Proofs.YtfniicgoeljmdaaGreat
