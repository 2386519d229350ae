/- OrbitUpdates: sets that are updated, and packed, or which error. No condition. -/
import Derived.Test.YtfniicgoeljmdaaGreatUpdatesLift
namespace Go.Proofs.YtfniicgoeljmdaaGreat
open Go.RowKit Go.ChangeShapes Go.WideShapes Go.ChangeAt

set_option maxHeartbeats 4000000 in
theorem updates_closed : joinedFacts Tryz.pinned.checked.prog 10 Tryz.f10 Rows.orbitUpdatesSpec Rows.orbitUpdatesRow = true := by
  unfold joinedFacts
  simp only [Bool.and_eq_true]
  repeat' apply And.intro
  all_goals decide +kernel
theorem updates_holds : Rows.OrbitUpdatesSaid :=
  OpenClaim.holds_of_wide 10 Tryz.f10 rfl rfl rfl rfl rfl rfl rfl ⟨rfl, rfl, rfl, rfl, rfl⟩ rfl rfl rfl rfl rfl (by kernel_rfl) Tryz.func10 updates_closed
    (of_decide_eq_true (by kernel_rfl)) (by unfold Func.isWrapper; first | (rw [if_pos (by decide +kernel)]; kernel_rfl) | (rw [if_neg (by decide +kernel)]; exact ⟨rfl, rfl⟩))
    (fun os started H enc _ => updates_lifted os started H enc)

end Go.Proofs.YtfniicgoeljmdaaGreat
