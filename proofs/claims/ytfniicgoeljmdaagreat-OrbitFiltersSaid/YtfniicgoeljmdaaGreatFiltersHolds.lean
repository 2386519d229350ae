/- OrbitFilters: sets that are filtered and refined, or which error. No condition. -/
import Derived.Test.YtfniicgoeljmdaaGreatFiltersLift
namespace Go.Proofs.YtfniicgoeljmdaaGreat
open Go.RowKit Go.ChangeShapes Go.WideShapes Go.ChangeAt

set_option maxHeartbeats 4000000 in
theorem filters_closed : joinedFacts Tryz.pinned.checked.prog 8 Tryz.f8 Rows.orbitFiltersSpec Rows.orbitFiltersRow = true := by
  unfold joinedFacts
  simp only [Bool.and_eq_true]
  repeat' apply And.intro
  all_goals decide +kernel
theorem filters_holds : Rows.OrbitFiltersSaid :=
  OpenClaim.holds_of_wide 8 Tryz.f8 rfl rfl rfl rfl rfl rfl rfl ⟨rfl, rfl, rfl, rfl, rfl⟩ rfl rfl rfl rfl rfl (by kernel_rfl) Tryz.func8 filters_closed
    (of_decide_eq_true (by kernel_rfl)) (by unfold Func.isWrapper; first | (rw [if_pos (by decide +kernel)]; kernel_rfl) | (rw [if_neg (by decide +kernel)]; exact ⟨rfl, rfl⟩))
    (fun os started H enc _ => filters_lifted os started H enc)

end Go.Proofs.YtfniicgoeljmdaaGreat
