/- OrbitPacks: packs, hulls, and more sights. No condition. -/
import Derived.Test.YtfniicgoeljmdaaGreatOPacksLift
namespace Go.Proofs.YtfniicgoeljmdaaGreat
open Go.RowKit Go.ChangeShapes Go.WideShapes Go.ChangeAt

set_option maxHeartbeats 4000000 in
theorem opacks_closed : joinedFacts Tryz.pinned.checked.prog 15 Tryz.f15 Rows.orbitPacksSpec Rows.orbitPacksRow = true := by
  unfold joinedFacts
  simp only [Bool.and_eq_true]
  repeat' apply And.intro
  all_goals decide +kernel
theorem opacks_holds : Rows.OrbitPacksSaid :=
  OpenClaim.holds_of_wide 15 Tryz.f15 rfl rfl rfl rfl rfl rfl rfl ⟨rfl, rfl, rfl, rfl, rfl⟩ rfl rfl rfl rfl rfl (by kernel_rfl) Tryz.func15 opacks_closed
    (of_decide_eq_true (by kernel_rfl)) (by unfold Func.isWrapper; first | (rw [if_pos (by decide +kernel)]; kernel_rfl) | (rw [if_neg (by decide +kernel)]; exact ⟨rfl, rfl⟩))
    (fun os started H enc _ => opacks_lifted os started H enc)

end Go.Proofs.YtfniicgoeljmdaaGreat
