/- OrbitKnown: the chapter's examples have the results given there. No condition. -/
import Derived.Test.YtfniicgoeljmdaaGreatOKnownLift
namespace Go.Proofs.YtfniicgoeljmdaaGreat
open Go.RowKit Go.ChangeShapes Go.WideShapes Go.ChangeAt

set_option maxHeartbeats 4000000 in
theorem oknown_closed : joinedFacts Tryz.pinned.checked.prog 12 Tryz.f12 Rows.orbitKnownSpec Rows.orbitKnownRow = true := by
  unfold joinedFacts
  simp only [Bool.and_eq_true]
  repeat' apply And.intro
  all_goals decide +kernel
theorem oknown_holds : Rows.OrbitKnownSaid :=
  OpenClaim.holds_of_wide 12 Tryz.f12 rfl rfl rfl rfl rfl rfl rfl ⟨rfl, rfl, rfl, rfl, rfl⟩ rfl rfl rfl rfl rfl (by kernel_rfl) Tryz.func12 oknown_closed
    (of_decide_eq_true (by kernel_rfl)) (by unfold Func.isWrapper; first | (rw [if_pos (by decide +kernel)]; kernel_rfl) | (rw [if_neg (by decide +kernel)]; exact ⟨rfl, rfl⟩))
    (fun os started H enc _ => oknown_lifted os started H enc)

end Go.Proofs.YtfniicgoeljmdaaGreat
