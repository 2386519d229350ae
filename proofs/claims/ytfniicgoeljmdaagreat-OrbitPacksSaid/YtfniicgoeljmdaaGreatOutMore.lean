/- More small tools for the walks of the laws that make their arguments by numbers. No condition. -/
import Derived.Test.YtfniicgoeljmdaaGreatOutStart
import Derived.Test.YtfniicgoeljmdaaGreatMovesLaw
import Derived.Test.YtfniicgoeljmdaaGreatCellsWalk
namespace Go.Proofs.YtfniicgoeljmdaaGreat
open Go.RowKit

theorem set_of {L : List Bx} (h1 : L.length ≤ 512) (h2 : ∀ b ∈ L, bxErr b = 0) : setErr L = 0 := by
  have h : boxesErr L = 0 := by
    clear h1
    induction L with
    | nil => rfl
    | cons b r ih => rw [boxesErr, if_pos (h2 b (by simp))]; exact ih fun c hc => h2 c (by simp [hc])
  unfold setErr
  rw [if_neg (by omega), h]
theorem drift_of {ll lh el eh gs : Int} (h : (0 ≤ ll ∧ ll ≤ lh ∧ lh ≤ 4) ∧ (-3 ≤ el ∧ el ≤ eh ∧ eh ≤ 3) ∧ 0 ≤ gs ∧ gs ≤ 2) : driftErr ⟨⟨ll, lh⟩, ⟨el, eh⟩, gs⟩ = 0 := by
  unfold driftErr
  rw [if_pos (boundErr_ok.2 (by dsimp only; omega)), if_pos (boundErr_ok.2 (by dsimp only; omega)), if_pos ((within_iff _ _ _).2 (by dsimp only; omega))]
theorem mod_nat (n : Int) {m : Int} (h : 1 ≤ m) : ∃ M : Nat, n % m = (M : Int) ∧ (M : Int) < m := by
  have h0 : 0 ≤ n % m := Int.emod_nonneg _ (by omega)
  have h1 : n % m < m := Int.emod_lt_of_pos _ (by omega)
  exact ⟨(n % m).toNat, by omega, by omega⟩
theorem ModN_c {n m : Int} {M : Nat} (w : World) (hM : n % m = (M : Int)) (h0 : 1 ≤ m) (h1 : m ≤ 4611686018427387904) :
    Calls Tryz.prog 53 #[.int .i64 n, .int .i64 m] w fun e w' => e = .returned (.int .i64 (M : Int)) ∧ Ext w w' :=
  (Mod_c n m w h0 h1).mono fun _ _ ⟨h, hw⟩ => ⟨hM ▸ h, hw ▸ Ext.refl _⟩
theorem cells_made {b : Bx} (hb : bxErr b = 0) {M : Nat} (hM : M < 100) : cellsL b (1 + (M : Int)) = cellsB b (M + 1) ∧ cellsErr b (1 + (M : Int)) = 0 ∧ setErr (cellsB b (M + 1)) = 0 := by
  have h : cellsErr b (1 + (M : Int)) = 0 := by unfold cellsErr; rw [if_neg (by simp [hb]), if_neg (by omega)]
  obtain ⟨_, q2, _, q4⟩ := cells_law (b := b) (n := M + 1) hb (by omega)
  refine ⟨?_, h, set_of (by omega) fun c hc => (q2 c hc).1⟩
  unfold cellsL
  rw [if_pos h, show (1 + (M : Int)).toNat = M + 1 by omega]
end Go.Proofs.YtfniicgoeljmdaaGreat
