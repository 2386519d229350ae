/- Whether a place agrees with a sight: the reference. -/
import Derived.Test.YtfniicgoeljmdaaGreatAgree
namespace Go.Proofs.YtfniicgoeljmdaaGreat
open Go.RowKit

theorem stn_at {l : List Stn} {id : Int} {x : Stn} (h : stnOf l id = some x) : ∃ i : Nat, idxFrom (fun x : Stn => x.id == id) l 0 = i ∧ l[i]? = some x := by
  rcases idx_cases (fun x : Stn => x.id == id) l with ⟨_, h2⟩ | ⟨i, y, _, h1, h3, h2⟩
  · rw [stnOf, h2] at h; cases h
  · rw [stnOf, h2] at h; cases h; exact ⟨i, h1, h3⟩
end Go.Proofs.YtfniicgoeljmdaaGreat
