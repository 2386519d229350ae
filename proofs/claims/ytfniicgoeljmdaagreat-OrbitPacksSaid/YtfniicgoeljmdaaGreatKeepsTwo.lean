/- What OrbitKeeps leans on besides the walk. Plain law. No condition. -/
import Derived.Test.YtfniicgoeljmdaaGreatKeepsLaw
import Derived.Test.YtfniicgoeljmdaaGreatOutMore
import Derived.Test.YtfniicgoeljmdaaGreatMade
namespace Go.Proofs.YtfniicgoeljmdaaGreat
open Go.RowKit

theorem flt_zero {s : Sky} {t : Int} {L : List Bx} {sg : List Sight} (hs : skyErr s = 0) (ht : 0 ≤ t ∧ t ≤ 1073741824) (hl : setErr L = 0) (hg : sgsErr s sg = 0) : fltErr s t L sg = 0 := by
  unfold fltErr
  rw [if_neg (by simp [hs]), if_neg (by rw [(within_iff _ _ _).2 ht]; decide), if_neg (by simp [hl]), hg]
theorem in_cells {b : Bx} {n : Nat} {p : St} (h : bxErr b = 0) (hn : 1 ≤ n) (hp : holdsB b p = true) : inSet (cellsB b n) p = true := by
  have h1 := (cells_law h hn).1 p
  rw [if_pos hp] at h1
  unfold countH at h1
  rw [in_iff]
  have h2 : 0 < (cellsB b n).countP fun c => holdsB c p := by omega
  obtain ⟨c, hc, hcp⟩ := List.countP_pos_iff.1 h2
  exact ⟨c, hc, hcp⟩
theorem sgs_made {s : Sky} (hm : MadeSky s) {L : List Sight} (hl : L.length ≤ 64) (h : ∀ y ∈ L, MadeSight s y) : sgsErr s L = 0 := by
  unfold sgsErr
  rw [if_neg (by omega)]
  clear hl
  induction L with
  | nil => rfl
  | cons x r ih => rw [sgsFrom, if_pos (MadeSight.ok hm (h x (by simp)))]; exact ih fun y hy => h y (by simp [hy])
theorem set_filt {s : Sky} {t : Int} {sg : List Sight} {L : List Bx} (h : setErr L = 0) : setErr (filtL s t sg L) = 0 := by
  obtain ⟨h1, h2⟩ := set_ok h
  exact set_of (Nat.le_trans (filt_len s t sg L) h1) (filt_ok h2)
theorem keeps_law {s : Sky} {b : Bx} {p : St} {L : List Sight} {n k : Nat} (hm : MadeSky s) (hb : bxErr b = 0) (hp : holdsB b p = true) (hn : 1 ≤ n ∧ n ≤ 100) (hk : k ≤ 20) (hl : L.length ≤ 64) (hL : ∀ y ∈ L, MadeSight s y) (hw : witB s 4 L p) :
    fltErr s 4 (cellsB b n) L = 0 ∧ refErr s 4 (cellsB b n) L k = 0 ∧ refL s 4 (cellsB b n) L k = refM s 4 L k (cellsB b n) ∧ inSet (filtL s 4 L (cellsB b n)) p = true ∧ inSet (refM s 4 L k (cellsB b n)) p = true ∧
      withinS (filtL s 4 L (cellsB b n)) (cellsB b n) = true ∧ withinS (refM s 4 L k (cellsB b n)) (cellsB b n) = true ∧ fltErr s 4 (filtL s 4 L (cellsB b n)) L = 0 := by
  obtain ⟨_, q2, _, q4⟩ := cells_law (b := b) (n := n) hb hn.1
  have hv : ∀ c ∈ cellsB b n, bxErr c = 0 := fun c hc => (q2 c hc).1
  have hs : setErr (cellsB b n) = 0 := set_of (by omega) hv
  have hg := sgs_made hm hl hL
  have hi := in_cells hb hn.1 hp
  have f1 := flt_zero (t := 4) hm.ok (by omega) hs hg
  have f2 : refErr s 4 (cellsB b n) L k = 0 := by unfold refErr; rw [if_neg (by simp [f1]), if_neg (by omega)]
  obtain ⟨r1, r2⟩ := ref_law hw k (cellsB b n) hv hi
  refine ⟨f1, f2, ?_, filt_in hw hi, r1, filt_within hv, within_of r2, flt_zero (t := 4) hm.ok (by omega) (set_filt hs) hg⟩
  unfold refL
  rw [if_pos f2, Int.toNat_natCast]
end Go.Proofs.YtfniicgoeljmdaaGreat
