/- The parts of a box: the program's Split. No condition. -/
import Derived.Test.YtfniicgoeljmdaaGreatSplit
namespace Go.Proofs.YtfniicgoeljmdaaGreat
open Go.RowKit

theorem oCutB_c (b : Bx) (w : World) (h : bxErr b = 0) :
    Calls Tryz.prog 90 #[.agg #[.int .i64 b.x.lo, .int .i64 b.x.hi, .int .i64 b.y.lo, .int .i64 b.y.hi, .int .i64 b.u.lo, .int .i64 b.u.hi, .int .i64 b.v.lo, .int .i64 b.v.hi]] w fun e w' => e = .returned (.tuple #[bxV (partL b), bxV (partR b)]) ∧ Ext w w' := by
  have hW := fun W => oWidest_c b W h
  have hlt := wid_lt b h
  have hbd := bxErr_iff.1 h
  unfold BxOk Sm at hbd
  unfold partL partR
  generalize (widB b).2 = N at *
  generalize (widB b).1 = i at *
  obtain ⟨⟨xl, xh⟩, ⟨yl, yh⟩, ⟨ul, uh⟩, vl, vh⟩ := b
  dsimp only at *
  obtain ⟨h1, h2, h3⟩ := hlt
  rcases (show i = 0 ∨ i = 1 ∨ i = 2 ∨ i = 3 by omega) with rfl | rfl | rfl | rfl
  · exact oCut_0 xl xh yl yh ul uh vl vh N w (by omega) (by omega) hW
  · exact oCut_1 xl xh yl yh ul uh vl vh N w (by omega) (by omega) hW
  · exact oCut_2 xl xh yl yh ul uh vl vh N w (by omega) (by omega) hW
  · exact oCut_3 xl xh yl yh ul uh vl vh N w (by omega) (by omega) hW
end Go.Proofs.YtfniicgoeljmdaaGreat
