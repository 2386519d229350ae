/- Whether something is so of all corners: the program. No condition. Whether a sight excludes an area: the pieces of the program. No condition. Whether a sight excludes an area: the program. No condition. Whether an empty look, or an angle, excludes an area: the program. No condition. -/
import Derived.Test.YtiladlangkjoiaaGreatCorners
import Derived.Test.YtiladlangkjoiaaGreatSame
import Derived.Laws.EntriesVeiled
namespace Go.Proofs.YtiladlangkjoiaaGreat
open Go.RowKit Go.Shelf
attribute [local go_sem] Oper.semAt_some

theorem ownFrom_blk {β : Type} (B b : Nat) (T : TypeId) (f : β → Array Value) : OwnFrom B (fun s W => Blk W b T (f s)) := fun s X Y row hs hg hr => by
  refine (hg.block b hs.lt (fun e => ?_)).trans hs
  obtain ⟨_, o, ho, hc⟩ := hr b e.symm
  have hs' : X.heap[b]? = some (.cells (f s) T (0, 0)) := hs
  rw [hs'] at ho
  injection ho with ho
  rw [← ho] at hc
  cases hc
theorem ownFrom_ext {β : Type} {B : Nat} {w : World} (h : w.heap.size ≤ B) : OwnFrom B (fun (_ : β) W => Ext w W) := ownFrom_below (Nat.le_refl _) h

theorem Blk.put {W : World} {g : Nat} {t : TypeId} {cs : Array Value} {D : Nat} {o : Obj} (h : Blk W g t cs) (hne : g ≠ D) : Blk (W.putObj D o) g t cs := ((grownBy_putObj' W D o).block g h.lt (fun e => hne (by injection e))).trans h
theorem Ext.put {w W : World} {D : Nat} {o : Obj} (h : Ext w W) (hD : w.heap.size ≤ D) : Ext w (W.putObj D o) := grown_ext h (grownBy_putObj' W D o) fun k e => by injection e with e; omega

end Go.Proofs.YtiladlangkjoiaaGreat

namespace Go.Proofs.YtiladlangkjoiaaGreat
open Go.RowKit Go.Shelf

def rightA (xl xh yl yh : Int) : Bool := decide (-33554432 ≤ xl) && decide (xl ≤ xh) && decide (xh ≤ 33554432) && decide (-33554432 ≤ yl) && decide (yl ≤ yh) && decide (yh ≤ 33554432)
theorem rightA_iff {xl xh yl yh : Int} : rightA xl xh yl yh = true ↔ -33554432 ≤ xl ∧ xl ≤ xh ∧ xh ≤ 33554432 ∧ -33554432 ≤ yl ∧ yl ≤ yh ∧ yh ≤ 33554432 := by
  simp only [rightA, Bool.and_eq_true, decide_eq_true_eq, and_assoc]
end Go.Proofs.YtiladlangkjoiaaGreat

namespace Go.Proofs.YtiladlangkjoiaaGreat
open Go.RowKit Go.Shelf
attribute [local go_sem] Oper.semAt_some

end Go.Proofs.YtiladlangkjoiaaGreat

namespace Go.Proofs.YtiladlangkjoiaaGreat
open Go.RowKit Go.Shelf
attribute [local go_sem] Oper.semAt_some

end Go.Proofs.YtiladlangkjoiaaGreat
