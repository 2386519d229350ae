/- Steps of boxes, possible successors, sets after some ticks. Plain laws. No condition. -/
import Derived.Test.YtfniicgoeljmdaaOwnBoxes
import Derived.Laws.CopyRow
import Derived.Laws.CopyOwn
import Derived.Laws.Externs
import Derived.Lib.AppendZerosOnto
import Derived.Lib.Overlaps
import Derived.Test.YtfniicgoeljmdaaGen
import Derived.Test.YtfniicgoeljmdaaStep
import Derived.Test.YtfniicgoeljmdaaBoxSet
import Derived.Scope
import Derived.LoopN
import Derived.Test.YtfniicgoeljmdaaMonoLaw
import Derived.Test.YtfniicgoeljmdaaForceOver
import Derived.Test.YtfniicgoeljmdaaAwakeFour
import Derived.Test.YtfniicgoeljmdaaAwake
import Derived.Test.YtfniicgoeljmdaaForcePull
import Derived.Test.YtfniicgoeljmdaaExcludes3
import Derived.Test.YtfniicgoeljmdaaSpan
import Derived.Test.YtfniicgoeljmdaaStepM
namespace Go.Proofs.Ytfniicgoeljmdaa
open Go.RowKit

structure Moves (l : List Body) (home : Int) (d : Drf) (tick : Int) : Prop where
  wd : wdErr l home d = 0
  now : 0 ≤ tick ∧ tick ≤ 1073741823
  ask : ∀ a, SmA 33554432 a → fAskErr l home d tick a = 0
  sub : ∀ a a', SmA 33554432 a → SubA a' a → SubA (overA l home d tick a') (overA l home d tick a)
def ptA (s : St) : Ar := ⟨⟨s.x, s.x⟩, ⟨s.y, s.y⟩⟩
def ptB (s : St) : Bx := ⟨⟨s.x, s.x⟩, ⟨s.y, s.y⟩, ⟨s.u, s.u⟩, ⟨s.v, s.v⟩⟩
theorem st_of_box {b : Bx} {s : St} (hb : bxErr b = 0) (h : holdsB b s = true) : stErr s = 0 := by
  rw [bxErr_iff] at hb
  rw [holdsB_iff] at h
  rw [stErr_ok]
  unfold BxOk Sm at hb
  omega
theorem pt_valid {s : St} (h : stErr s = 0) : bxErr (ptB s) = 0 ∧ SmA 33554432 (ptA s) := by
  rw [stErr_ok] at h
  rw [bxErr_iff]
  unfold BxOk SmA Sm ptB ptA
  dsimp only
  omega
section
variable {l : List Body} {home : Int} {d : Drf} {tick : Int}
theorem Moves.over (M : Moves l home d tick) {a : Ar} (ha : SmA 33554432 a) : overM l home d tick a = ⟨overA l home d tick a, 0⟩ := by
  unfold overM; rw [if_pos (M.ask a ha)]
theorem Moves.pt (M : Moves l home d tick) {s : St} (h : stErr s = 0) : (overA l home d tick (ptA s)).x.lo ≤ (overA l home d tick (ptA s)).x.hi ∧ (overA l home d tick (ptA s)).y.lo ≤ (overA l home d tick (ptA s)).y.hi := by
  have hp := (pt_valid h).2
  have h1 := M.sub _ (ptA s) hp (by unfold SubA Sub ptA; dsimp only; omega)
  exact ⟨h1.1.2.1, h1.2.2.1⟩
theorem Moves.follows (M : Moves l home d tick) {s n : St} (hs : stErr s = 0) : possibleB l home d tick s n = true ↔ stErr n = 0 ∧
    ((overA l home d tick (ptA s)).x.lo ≤ n.u - s.u ∧ n.u - s.u ≤ (overA l home d tick (ptA s)).x.hi) ∧ ((overA l home d tick (ptA s)).y.lo ≤ n.v - s.v ∧ n.v - s.v ≤ (overA l home d tick (ptA s)).y.hi) ∧ n.x = s.x + n.u ∧ n.y = s.y + n.v := by
  have ho := M.over (pt_valid hs).2
  unfold possibleB followsB
  unfold ptA at ho
  rw [ho]
  simp only [Bool.and_eq_true, decide_eq_true_eq, within_iff, M.wd, hs, true_and, and_assoc]
  exact ⟨fun ⟨_, _, h⟩ => h, fun h => ⟨M.now.1, M.now.2, h⟩⟩
theorem tight_law (M : Moves l home d tick) {s : St} (hs : stErr s = 0) (hc : bxErr (stepB l home d tick (ptB s)) = 0) :
    (∀ u v, (u = (stepB l home d tick (ptB s)).u.lo ∨ u = (stepB l home d tick (ptB s)).u.hi) → (v = (stepB l home d tick (ptB s)).v.lo ∨ v = (stepB l home d tick (ptB s)).v.hi) → possibleB l home d tick s ⟨s.x + u, s.y + v, u, v⟩ = true) ∧
    (∀ u v, (u = (stepB l home d tick (ptB s)).u.lo - 1 ∨ u = (stepB l home d tick (ptB s)).u.hi + 1) → possibleB l home d tick s ⟨s.x + u, s.y + v, u, v⟩ = false) ∧
    (stepB l home d tick (ptB s)).x = ⟨s.x + (stepB l home d tick (ptB s)).u.lo, s.x + (stepB l home d tick (ptB s)).u.hi⟩ ∧ (stepB l home d tick (ptB s)).y = ⟨s.y + (stepB l home d tick (ptB s)).v.lo, s.y + (stepB l home d tick (ptB s)).v.hi⟩ := by
  have hp := M.pt hs
  have e : stepB l home d tick (ptB s) = ⟨⟨s.x + (s.u + (overA l home d tick (ptA s)).x.lo), s.x + (s.u + (overA l home d tick (ptA s)).x.hi)⟩, ⟨s.y + (s.v + (overA l home d tick (ptA s)).y.lo), s.y + (s.v + (overA l home d tick (ptA s)).y.hi)⟩, ⟨s.u + (overA l home d tick (ptA s)).x.lo, s.u + (overA l home d tick (ptA s)).x.hi⟩, ⟨s.v + (overA l home d tick (ptA s)).y.lo, s.v + (overA l home d tick (ptA s)).y.hi⟩⟩ := rfl
  rw [e] at hc ⊢
  rw [bxErr_iff] at hc
  unfold BxOk Sm at hc
  dsimp only at hc ⊢
  refine ⟨fun u v hu hv => ?_, fun u v hu => ?_, rfl, rfl⟩
  · rw [M.follows hs, stErr_ok]
    dsimp only
    omega
  · rw [← Bool.not_eq_true]
    intro q
    rw [M.follows hs] at q
    dsimp only at q
    omega
end
theorem moves_of {l : List Body} {home : Int} {d : Drf} {tick : Int} (h : wdErr l home d = 0) (ht : 0 ≤ tick ∧ tick ≤ 1073741823) : Moves l home d tick := by
  obtain ⟨hw, hd⟩ := wdErr_ok.1 h
  obtain ⟨b1, _, b3⟩ := wld_bodies hw
  refine ⟨h, ht, fun a ha => ?_, fun a a' ha hs => overA_sub b1 (fun b hb => by have := b3 b hb; omega) (at_place l home tick) hd ha hs⟩
  have e1 : areaErr a = 0 := by
    unfold areaErr
    rw [if_pos (ha.1.err2 ha.2 (by omega) (by omega)), if_pos]
    unfold SmA Sm at ha
    simp only [far4, within, Bool.and_eq_true, decide_eq_true_eq]
    omega
  unfold fAskErr
  rw [if_pos hw, if_pos hd, if_pos ((within_iff _ _ _).2 (by omega)), if_pos e1, if_pos]
  unfold SmA Sm at ha
  simp only [inPlace, Bool.and_eq_true, decide_eq_true_eq]
  omega
end Go.Proofs.Ytfniicgoeljmdaa
