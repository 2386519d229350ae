/- The chapter's examples that every law of the orbits asks. Draft. Boxes, drifts, slices of boxes among the arguments: what they read as. No condition. -/
import Derived.Test.YtfniicgoeljmdaaGreatPossible
import Derived.Test.YtfniicgoeljmdaaGreatOwn
import Derived.Test.YtfniicgoeljmdaaGreatCopyN
namespace Go.Proofs.YtfniicgoeljmdaaGreat
open Go.RowKit

theorem gas_c (w : World) :
    Calls Tryz.prog 59 #[] w fun e w' => e = .returned (.agg #[.int .i64 0, .int .i64 0, .int .i64 0, .int .i64 0, .int .i64 1]) ∧ Ext w w' := by
  go_enter Tryz.func59, Tryz.ntmps59
  go_wp2_with fail
  (try simp only [Exit.inBlock, Exit.then]); apply bodyPost_ret; (focus (simp only [results, Tryz.results59]; go_simp; try rfl)); rfl
  exact ⟨rfl, by (repeat' (first | exact Ext.refl _ | assumption | apply Ext.alloc | apply Ext.drew | refine Ext.set ?_ (by dsimp only; omega) _ | refine Ext.trans ?_ (by assumption)))⟩
theorem shown4_c (w : World) :
    Calls Tryz.prog 60 #[] w fun e w' => e = .returned (.agg #[.int .i64 0, .int .i64 10, .int .i64 0, .int .i64 3, .int .i64 5, .int .i64 5, .int .i64 (-2), .int .i64 0]) ∧ Ext w w' := by
  go_enter Tryz.func60, Tryz.ntmps60
  go_wp2_with fail
  (try simp only [Exit.inBlock, Exit.then]); apply bodyPost_ret; (focus (simp only [results, Tryz.results60]; go_simp; try rfl)); rfl
  exact ⟨rfl, by (repeat' (first | exact Ext.refl _ | assumption | apply Ext.alloc | apply Ext.drew | refine Ext.set ?_ (by dsimp only; omega) _ | refine Ext.trans ?_ (by assumption)))⟩
def stillL : List Body := [⟨0, 0, [⟨0, 0⟩]⟩]
theorem one4 {α : Type} {a : α} {P : α → Nat → Prop} (h0 : P a 0) : ∀ k (h : k < [a].length), P ([a][k]) k
  | 0, _ => h0
theorem still_bodies {w : World} {b1 b3 : Nat} {t1 t3 : TypeId} (h1 : Blk w b1 t1 #[.int .i64 0, .int .i64 0]) (h3 : Blk w b3 t3 #[.int .i64 0, .int .i64 0, .slice (some ⟨b1, 0, none⟩) 1 1]) :
    Bodies w (some ⟨b3, 0, none⟩) 1 stillL :=
  ⟨rfl, by decide, .inr ⟨b3, 0, rfl, one4 (P := fun x k => bodyAt w x b3 (0 + k * 3)) ⟨h3.cell 0, h3.cell 1, _, _, _, h3.cell 2, ⟨rfl, by decide, .inr ⟨b1, 0, rfl, one4 (P := fun x k => vecAt w x b1 (0 + k * 2)) ⟨h1.cell 0, h1.cell 1⟩⟩⟩⟩⟩⟩
set_option maxHeartbeats 1000000 in
theorem still_c (w : World) :
    Calls Tryz.prog 58 #[] w fun e w' => (∃ A c, e = .returned (.agg #[.slice A 1 c, .int .i64 0]) ∧ Bodies w' A 1 stillL) ∧ Ext w w' := by
  go_enter Tryz.func58, Tryz.ntmps58
  go_wp2_with fail
  (try simp only [Exit.inBlock, Exit.then]); apply bodyPost_ret; (focus (simp only [results, Tryz.results58]; go_simp; try rfl)); rfl
  refine ⟨⟨_, _, rfl, still_bodies (t1 := 85) (t3 := 97) (b1 := w.heap.size + 1) (b3 := w.heap.size + 1 + 1) ?_ ?_⟩, by (repeat' (first | exact Ext.refl _ | assumption | apply Ext.alloc | apply Ext.drew | refine Ext.set ?_ (by dsimp only; omega) _ | refine Ext.trans ?_ (by assumption)))⟩
  · exact (Blk.newAt (by simp)).alloc _
  · exact Blk.newAt (by simp)
theorem still_step : stepM stillL 0 ⟨⟨0, 0⟩, ⟨0, 0⟩, 1⟩ 0 ⟨⟨0, 10⟩, ⟨0, 3⟩, ⟨5, 5⟩, ⟨-2, 0⟩⟩ = ⟨⟨⟨4, 16⟩, ⟨-3, 4⟩, ⟨4, 6⟩, ⟨-3, 1⟩⟩, 0⟩ := by kernel_rfl
theorem still_possible : possibleB stillL 0 ⟨⟨0, 0⟩, ⟨0, 0⟩, 1⟩ 0 ⟨0, 0, 5, 0⟩ ⟨6, -1, 6, -1⟩ = true := by decide +kernel
set_option maxRecDepth 20000 in
set_option maxHeartbeats 2000000 in
theorem awake4_c (w : World) : Calls Tryz.prog 17 #[] w fun e w' => e = .returned (.bool true) ∧ Ext w w' := by
  go_enter Tryz.func17, Tryz.ntmps17
  go_wp2_with fail
  refine (still_c _).mono ?_
  rintro e w1 ⟨⟨A1, c1, rfl, hs1⟩, h1⟩
  go_wp2_with fail
  refine (gas_c _).mono ?_
  rintro e w2 ⟨rfl, h2⟩
  go_wp2_with fail
  refine (shown4_c _).mono ?_
  rintro e w3 ⟨rfl, h3⟩
  go_wp2_with fail
  refine (oStep_c _ _ _ _ _ _ stillL ⟨⟨0, 0⟩, ⟨0, 0⟩, 1⟩ ⟨⟨0, 10⟩, ⟨0, 3⟩, ⟨5, 5⟩, ⟨-2, 0⟩⟩ (Bodies.ext (by (repeat' (first | exact Ext.refl _ | assumption | apply Ext.alloc | apply Ext.drew | refine Ext.set ?_ (by dsimp only; omega) _ | refine Ext.trans ?_ (by assumption)))) hs1)).mono ?_
  rw [still_step]
  rintro e w4 ⟨rfl, h4⟩
  go_wp2_with fail
  refine (still_c _).mono ?_
  rintro e w5 ⟨⟨A2, c2, rfl, hs5⟩, h5⟩
  go_wp2_with fail
  refine (gas_c _).mono ?_
  rintro e w6 ⟨rfl, h6⟩
  go_wp2_with fail
  refine (oPossible_c _ _ _ _ stillL ⟨⟨0, 0⟩, ⟨0, 0⟩, 1⟩ 0 0 0 5 0 6 (-1) 6 (-1) _ (Bodies.ext (by (repeat' (first | exact Ext.refl _ | assumption | apply Ext.alloc | apply Ext.drew | refine Ext.set ?_ (by dsimp only; omega) _ | refine Ext.trans ?_ (by assumption)))) hs5)).mono ?_
  rw [still_possible]
  rintro e w7 ⟨rfl, h7⟩
  go_wp2_with fail
  go_ret
  exact ⟨rfl, by (repeat' (first | exact Ext.refl _ | assumption | apply Ext.alloc | apply Ext.drew | refine Ext.set ?_ (by dsimp only; omega) _ | refine Ext.trans ?_ (by assumption)))⟩
end Go.Proofs.YtfniicgoeljmdaaGreat

namespace Go.Proofs.YtfniicgoeljmdaaGreat
open Go.RowKit Go.ChangeShapes Go.WideShapes Go.ChangeAt

section
variable {H : Type} {enc : TypeId × Value → H} {w : World} {base : Nat} {spare : Nat → Bool} {held : Bool}
theorem cells_box : Tryz.prog.cellsOf 38 = 8 := by kernel_rfl
theorem len8 {α : Type} {cs : List α} (h : cs.length = 8) : ∃ a0 a1 a2 a3 a4 a5 a6 a7, cs = [a0, a1, a2, a3, a4, a5, a6, a7] := by
  match cs, h with
  | [a0, a1, a2, a3, a4, a5, a6, a7], _ => exact ⟨a0, a1, a2, a3, a4, a5, a6, a7, rfl⟩
theorem open_box {fuel : Nat} {cs : List Value} {x : DataW H × List MemPlace} (h : DataW.trod enc Tryz.prog w base spare held fuel 38 cs = some x) : ∃ b : Bx, cs = [.int .i64 b.x.lo, .int .i64 b.x.hi, .int .i64 b.y.lo, .int .i64 b.y.hi, .int .i64 b.u.lo, .int .i64 b.u.hi, .int .i64 b.v.lo, .int .i64 b.v.hi] := by
  obtain ⟨hl, n, hf⟩ := open_field Tryz.underlying38 h
  obtain ⟨a0, a1, a2, a3, a4, a5, a6, a7, rfl⟩ := len8 (hl.trans cells_box)
  obtain ⟨_, h0⟩ := hf 0 _ 0 _ rfl cells_span
  obtain ⟨p0, e0⟩ := open_span (show DataW.trod enc Tryz.prog w base spare held n 26 [a0, a1] = some _ from h0)
  injection e0 with e0a e0b; injection e0b with e0b; subst e0a e0b
  obtain ⟨_, h1⟩ := hf 1 _ 2 _ rfl cells_span
  obtain ⟨p1, e1⟩ := open_span (show DataW.trod enc Tryz.prog w base spare held n 26 [a2, a3] = some _ from h1)
  injection e1 with e1a e1b; injection e1b with e1b; subst e1a e1b
  obtain ⟨_, h2⟩ := hf 2 _ 4 _ rfl cells_span
  obtain ⟨p2, e2⟩ := open_span (show DataW.trod enc Tryz.prog w base spare held n 26 [a4, a5] = some _ from h2)
  injection e2 with e2a e2b; injection e2b with e2b; subst e2a e2b
  obtain ⟨_, h3⟩ := hf 3 _ 6 _ rfl cells_span
  obtain ⟨p3, e3⟩ := open_span (show DataW.trod enc Tryz.prog w base spare held n 26 [a6, a7] = some _ from h3)
  injection e3 with e3a e3b; injection e3b with e3b; subst e3a e3b
  exact ⟨⟨⟨p0.x, p0.y⟩, ⟨p1.x, p1.y⟩, ⟨p2.x, p2.y⟩, p3.x, p3.y⟩, rfl⟩
end
section
variable {H : Type} {enc : TypeId × Value → H} {w : World} {base : Nat}
instance : Inhabited Bx := ⟨zeroB⟩
end
end Go.Proofs.YtfniicgoeljmdaaGreat
