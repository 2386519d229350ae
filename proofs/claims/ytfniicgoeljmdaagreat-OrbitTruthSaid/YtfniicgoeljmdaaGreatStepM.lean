/- The step of a box, or which error: the program. No condition. -/
import Derived.Test.YtfniicgoeljmdaaGreatStep
namespace Go.Proofs.YtfniicgoeljmdaaGreat
open Go.RowKit

structure BxR where
  b : Bx
  e : Int
abbrev bxRV (r : BxR) : Value := .tuple #[.agg #[.int .i64 r.b.x.lo, .int .i64 r.b.x.hi, .int .i64 r.b.y.lo, .int .i64 r.b.y.hi, .int .i64 r.b.u.lo, .int .i64 r.b.u.hi, .int .i64 r.b.v.lo, .int .i64 r.b.v.hi], .int .i64 r.e]
def stepM (l : List Body) (home : Int) (d : Drf) (tick : Int) (b : Bx) : BxR :=
  if wdErr l home d = 0 then (if within tick 0 1073741823 then (if bxErr b = 0 then (if bxErr (stepB l home d tick b) = 0 then ⟨stepB l home d tick b, 0⟩ else ⟨zeroB, 14⟩) else ⟨zeroB, bxErr b⟩) else ⟨zeroB, 2⟩) else ⟨zeroB, wdErr l home d⟩
section
variable (A : Option Addr) (n c : Nat) (home ll lh hl hh g tick xl xh yl yh ul uh vl vh : Int) (w : World)
set_option maxRecDepth 20000
set_option maxHeartbeats 2000000
theorem oStep_w (E : Int) (hE : E ≠ 0) (H : Hid (∀ W, Ext w W → Calls Tryz.prog 67 #[.agg #[.slice A n c, .int .i64 home], .agg #[.int .i64 ll, .int .i64 lh, .int .i64 hl, .int .i64 hh, .int .i64 g]] W fun e w' => e = .returned (.int .i64 E) ∧ Ext W w')) :
    Calls Tryz.prog 23 #[.agg #[.slice A n c, .int .i64 home], .agg #[.int .i64 ll, .int .i64 lh, .int .i64 hl, .int .i64 hh, .int .i64 g], .int .i64 tick, .agg #[.int .i64 xl, .int .i64 xh, .int .i64 yl, .int .i64 yh, .int .i64 ul, .int .i64 uh, .int .i64 vl, .int .i64 vh]] w fun e w' => e = .returned (.tuple #[.agg #[.int .i64 0, .int .i64 0, .int .i64 0, .int .i64 0, .int .i64 0, .int .i64 0, .int .i64 0, .int .i64 0], .int .i64 (E)]) ∧ Ext w w' := by
  go_enter Tryz.func23, Tryz.ntmps23
  go_wp2_with fail
  refine (H.out _ ext_by).mono ?_
  rintro e w1 ⟨rfl, h1⟩
  have G8 : Blk w1 (w.heap.size + 1 + 1 + 1) 38 #[.int .i64 0, .int .i64 0, .int .i64 0, .int .i64 0, .int .i64 0, .int .i64 0, .int .i64 0, .int .i64 0] := (Blk.newAt (by simp)).ext h1
  have GE : Ext w w1 := ext_by
  clear h1
  have c_G8 := G8.cell; have f_G8 := G8.frozen; have l_G8 := G8.lt
  (try dsimp only); repeat' (first | go_values | go_skip | go_guarded | go_step | go_upon | go_in | go_at_K)
  refine name_world _ ?_
  intro W9 hW9
  have Q8 : Blk W9 (w.heap.size + 1 + 1 + 1) 38 #[.int .i64 0, .int .i64 0, .int .i64 0, .int .i64 0, .int .i64 0, .int .i64 0, .int .i64 0, .int .i64 0] := by rw [hW9]; exact blk_set2 (blk_set2 (blk_set2 (blk_set2 G8 rfl) rfl) rfl) rfl
  have QE : Ext w W9 := by rw [hW9]; exact ext_set2 (ext_set2 (ext_set2 (ext_set2 GE (by omega)) (by omega)) (by omega)) (by omega)
  clear hW9
  have c_Q8 := Q8.cell; have f_Q8 := Q8.frozen; have l_Q8 := Q8.lt
  (try simp only [Exit.inBlock, Exit.then]); apply bodyPost_ret; (focus (simp only [results, Tryz.results23]; go_simp; try rfl)); rfl
  exact ⟨rfl, QE⟩
theorem oStep_t (H : Hid (∀ W, Ext w W → Calls Tryz.prog 67 #[.agg #[.slice A n c, .int .i64 home], .agg #[.int .i64 ll, .int .i64 lh, .int .i64 hl, .int .i64 hh, .int .i64 g]] W fun e w' => e = .returned (.int .i64 0) ∧ Ext W w')) (HT : Hid (∀ W, Calls Tryz.prog 68 #[.int .i64 tick, .int .i64 0, .int .i64 1073741823] W fun e w' => e = .returned (.bool false) ∧ Ext W w')) :
    Calls Tryz.prog 23 #[.agg #[.slice A n c, .int .i64 home], .agg #[.int .i64 ll, .int .i64 lh, .int .i64 hl, .int .i64 hh, .int .i64 g], .int .i64 tick, .agg #[.int .i64 xl, .int .i64 xh, .int .i64 yl, .int .i64 yh, .int .i64 ul, .int .i64 uh, .int .i64 vl, .int .i64 vh]] w fun e w' => e = .returned (.tuple #[.agg #[.int .i64 0, .int .i64 0, .int .i64 0, .int .i64 0, .int .i64 0, .int .i64 0, .int .i64 0, .int .i64 0], .int .i64 (2)]) ∧ Ext w w' := by
  go_enter Tryz.func23, Tryz.ntmps23
  go_wp2_with fail
  refine (H.out _ ext_by).mono ?_
  rintro e w1 ⟨rfl, h1⟩
  have G8 : Blk w1 (w.heap.size + 1 + 1 + 1) 38 #[.int .i64 0, .int .i64 0, .int .i64 0, .int .i64 0, .int .i64 0, .int .i64 0, .int .i64 0, .int .i64 0] := (Blk.newAt (by simp)).ext h1
  have GE : Ext w w1 := ext_by
  clear h1
  go_wp2_with fail
  refine (HT.out _).mono ?_
  rintro e w2 ⟨rfl, h2⟩
  have G8' := G8.ext h2
  have GE' := GE.trans h2
  clear h2 G8 GE
  have c_G8' := G8'.cell; have f_G8' := G8'.frozen; have l_G8' := G8'.lt
  (try dsimp only); repeat' (first | go_values | go_skip | go_guarded | go_step | go_upon | go_in | go_at_K)
  refine name_world _ ?_
  intro W9 hW9
  have Q8 : Blk W9 (w.heap.size + 1 + 1 + 1) 38 #[.int .i64 0, .int .i64 0, .int .i64 0, .int .i64 0, .int .i64 0, .int .i64 0, .int .i64 0, .int .i64 0] := by rw [hW9]; exact blk_set2 (blk_set2 (blk_set2 (blk_set2 G8' rfl) rfl) rfl) rfl
  have QE : Ext w W9 := by rw [hW9]; exact ext_set2 (ext_set2 (ext_set2 (ext_set2 GE' (by omega)) (by omega)) (by omega)) (by omega)
  clear hW9
  have c_Q8 := Q8.cell; have f_Q8 := Q8.frozen; have l_Q8 := Q8.lt
  (try simp only [Exit.inBlock, Exit.then]); apply bodyPost_ret; (focus (simp only [results, Tryz.results23]; go_simp; try rfl)); rfl
  exact ⟨rfl, QE⟩
theorem oStep_b (E : Int) (hE : E ≠ 0) (H : Hid (∀ W, Ext w W → Calls Tryz.prog 67 #[.agg #[.slice A n c, .int .i64 home], .agg #[.int .i64 ll, .int .i64 lh, .int .i64 hl, .int .i64 hh, .int .i64 g]] W fun e w' => e = .returned (.int .i64 0) ∧ Ext W w')) (HT : Hid (∀ W, Calls Tryz.prog 68 #[.int .i64 tick, .int .i64 0, .int .i64 1073741823] W fun e w' => e = .returned (.bool true) ∧ Ext W w')) (HC : Hid (∀ W, Calls Tryz.prog 37 #[.agg #[.int .i64 xl, .int .i64 xh, .int .i64 yl, .int .i64 yh, .int .i64 ul, .int .i64 uh, .int .i64 vl, .int .i64 vh]] W fun e w' => e = .returned (.int .i64 E) ∧ Ext W w')) :
    Calls Tryz.prog 23 #[.agg #[.slice A n c, .int .i64 home], .agg #[.int .i64 ll, .int .i64 lh, .int .i64 hl, .int .i64 hh, .int .i64 g], .int .i64 tick, .agg #[.int .i64 xl, .int .i64 xh, .int .i64 yl, .int .i64 yh, .int .i64 ul, .int .i64 uh, .int .i64 vl, .int .i64 vh]] w fun e w' => e = .returned (.tuple #[.agg #[.int .i64 0, .int .i64 0, .int .i64 0, .int .i64 0, .int .i64 0, .int .i64 0, .int .i64 0, .int .i64 0], .int .i64 (E)]) ∧ Ext w w' := by
  go_enter Tryz.func23, Tryz.ntmps23
  go_wp2_with fail
  refine (H.out _ ext_by).mono ?_
  rintro e w1 ⟨rfl, h1⟩
  have G8 : Blk w1 (w.heap.size + 1 + 1 + 1) 38 #[.int .i64 0, .int .i64 0, .int .i64 0, .int .i64 0, .int .i64 0, .int .i64 0, .int .i64 0, .int .i64 0] := (Blk.newAt (by simp)).ext h1
  have G7 : Blk w1 (w.heap.size + 1 + 1) 38 #[.int .i64 xl, .int .i64 xh, .int .i64 yl, .int .i64 yh, .int .i64 ul, .int .i64 uh, .int .i64 vl, .int .i64 vh] := ((Blk.newAt (by simp)).alloc _).ext h1
  have GE : Ext w w1 := ext_by
  clear h1
  go_wp2_with fail
  refine (HT.out _).mono ?_
  rintro e w2 ⟨rfl, h2⟩
  have G8' := G8.ext h2
  have G7' := G7.ext h2
  have GE' := GE.trans h2
  clear h2 G8 GE G7
  have c_G7' := G7'.cell; have f_G7' := G7'.frozen; have l_G7' := G7'.lt
  go_wp2_with fail
  refine (HC.out _).mono ?_
  rintro e w3 ⟨rfl, h3⟩
  have F8 := G8'.ext h3
  have FE := GE'.trans h3
  clear h3 G8' G7' GE'
  have c_F8 := F8.cell; have f_F8 := F8.frozen; have l_F8 := F8.lt
  (try dsimp only); repeat' (first | go_values | go_skip | go_guarded | go_step | go_upon | go_in | go_at_K)
  refine name_world _ ?_
  intro W9 hW9
  have Q8 : Blk W9 (w.heap.size + 1 + 1 + 1) 38 #[.int .i64 0, .int .i64 0, .int .i64 0, .int .i64 0, .int .i64 0, .int .i64 0, .int .i64 0, .int .i64 0] := by rw [hW9]; exact blk_set2 (blk_set2 (blk_set2 (blk_set2 F8 rfl) rfl) rfl) rfl
  have QE : Ext w W9 := by rw [hW9]; exact ext_set2 (ext_set2 (ext_set2 (ext_set2 FE (by omega)) (by omega)) (by omega)) (by omega)
  clear hW9
  have c_Q8 := Q8.cell; have f_Q8 := Q8.frozen; have l_Q8 := Q8.lt
  (try simp only [Exit.inBlock, Exit.then]); apply bodyPost_ret; (focus (simp only [results, Tryz.results23]; go_simp; try rfl)); rfl
  exact ⟨rfl, QE⟩
variable (pl ph ql qh rl rh sl sh : Int)
theorem oStep_n (H : Hid (∀ W, Ext w W → Calls Tryz.prog 67 #[.agg #[.slice A n c, .int .i64 home], .agg #[.int .i64 ll, .int .i64 lh, .int .i64 hl, .int .i64 hh, .int .i64 g]] W fun e w' => e = .returned (.int .i64 0) ∧ Ext W w')) (HT : Hid (∀ W, Calls Tryz.prog 68 #[.int .i64 tick, .int .i64 0, .int .i64 1073741823] W fun e w' => e = .returned (.bool true) ∧ Ext W w')) (HC : Hid (∀ W, Calls Tryz.prog 37 #[.agg #[.int .i64 xl, .int .i64 xh, .int .i64 yl, .int .i64 yh, .int .i64 ul, .int .i64 uh, .int .i64 vl, .int .i64 vh]] W fun e w' => e = .returned (.int .i64 0) ∧ Ext W w')) (HS : Hid (∀ W, Ext w W → Calls Tryz.prog 73 #[.agg #[.slice A n c, .int .i64 home], .agg #[.int .i64 ll, .int .i64 lh, .int .i64 hl, .int .i64 hh, .int .i64 g], .int .i64 tick, .agg #[.int .i64 xl, .int .i64 xh, .int .i64 yl, .int .i64 yh, .int .i64 ul, .int .i64 uh, .int .i64 vl, .int .i64 vh]] W fun e w' => e = .returned (.tuple #[.agg #[.int .i64 pl, .int .i64 ph, .int .i64 ql, .int .i64 qh, .int .i64 rl, .int .i64 rh, .int .i64 sl, .int .i64 sh], .bool false]) ∧ Ext W w')) :
    Calls Tryz.prog 23 #[.agg #[.slice A n c, .int .i64 home], .agg #[.int .i64 ll, .int .i64 lh, .int .i64 hl, .int .i64 hh, .int .i64 g], .int .i64 tick, .agg #[.int .i64 xl, .int .i64 xh, .int .i64 yl, .int .i64 yh, .int .i64 ul, .int .i64 uh, .int .i64 vl, .int .i64 vh]] w fun e w' => e = .returned (.tuple #[.agg #[.int .i64 0, .int .i64 0, .int .i64 0, .int .i64 0, .int .i64 0, .int .i64 0, .int .i64 0, .int .i64 0], .int .i64 (14)]) ∧ Ext w w' := by
  go_enter Tryz.func23, Tryz.ntmps23
  go_wp2_with fail
  refine (H.out _ ext_by).mono ?_
  rintro e w1 ⟨rfl, h1⟩
  have G8 : Blk w1 (w.heap.size + 1 + 1 + 1) 38 #[.int .i64 0, .int .i64 0, .int .i64 0, .int .i64 0, .int .i64 0, .int .i64 0, .int .i64 0, .int .i64 0] := (Blk.newAt (by simp)).ext h1
  have G7 : Blk w1 (w.heap.size + 1 + 1) 38 #[.int .i64 xl, .int .i64 xh, .int .i64 yl, .int .i64 yh, .int .i64 ul, .int .i64 uh, .int .i64 vl, .int .i64 vh] := ((Blk.newAt (by simp)).alloc _).ext h1
  have GE : Ext w w1 := ext_by
  have G5 : Blk w1 (w.heap.size) 24 #[.slice A n c, .int .i64 home] := ((((Blk.newAt (by simp)).alloc _).alloc _).alloc _).ext h1
  have G6 : Blk w1 (w.heap.size + 1) 28 #[.int .i64 ll, .int .i64 lh, .int .i64 hl, .int .i64 hh, .int .i64 g] := (((Blk.newAt (by simp)).alloc _).alloc _).ext h1
  clear h1
  go_wp2_with fail
  refine (HT.out _).mono ?_
  rintro e w2 ⟨rfl, h2⟩
  have G8' := G8.ext h2
  have G7' := G7.ext h2
  have G6' := G6.ext h2
  have G5' := G5.ext h2
  have GE' := GE.trans h2
  clear h2 G8 GE G7 G6 G5
  have c_G7' := G7'.cell; have f_G7' := G7'.frozen; have l_G7' := G7'.lt
  go_wp2_with fail
  refine (HC.out _).mono ?_
  rintro e w3 ⟨rfl, h3⟩
  have F8 := G8'.ext h3
  have F7 := G7'.ext h3
  have F6 := G6'.ext h3
  have F5 := G5'.ext h3
  have FE := GE'.trans h3
  clear h3 G8' G7' G6' G5' GE'
  clear c_G7' f_G7' l_G7'
  have c_F7 := F7.cell; have f_F7 := F7.frozen; have l_F7 := F7.lt; have c_F6 := F6.cell; have f_F6 := F6.frozen; have l_F6 := F6.lt; have c_F5 := F5.cell; have f_F5 := F5.frozen; have l_F5 := F5.lt
  go_wp2_with fail
  refine (HS.out _ ext_by).mono ?_
  rintro e w4 ⟨rfl, h4⟩
  have D8 := F8.ext h4
  have DE := FE.trans h4
  clear c_F7 f_F7 l_F7 c_F6 f_F6 l_F6 c_F5 f_F5 l_F5
  clear h4 F8 F7 F6 F5 FE
  have c_D8 := D8.cell; have f_D8 := D8.frozen; have l_D8 := D8.lt
  (try dsimp only); repeat' (first | go_values | go_skip | go_guarded | go_step | go_upon | go_in | go_at_K)
  refine name_world _ ?_
  intro W9 hW9
  have Q8 : Blk W9 (w.heap.size + 1 + 1 + 1) 38 #[.int .i64 0, .int .i64 0, .int .i64 0, .int .i64 0, .int .i64 0, .int .i64 0, .int .i64 0, .int .i64 0] := by
    rw [hW9]; exact (blk_set2 (blk_set2 (blk_set2 (blk_set2 D8 rfl) rfl) rfl) rfl).alloc _
  have QE : Ext w W9 := by
    rw [hW9]; exact (ext_set2 (ext_set2 (ext_set2 (ext_set2 DE (by omega)) (by omega)) (by omega)) (by omega)).alloc _
  clear hW9
  have c_Q8 := Q8.cell; have f_Q8 := Q8.frozen; have l_Q8 := Q8.lt
  (try simp only [Exit.inBlock, Exit.then]); apply bodyPost_ret; (focus (simp only [results, Tryz.results23]; go_simp; try rfl)); rfl
  exact ⟨rfl, QE⟩
theorem oStep_k (H : Hid (∀ W, Ext w W → Calls Tryz.prog 67 #[.agg #[.slice A n c, .int .i64 home], .agg #[.int .i64 ll, .int .i64 lh, .int .i64 hl, .int .i64 hh, .int .i64 g]] W fun e w' => e = .returned (.int .i64 0) ∧ Ext W w')) (HT : Hid (∀ W, Calls Tryz.prog 68 #[.int .i64 tick, .int .i64 0, .int .i64 1073741823] W fun e w' => e = .returned (.bool true) ∧ Ext W w')) (HC : Hid (∀ W, Calls Tryz.prog 37 #[.agg #[.int .i64 xl, .int .i64 xh, .int .i64 yl, .int .i64 yh, .int .i64 ul, .int .i64 uh, .int .i64 vl, .int .i64 vh]] W fun e w' => e = .returned (.int .i64 0) ∧ Ext W w')) (HS : Hid (∀ W, Ext w W → Calls Tryz.prog 73 #[.agg #[.slice A n c, .int .i64 home], .agg #[.int .i64 ll, .int .i64 lh, .int .i64 hl, .int .i64 hh, .int .i64 g], .int .i64 tick, .agg #[.int .i64 xl, .int .i64 xh, .int .i64 yl, .int .i64 yh, .int .i64 ul, .int .i64 uh, .int .i64 vl, .int .i64 vh]] W fun e w' => e = .returned (.tuple #[.agg #[.int .i64 pl, .int .i64 ph, .int .i64 ql, .int .i64 qh, .int .i64 rl, .int .i64 rh, .int .i64 sl, .int .i64 sh], .bool true]) ∧ Ext W w')) :
    Calls Tryz.prog 23 #[.agg #[.slice A n c, .int .i64 home], .agg #[.int .i64 ll, .int .i64 lh, .int .i64 hl, .int .i64 hh, .int .i64 g], .int .i64 tick, .agg #[.int .i64 xl, .int .i64 xh, .int .i64 yl, .int .i64 yh, .int .i64 ul, .int .i64 uh, .int .i64 vl, .int .i64 vh]] w fun e w' => e = .returned (.tuple #[.agg #[.int .i64 pl, .int .i64 ph, .int .i64 ql, .int .i64 qh, .int .i64 rl, .int .i64 rh, .int .i64 sl, .int .i64 sh], .int .i64 (0)]) ∧ Ext w w' := by
  go_enter Tryz.func23, Tryz.ntmps23
  go_wp2_with fail
  refine (H.out _ ext_by).mono ?_
  rintro e w1 ⟨rfl, h1⟩
  have G8 : Blk w1 (w.heap.size + 1 + 1 + 1) 38 #[.int .i64 0, .int .i64 0, .int .i64 0, .int .i64 0, .int .i64 0, .int .i64 0, .int .i64 0, .int .i64 0] := (Blk.newAt (by simp)).ext h1
  have G7 : Blk w1 (w.heap.size + 1 + 1) 38 #[.int .i64 xl, .int .i64 xh, .int .i64 yl, .int .i64 yh, .int .i64 ul, .int .i64 uh, .int .i64 vl, .int .i64 vh] := ((Blk.newAt (by simp)).alloc _).ext h1
  have GE : Ext w w1 := ext_by
  have G5 : Blk w1 (w.heap.size) 24 #[.slice A n c, .int .i64 home] := ((((Blk.newAt (by simp)).alloc _).alloc _).alloc _).ext h1
  have G6 : Blk w1 (w.heap.size + 1) 28 #[.int .i64 ll, .int .i64 lh, .int .i64 hl, .int .i64 hh, .int .i64 g] := (((Blk.newAt (by simp)).alloc _).alloc _).ext h1
  clear h1
  go_wp2_with fail
  refine (HT.out _).mono ?_
  rintro e w2 ⟨rfl, h2⟩
  have G8' := G8.ext h2
  have G7' := G7.ext h2
  have G6' := G6.ext h2
  have G5' := G5.ext h2
  have GE' := GE.trans h2
  clear h2 G8 GE G7 G6 G5
  have c_G7' := G7'.cell; have f_G7' := G7'.frozen; have l_G7' := G7'.lt
  go_wp2_with fail
  refine (HC.out _).mono ?_
  rintro e w3 ⟨rfl, h3⟩
  have F8 := G8'.ext h3
  have F7 := G7'.ext h3
  have F6 := G6'.ext h3
  have F5 := G5'.ext h3
  have FE := GE'.trans h3
  clear h3 G8' G7' G6' G5' GE'
  clear c_G7' f_G7' l_G7'
  have c_F7 := F7.cell; have f_F7 := F7.frozen; have l_F7 := F7.lt; have c_F6 := F6.cell; have f_F6 := F6.frozen; have l_F6 := F6.lt; have c_F5 := F5.cell; have f_F5 := F5.frozen; have l_F5 := F5.lt
  go_wp2_with fail
  refine (HS.out _ ext_by).mono ?_
  rintro e w4 ⟨rfl, h4⟩
  have D8 := F8.ext h4
  have DE := FE.trans h4
  clear c_F7 f_F7 l_F7 c_F6 f_F6 l_F6 c_F5 f_F5 l_F5
  clear h4 F8 F7 F6 F5 FE
  have c_D8 := D8.cell; have f_D8 := D8.frozen; have l_D8 := D8.lt
  (try dsimp only); repeat' (first | go_values | go_skip | go_guarded | go_step | go_upon | go_in | go_at_K)
  refine name_world _ ?_
  intro W9 hW9
  have Q8 : Blk W9 (w.heap.size + 1 + 1 + 1) 38 #[.int .i64 pl, .int .i64 ph, .int .i64 ql, .int .i64 qh, .int .i64 rl, .int .i64 rh, .int .i64 sl, .int .i64 sh] := by
    rw [hW9]; exact (blk_set2 (blk_set2 (blk_set2 (blk_set2 D8 rfl) rfl) rfl) rfl).alloc _
  have QE : Ext w W9 := by
    rw [hW9]; exact (ext_set2 (ext_set2 (ext_set2 (ext_set2 DE (by omega)) (by omega)) (by omega)) (by omega)).alloc _
  clear hW9
  have c_Q8 := Q8.cell; have f_Q8 := Q8.frozen; have l_Q8 := Q8.lt
  (try simp only [Exit.inBlock, Exit.then]); apply bodyPost_ret; (focus (simp only [results, Tryz.results23]; go_simp; try rfl)); rfl
  exact ⟨rfl, QE⟩
theorem oStep_c (l : List Body) (d : Drf) (b : Bx) (hl : Bodies w A n l) :
    Calls Tryz.prog 23 #[.agg #[.slice A n c, .int .i64 home], .agg #[.int .i64 d.light.lo, .int .i64 d.light.hi, .int .i64 d.heat.lo, .int .i64 d.heat.hi, .int .i64 d.gas], .int .i64 tick, .agg #[.int .i64 b.x.lo, .int .i64 b.x.hi, .int .i64 b.y.lo, .int .i64 b.y.hi, .int .i64 b.u.lo, .int .i64 b.u.hi, .int .i64 b.v.lo, .int .i64 b.v.hi]] w fun e w' => e = .returned (bxRV (stepM l home d tick b)) ∧ Ext w w' := by
  have H : Hid (∀ W, Ext w W → Calls Tryz.prog 67 #[.agg #[.slice A n c, .int .i64 home], .agg #[.int .i64 d.light.lo, .int .i64 d.light.hi, .int .i64 d.heat.lo, .int .i64 d.heat.hi, .int .i64 d.gas]] W fun e w' => e = .returned (.int .i64 (wdErr l home d)) ∧ Ext W w') := Lib.hid fun W hW => oCheckWorld_c A n c home l _ _ _ _ _ W (Bodies.ext hW hl)
  have HT : Hid (∀ W, Calls Tryz.prog 68 #[.int .i64 tick, .int .i64 0, .int .i64 1073741823] W fun e w' => e = .returned (.bool (within tick 0 1073741823)) ∧ Ext W w') := Lib.hid fun W => oWithin_c _ _ _ W
  have HC : Hid (∀ W, Calls Tryz.prog 37 #[.agg #[.int .i64 b.x.lo, .int .i64 b.x.hi, .int .i64 b.y.lo, .int .i64 b.y.hi, .int .i64 b.u.lo, .int .i64 b.u.hi, .int .i64 b.v.lo, .int .i64 b.v.hi]] W fun e w' => e = .returned (.int .i64 (bxErr b)) ∧ Ext W w') := Lib.hid fun W => oCheck_c b W
  unfold stepM
  by_cases h1 : wdErr l home d = 0
  · rw [if_pos h1]
    rw [h1] at H
    by_cases h2 : within tick 0 1073741823 = true
    · rw [if_pos h2]
      rw [h2] at HT
      have hT : 0 ≤ tick ∧ tick ≤ 1073741824 := by
        simp only [within, Bool.and_eq_true, decide_eq_true_eq] at h2; omega
      by_cases h3 : bxErr b = 0
      · rw [if_pos h3]
        rw [h3] at HC
        have HS := Lib.hid fun W (hW : Ext w W) => oStep0_c A n c home l d tick b W (Bodies.ext hW hl) h1 hT h3
        by_cases h4 : bxErr (stepB l home d tick b) = 0
        · rw [if_pos h4]
          simp only [h4, decide_true] at HS
          exact oStep_k _ _ _ _ _ _ _ _ _ _ _ _ _ _ _ _ _ _ _ _ _ _ _ _ _ _ _ H HT HC HS
        · rw [if_neg h4]
          simp only [h4, decide_false] at HS
          exact oStep_n _ _ _ _ _ _ _ _ _ _ _ _ _ _ _ _ _ _ _ _ _ _ _ _ _ _ _ H HT HC HS
      · rw [if_neg h3]
        exact oStep_b _ _ _ _ _ _ _ _ _ _ _ _ _ _ _ _ _ _ _ _ h3 H HT HC
    · rw [if_neg h2]
      rw [Bool.eq_false_iff.2 h2] at HT
      exact oStep_t _ _ _ _ _ _ _ _ _ _ _ _ _ _ _ _ _ _ _ H HT
  · rw [if_neg h1]
    exact oStep_w _ _ _ _ _ _ _ _ _ _ _ _ _ _ _ _ _ _ _ _ h1 H
end
end Go.Proofs.YtfniicgoeljmdaaGreat
