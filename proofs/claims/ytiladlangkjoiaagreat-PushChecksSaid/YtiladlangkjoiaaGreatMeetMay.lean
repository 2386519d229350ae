/- Steps of boxes, possible successors, sets after some ticks. Plain laws. No condition. Truths of a campaign that is safe: they come nowhere near, and go through no keyhole. Plain law. No condition. The reference's ways in the chapter of the pushes. Plain law. No condition. The examples of the chapter of the pushes, worked out. Plain law. No condition. Passages by Home, their areas: the program. No condition. Passages by Home that are not clear; keyholes: the program. No condition. -/
import Derived.Test.YtiladlangkjoiaaGreatCloneInt
import Derived.Laws.CopyRow
import Derived.Laws.CopyOwn
import Derived.Laws.Externs
import Derived.Lib.AppendZerosOnto
import Derived.Lib.Overlaps
import Derived.Test.YtiladlangkjoiaaGreatGen
import Derived.Test.YtiladlangkjoiaaGreatOwnMis
import Derived.Test.YtiladlangkjoiaaGreatPushLaw
import Derived.Scope
import Derived.LoopN
import Derived.Test.YtiladlangkjoiaaGreatSlices
import Derived.Test.YtiladlangkjoiaaGreatBig
import Derived.Test.YtiladlangkjoiaaGreatForceSum
import Derived.Test.YtiladlangkjoiaaGreatExcludes3
import Derived.Test.YtiladlangkjoiaaGreatPushMem
import Derived.Test.YtiladlangkjoiaaGreatFreeLast
import Derived.Test.YtiladlangkjoiaaGreatSpanClear
namespace Go.Proofs.YtiladlangkjoiaaGreat
open Go.RowKit

structure Moves (l : List Body) (home : Int) (d : Drf) (tick : Int) : Prop where
  wd : wdErr l home d = 0
  now : 0 ≤ tick ∧ tick ≤ 1073741823
  ask : ∀ a, SmA 33554432 a → fAskErr l home d tick a = 0
  sub : ∀ a a', SmA 33554432 a → SubA a' a → SubA (overA l home d tick a') (overA l home d tick a)
def ptA (s : St) : Ar := ⟨⟨s.x, s.x⟩, ⟨s.y, s.y⟩⟩
def ptB (s : St) : Bx := ⟨⟨s.x, s.x⟩, ⟨s.y, s.y⟩, ⟨s.u, s.u⟩, ⟨s.v, s.v⟩⟩
theorem pt_valid {s : St} (h : stErr s = 0) : bxErr (ptB s) = 0 ∧ SmA 33554432 (ptA s) := by
  rw [stErr_ok] at h
  rw [bxErr_iff]
  unfold BxOk SmA Sm ptB ptA
  dsimp only
  omega
section
variable {l : List Body} {home : Int} {d : Drf} {tick : Int}
theorem Moves.over (M : Moves l home d tick) {a : Ar} (ha : SmA 33554432 a) : overM l home d tick a = ⟨overA l home d tick a, 0⟩ := by
  unfold overM; rw [if_pos (M.ask a ha)]
theorem Moves.follows (M : Moves l home d tick) {s n : St} (hs : stErr s = 0) : possibleB l home d tick s n = true ↔ stErr n = 0 ∧
    ((overA l home d tick (ptA s)).x.lo ≤ n.u - s.u ∧ n.u - s.u ≤ (overA l home d tick (ptA s)).x.hi) ∧ ((overA l home d tick (ptA s)).y.lo ≤ n.v - s.v ∧ n.v - s.v ≤ (overA l home d tick (ptA s)).y.hi) ∧ n.x = s.x + n.u ∧ n.y = s.y + n.v := by
  have ho := M.over (pt_valid hs).2
  unfold possibleB followsB
  unfold ptA at ho
  rw [ho]
  simp only [Bool.and_eq_true, decide_eq_true_eq, within_iff, M.wd, hs, true_and, and_assoc]
  exact ⟨fun ⟨_, _, h⟩ => h, fun h => ⟨M.now.1, M.now.2, h⟩⟩
end
end Go.Proofs.YtiladlangkjoiaaGreat

namespace Go.Proofs.YtiladlangkjoiaaGreat
open Go.RowKit

section
variable {l : List Body} {home : Int}
variable {d : Drf} {c : Camp} {t : Int}
theorem tick_zero {L : List Mis} {b : Bx} (h : (tickM l home d c L t b).1 = 0) :
    farB l home c L t b = false ∧ bxErr (pushB l home L c.body t b) = 0 ∧ (stepM l home d t (pushB l home L c.body t b)).e = 0 ∧ mayB l home t (pushB l home L c.body t b) (stepM l home d t (pushB l home L c.body t b)).b c.miss = false ∧
      thruB l home c.keys t (pushB l home L c.body t b) (stepM l home d t (pushB l home L c.body t b)).b = false ∧ (tickM l home d c L t b).2 = (stepM l home d t (pushB l home L c.body t b)).b := by
  unfold tickM at h ⊢
  by_cases h1 : farB l home c L t b = true
  · rw [if_pos h1] at h; cases h
  rw [if_neg h1] at h ⊢
  by_cases h2 : bxErr (pushB l home L c.body t b) ≠ 0
  · rw [if_pos h2] at h; cases h
  rw [if_neg h2] at h ⊢
  by_cases h3 : (stepM l home d t (pushB l home L c.body t b)).e ≠ 0
  · rw [if_pos h3] at h; cases h
  rw [if_neg h3] at h ⊢
  by_cases h4 : mayB l home t (pushB l home L c.body t b) (stepM l home d t (pushB l home L c.body t b)).b c.miss = true
  · rw [if_pos h4] at h; cases h
  rw [if_neg h4] at h ⊢
  by_cases h5 : thruB l home c.keys t (pushB l home L c.body t b) (stepM l home d t (pushB l home L c.body t b)).b = true
  · rw [if_pos h5] at h; cases h
  rw [if_neg h5]
  exact ⟨by simpa using h1, by simpa using h2, by simpa using h3, by simpa using h4, by simpa using h5, rfl⟩

theorem area_sm (b : Bx) (hb : bxErr b = 0) : SmA 67108864 (areaM l home t b) := by
  obtain ⟨b1, b2, _⟩ := bxErr_iff.1 hb
  obtain ⟨⟨h1, h2⟩, h3, h4⟩ := at_home l home t
  unfold areaM lessS SmA Sm at *
  dsimp only
  omega
theorem area_ok {a : Ar} (h : SmA 67108864 a) : areaErr a = 0 := by
  unfold areaErr
  rw [if_pos (h.1.err2 h.2 (by omega) (by omega)), if_pos]
  unfold SmA Sm at h
  simp only [far4, within, Bool.and_eq_true, decide_eq_true_eq]
  omega
theorem square_in {n : Int} {a : Sp} (ha : Sm n a) (hn : n ≤ 536870912) (hn0 : 0 ≤ n) : 0 ≤ (squareS a).lo ∧ Sm (n * n) (squareS a) := by
  have h := squareS_sm ha (by omega)
  have := Int.mul_nonneg hn0 hn0
  exact ⟨h.1, by omega, h.2.1, h.2.2⟩
theorem aim_parts {a b : Ar} (ha : SmA 67108864 a) (hb : SmA 67108864 b) :
    (SmA 134217728 ⟨subS b.x a.x, subS b.y a.y⟩) ∧ 0 ≤ (aimQ a b).lo ∧ (aimQ a b).lo ≤ (aimQ a b).hi ∧ (aimQ a b).hi ≤ 36028797018963968 ∧ aimQ a b = sumS (squareS (subS b.x a.x)) (squareS (subS b.y a.y)) ∧ Sm 9007199254740992 (aimC a b) := by
  have x := (subS_in hb.1 ha.1 (by omega) (by omega) (by omega)).2
  have y := (subS_in hb.2 ha.2 (by omega) (by omega) (by omega)).2
  have sx := square_in x (by omega) (by omega)
  have sy := square_in y (by omega) (by omega)
  have e : aimQ a b = sumS (squareS (subS b.x a.x)) (squareS (subS b.y a.y)) := addS_small sx.2 sy.2 (by omega) (by omega) (by omega)
  refine ⟨⟨x.mono (by omega), y.mono (by omega)⟩, ?_, ?_, ?_, e, ?_⟩
  · rw [e]; unfold sumS; dsimp only; have := sx.1; have := sy.1; omega
  · rw [e]; unfold sumS; dsimp only; have := sx.2.2.1; have := sy.2.2.1; omega
  · rw [e]; unfold sumS; dsimp only; have := sx.2.2.2; have := sy.2.2.2; omega
  · have m1 := mulS_in ha.1 hb.2 (by omega) (by omega) (by omega) (by omega)
    have m2 := mulS_in ha.2 hb.1 (by omega) (by omega) (by omega) (by omega)
    exact (subS_in m1 m2 (by omega) (by omega) (by omega)).2.mono (by omega)
end
end Go.Proofs.YtiladlangkjoiaaGreat

namespace Go.Proofs.YtiladlangkjoiaaGreat
open Go.RowKit

theorem right_places (a : Ar) : rightA a.x.lo a.x.hi a.y.lo a.y.hi = placesB a := by
  unfold placesB rightA
  rw [Bool.eq_iff_iff, decide_eq_true_eq, bxErr_iff]
  unfold BxOk Sm
  simp only [Bool.and_eq_true, decide_eq_true_eq]
  omega
end Go.Proofs.YtiladlangkjoiaaGreat

namespace Go.Proofs.YtiladlangkjoiaaGreat
open Go.RowKit

def stillP : List Body := [⟨0, 10, [⟨0, 0⟩]⟩]
def impM : Mis := ⟨1, 0, 10, 1, ⟨100, 100⟩, ⟨0, 0⟩, ⟨2000, 3000⟩, ⟨0, 0⟩, false, 5⟩
def hitC : Camp := ⟨[], ⟨1000, 1000⟩, 1, 0, 15, 20, []⟩
def noD : Drf := ⟨⟨0, 0⟩, ⟨0, 0⟩, 0⟩
theorem imp_err : doesErr stillP 0 impM ⟨1000, 1000⟩ 10 (aloneB ⟨100, -20, -40, 0⟩) = 0 := by kernel_rfl
theorem imp_does : doesV stillP 0 impM ⟨1000, 1000⟩ 10 (aloneB ⟨100, -20, -40, 0⟩) = ⟨⟨10, 15⟩, ⟨-1, 0⟩⟩ := by kernel_rfl
theorem hit_err : verErr stillP 0 noD hitC 8 [aloneB ⟨120, 0, -10, 0⟩] = 0 := by kernel_rfl
theorem hit_ver : verV stillP 0 noD hitC 8 [aloneB ⟨120, 0, -10, 0⟩] = ⟨false, 3, [], 0, 18⟩ := by kernel_rfl
end Go.Proofs.YtiladlangkjoiaaGreat

namespace Go.Proofs.YtiladlangkjoiaaGreat
open Go.RowKit

set_option maxHeartbeats 400000 in
theorem mWithin_c (a b c : Int) (w : World) :
    Calls Tryz.prog 114 #[.int .i64 a, .int .i64 b, .int .i64 c] w fun e w' => e = .returned (.bool (within a b c)) ∧ Ext w w' := by
  go_enter Tryz.func114, Tryz.ntmps114
  go_wp2
  all_goals go_ret
  all_goals exact ⟨ret_b (by simp [within, *] <;> omega), Ext.refl _⟩
set_option maxRecDepth 20000 in
set_option maxHeartbeats 1000000 in
theorem mValid_c (A : Option Addr) (n c : Nat) (home tick : Int) (l : List Body) (w : World) (hl : Bodies w A n l) :
    Calls Tryz.prog 158 #[.agg #[.slice A n c, .int .i64 home], .int .i64 tick] w fun e w' => e = .returned (.bool (decide (wldErr ⟨l, home⟩ = 0) && within tick 0 1073741823)) ∧ Ext w w' := by
  have HW := Lib.hid fun W (hW : Ext w W) => CheckWorld_c A n c home l W (Bodies.ext hW hl)
  have HT := Lib.hid fun W => mWithin_c tick 0 1073741823 W
  generalize wldErr ⟨l, home⟩ = E at *
  generalize within tick 0 1073741823 = b at *
  clear hl
  by_cases h : E = 0
  · subst h
    go_enter Tryz.func158, Tryz.ntmps158
    go_wp2_with fail
    refine (HW.out _ ext_by).mono ?_
    rintro e w1 ⟨rfl, h1⟩
    obtain ⟨hc_w1, hf_w1, hz_w1⟩ := bcell h1; (try simp only [szA] at hz_w1); (try have := wz0 w w1); (try have := wz1 w w1); (try have := wz2 w w1); (try have := wz3 w w1); (try have := wz4 w w1)
    go_wp2_with fail
    refine (HT.out _).mono ?_
    rintro e w2 ⟨rfl, h2⟩
    obtain ⟨hc_w2, hf_w2, hz_w2⟩ := bcell h2; (try simp only [szA] at hz_w2); (try have := wz0 w w2); (try have := wz1 w w2); (try have := wz2 w w2); (try have := wz3 w w2); (try have := wz4 w w2)
    go_wp2_with fail
    go_ret
    exact ⟨ret_b (by simp), ext_by⟩
  · go_enter Tryz.func158, Tryz.ntmps158
    go_wp2_with fail
    refine (HW.out _ ext_by).mono ?_
    rintro e w1 ⟨rfl, h1⟩
    obtain ⟨hc_w1, hf_w1, hz_w1⟩ := bcell h1; (try simp only [szA] at hz_w1); (try have := wz0 w w1); (try have := wz1 w w1); (try have := wz2 w w1); (try have := wz3 w w1); (try have := wz4 w w1)
    go_wp2_with fail
    go_ret
    exact ⟨ret_b (by simp [h]), ext_by⟩
set_option maxHeartbeats 400000 in
theorem mLess_c (lo hi n : Int) (w : World) (h1 : -1073741824 ≤ lo ∧ lo ≤ 1073741824) (h2 : -1073741824 ≤ hi ∧ hi ≤ 1073741824) (h3 : -1073741824 ≤ n ∧ n ≤ 1073741824) :
    Calls Tryz.prog 229 #[.agg #[.int .i64 lo, .int .i64 hi], .int .i64 n] w fun e w' => e = .returned (.agg #[.int .i64 (lo - n), .int .i64 (hi - n)]) ∧ Ext w w' := by
  go_enter Tryz.func229, Tryz.ntmps229
  go_wp2_with fail
  (try simp only [Exit.inBlock, Exit.then]); apply bodyPost_ret; (focus (simp only [results, Tryz.results229]; go_simp; try rfl)); rfl
  exact ⟨rfl, ext_by⟩
set_option maxRecDepth 20000 in
set_option maxHeartbeats 2000000 in
theorem mArea_c (A : Option Addr) (n c : Nat) (home tick : Int) (l : List Body) (b : Bx) (w : World) (hl : Bodies w A n l) (hb : bxErr b = 0) :
    Calls Tryz.prog 161 #[.agg #[.slice A n c, .int .i64 home], .int .i64 tick, .agg #[.int .i64 b.x.lo, .int .i64 b.x.hi, .int .i64 b.y.lo, .int .i64 b.y.hi, .int .i64 b.u.lo, .int .i64 b.u.hi, .int .i64 b.v.lo, .int .i64 b.v.hi]] w fun e w' => e = .returned (arV (areaM l home tick b)) ∧ Ext w w' := by
  have HA := Lib.hid fun W (hW : Ext w W) => At_c A n c home home tick l W (Bodies.ext hW hl)
  have hp := at_home l home tick
  obtain ⟨g1, g2, g3⟩ := bxErr_ok.1 hb
  obtain ⟨a1, a2, _⟩ := fullB_iff.1 g1
  obtain ⟨⟨a3, a4⟩, ⟨a5, a6⟩, _⟩ := stErr_ok.1 g2
  obtain ⟨⟨a7, a8⟩, ⟨a9, a10⟩, _⟩ := stErr_ok.1 g3
  simp only [lowS, highS] at a3 a4 a5 a6 a7 a8 a9 a10
  unfold arV areaM lessS
  dsimp only
  generalize atM l home home tick = h at *
  obtain ⟨hx, hy⟩ := h
  obtain ⟨⟨p1, p2⟩, p3, p4⟩ := hp
  dsimp only at HA p1 p2 p3 p4 ⊢
  have HL := Lib.hid fun lo hi n W h1 h2 h3 => mLess_c lo hi n W h1 h2 h3
  clear hl hb g1 g2 g3
  go_enter Tryz.func161, Tryz.ntmps161
  go_wp2_with fail
  refine (HA.out _ ext_by).mono ?_
  rintro e w1 ⟨rfl, h1⟩
  obtain ⟨hc_w1, hf_w1, hz_w1⟩ := bcell h1; (try simp only [szA] at hz_w1); (try have := wz0 w w1); (try have := wz1 w w1); (try have := wz2 w w1); (try have := wz3 w w1); (try have := wz4 w w1)
  go_wp2_with fail
  refine wp_region_forced 11 (Ext _) (Stable.ext _) (Ext.drew (Ext.refl _)) (by kernel_rfl) (by kernel_rfl) ?_
  simp only [List.take_succ_cons, List.take_zero, List.drop_succ_cons, List.drop_zero]
  (repeat' (first | (refine bl_off (by rfl) ?_; simp only [putX]) | (apply bl_op; rfl; (intro w1 h1; obtain ⟨hc, hf, hz⟩ := bcell h1; go_simp; (try go_bits); (first | exact ⟨rfl, Ext.refl _⟩ | (apply gives_call; first | (go_at_call 229; exact HL.out _ _ _ _ (by omega) (by omega) (by omega))) | (go_invoke; go_simp; apply gives_call; first | (go_at_call 229; exact HL.out _ _ _ _ (by omega) (by omega) (by omega))))); simp only [putX]) | (refine bl_split rfl rfl (fun hx => ?_) (fun hx => ?_) <;> simp only [hx])))
  refine bl_nil ?_
  intro w2 h2
  obtain ⟨hc_w2, hf_w2, hz_w2⟩ := bcell h2; (try simp only [szA] at hz_w2); (try have := wz0 w w2); (try have := wz1 w w2); (try have := wz2 w w2); (try have := wz3 w w2); (try have := wz4 w w2)
  go_wp2_with fail
  (try simp only [Exit.inBlock, Exit.then]); apply bodyPost_ret; (focus (simp only [results, Tryz.results161]; go_simp; try rfl)); rfl
  exact ⟨rfl, ext_by⟩
def areasV (l : List Body) (home tick : Int) (p q : Bx) : Value := .tuple #[arV (if areasOk l home tick p q then areaM l home tick p else zeroA), arV (if areasOk l home tick p q then areaM l home (tick + 1) q else zeroA), .bool (areasOk l home tick p q)]
section
variable (A : Option Addr) (n c : Nat) (home tick : Int) (l : List Body) (p q : Bx) (w : World)
set_option maxRecDepth 20000 in
set_option maxHeartbeats 4000000 in
theorem mAreas_no (hl : Bodies w A n l) (h : areasOk l home tick p q = false) :
    Calls Tryz.prog 80 #[.agg #[.slice A n c, .int .i64 home], .int .i64 tick, .agg #[.int .i64 p.x.lo, .int .i64 p.x.hi, .int .i64 p.y.lo, .int .i64 p.y.hi, .int .i64 p.u.lo, .int .i64 p.u.hi, .int .i64 p.v.lo, .int .i64 p.v.hi], .agg #[.int .i64 q.x.lo, .int .i64 q.x.hi, .int .i64 q.y.lo, .int .i64 q.y.hi, .int .i64 q.u.lo, .int .i64 q.u.hi, .int .i64 q.v.lo, .int .i64 q.v.hi]] w fun e w' => e = .returned (.tuple #[.agg #[.int .i64 0, .int .i64 0, .int .i64 0, .int .i64 0], .agg #[.int .i64 0, .int .i64 0, .int .i64 0, .int .i64 0], .bool false]) ∧ Ext w w' := by
  have HV := Lib.hid fun W (hW : Ext w W) => mValid_c A n c home tick l W (Bodies.ext hW hl)
  have HP := Lib.hid fun W => oCheck_c p W
  have HQ := Lib.hid fun W => oCheck_c q W
  unfold areasOk at h
  generalize (decide (wldErr ⟨l, home⟩ = 0) && within tick 0 1073741823) = V at *
  generalize bxErr p = E1 at *
  generalize bxErr q = E2 at *
  clear hl
  go_enter Tryz.func80, Tryz.ntmps80
  go_wp2_with fail
  refine (HV.out _ ext_by).mono ?_
  rintro e w1 ⟨rfl, h1⟩
  have B6 : Blk w1 (w.heap.size + 1) 48 #[.int .i64 p.x.lo, .int .i64 p.x.hi, .int .i64 p.y.lo, .int .i64 p.y.hi, .int .i64 p.u.lo, .int .i64 p.u.hi, .int .i64 p.v.lo, .int .i64 p.v.hi] := ((((Blk.newAt (by simp)).alloc _).alloc _).alloc _).ext h1
  have B7 : Blk w1 (w.heap.size + 1 + 1) 48 #[.int .i64 q.x.lo, .int .i64 q.x.hi, .int .i64 q.y.lo, .int .i64 q.y.hi, .int .i64 q.u.lo, .int .i64 q.u.hi, .int .i64 q.v.lo, .int .i64 q.v.hi] := (((Blk.newAt (by simp)).alloc _).alloc _).ext h1
  have B8 : Blk w1 (w.heap.size + 1 + 1 + 1) 32 #[.int .i64 0, .int .i64 0, .int .i64 0, .int .i64 0] := ((Blk.newAt (by simp)).alloc _).ext h1
  have B9 : Blk w1 (w.heap.size + 1 + 1 + 1 + 1) 32 #[.int .i64 0, .int .i64 0, .int .i64 0, .int .i64 0] := (Blk.newAt (by simp)).ext h1
  have E : Ext w w1 := ext_by
  clear h1 HV
  have c_B6 := B6.cell; have f_B6 := B6.frozen; have l_B6 := B6.lt; have c_B7 := B7.cell; have f_B7 := B7.frozen; have l_B7 := B7.lt; have c_B8 := B8.cell; have f_B8 := B8.frozen; have l_B8 := B8.lt; have c_B9 := B9.cell; have f_B9 := B9.frozen; have l_B9 := B9.lt
  cases V
  · skip
    (try dsimp only); repeat' (first | go_values | go_skip | go_guarded | go_step | go_upon | go_in | go_at_K)
    refine name_world _ ?_
    intro W9 hW9
    have n89 : w.heap.size + 1 + 1 + 1 ≠ w.heap.size + 1 + 1 + 1 + 1 := by omega
    have Q8 : Blk W9 (w.heap.size + 1 + 1 + 1) 32 #[.int .i64 0, .int .i64 0, .int .i64 0, .int .i64 0] := by rw [hW9]; exact blk_far2 (blk_far2 (blk_set2 (blk_set2 B8 rfl) rfl) n89) n89
    have Q9 : Blk W9 (w.heap.size + 1 + 1 + 1 + 1) 32 #[.int .i64 0, .int .i64 0, .int .i64 0, .int .i64 0] := by rw [hW9]; exact blk_set2 (blk_set2 (blk_far2 (blk_far2 B9 n89.symm) n89.symm) rfl) rfl
    have QE : Ext w W9 := by rw [hW9]; exact ext_set2 (ext_set2 (ext_set2 (ext_set2 E (by omega)) (by omega)) (by omega)) (by omega)
    clear hW9
    have c_Q8 := Q8.cell; have f_Q8 := Q8.frozen; have l_Q8 := Q8.lt; have c_Q9 := Q9.cell; have f_Q9 := Q9.frozen; have l_Q9 := Q9.lt
    (try simp only [Exit.inBlock, Exit.then]); apply bodyPost_ret; (focus (simp only [results, Tryz.results80]; go_simp; try rfl)); rfl
    exact ⟨rfl, QE⟩
  · by_cases g1 : E1 = 0
    · subst g1
      have g2 : E2 ≠ 0 := by intro k; subst k; simp at h
      go_wp2_with fail
      refine (HP.out _).mono ?_
      rintro e w2 ⟨rfl, h2⟩
      clear c_B6 f_B6 l_B6 c_B7 f_B7 l_B7 c_B8 f_B8 l_B8 c_B9 f_B9 l_B9
      replace B7 := B7.ext h2; replace B8 := B8.ext h2; replace B9 := B9.ext h2; have c_B7 := B7.cell; have f_B7 := B7.frozen; have l_B7 := B7.lt; have c_B8 := B8.cell; have f_B8 := B8.frozen; have l_B8 := B8.lt; have c_B9 := B9.cell; have f_B9 := B9.frozen; have l_B9 := B9.lt
      replace E := E.trans h2
      clear h2 B6
      go_wp2_with fail
      refine (HQ.out _).mono ?_
      rintro e w3 ⟨rfl, h3⟩
      clear c_B7 f_B7 l_B7 c_B8 f_B8 l_B8 c_B9 f_B9 l_B9
      replace B8 := B8.ext h3; replace B9 := B9.ext h3; have c_B8 := B8.cell; have f_B8 := B8.frozen; have l_B8 := B8.lt; have c_B9 := B9.cell; have f_B9 := B9.frozen; have l_B9 := B9.lt
      replace E := E.trans h3
      clear h3 B7
      (try dsimp only); repeat' (first | go_values | go_skip | go_guarded | go_step | go_upon | go_in | go_at_K)
      refine name_world _ ?_
      intro W9 hW9
      have n89 : w.heap.size + 1 + 1 + 1 ≠ w.heap.size + 1 + 1 + 1 + 1 := by omega
      have Q8 : Blk W9 (w.heap.size + 1 + 1 + 1) 32 #[.int .i64 0, .int .i64 0, .int .i64 0, .int .i64 0] := by rw [hW9]; exact blk_far2 (blk_far2 (blk_set2 (blk_set2 B8 rfl) rfl) n89) n89
      have Q9 : Blk W9 (w.heap.size + 1 + 1 + 1 + 1) 32 #[.int .i64 0, .int .i64 0, .int .i64 0, .int .i64 0] := by rw [hW9]; exact blk_set2 (blk_set2 (blk_far2 (blk_far2 B9 n89.symm) n89.symm) rfl) rfl
      have QE : Ext w W9 := by rw [hW9]; exact ext_set2 (ext_set2 (ext_set2 (ext_set2 E (by omega)) (by omega)) (by omega)) (by omega)
      clear hW9
      have c_Q8 := Q8.cell; have f_Q8 := Q8.frozen; have l_Q8 := Q8.lt; have c_Q9 := Q9.cell; have f_Q9 := Q9.frozen; have l_Q9 := Q9.lt
      (try simp only [Exit.inBlock, Exit.then]); apply bodyPost_ret; (focus (simp only [results, Tryz.results80]; go_simp; try rfl)); rfl
      exact ⟨rfl, QE⟩
    · go_wp2_with fail
      refine (HP.out _).mono ?_
      rintro e w2 ⟨rfl, h2⟩
      clear c_B6 f_B6 l_B6 c_B7 f_B7 l_B7 c_B8 f_B8 l_B8 c_B9 f_B9 l_B9
      replace B8 := B8.ext h2; replace B9 := B9.ext h2; have c_B8 := B8.cell; have f_B8 := B8.frozen; have l_B8 := B8.lt; have c_B9 := B9.cell; have f_B9 := B9.frozen; have l_B9 := B9.lt
      replace E := E.trans h2
      clear h2 B6 B7
      (try dsimp only); repeat' (first | go_values | go_skip | go_guarded | go_step | go_upon | go_in | go_at_K)
      refine name_world _ ?_
      intro W9 hW9
      have n89 : w.heap.size + 1 + 1 + 1 ≠ w.heap.size + 1 + 1 + 1 + 1 := by omega
      have Q8 : Blk W9 (w.heap.size + 1 + 1 + 1) 32 #[.int .i64 0, .int .i64 0, .int .i64 0, .int .i64 0] := by rw [hW9]; exact blk_far2 (blk_far2 (blk_set2 (blk_set2 B8 rfl) rfl) n89) n89
      have Q9 : Blk W9 (w.heap.size + 1 + 1 + 1 + 1) 32 #[.int .i64 0, .int .i64 0, .int .i64 0, .int .i64 0] := by rw [hW9]; exact blk_set2 (blk_set2 (blk_far2 (blk_far2 B9 n89.symm) n89.symm) rfl) rfl
      have QE : Ext w W9 := by rw [hW9]; exact ext_set2 (ext_set2 (ext_set2 (ext_set2 E (by omega)) (by omega)) (by omega)) (by omega)
      clear hW9
      have c_Q8 := Q8.cell; have f_Q8 := Q8.frozen; have l_Q8 := Q8.lt; have c_Q9 := Q9.cell; have f_Q9 := Q9.frozen; have l_Q9 := Q9.lt
      (try simp only [Exit.inBlock, Exit.then]); apply bodyPost_ret; (focus (simp only [results, Tryz.results80]; go_simp; try rfl)); rfl
      exact ⟨rfl, QE⟩
set_option maxRecDepth 20000 in
set_option maxHeartbeats 4000000 in
theorem mAreas_yes (hl : Bodies w A n l) (h : areasOk l home tick p q = true) :
    Calls Tryz.prog 80 #[.agg #[.slice A n c, .int .i64 home], .int .i64 tick, .agg #[.int .i64 p.x.lo, .int .i64 p.x.hi, .int .i64 p.y.lo, .int .i64 p.y.hi, .int .i64 p.u.lo, .int .i64 p.u.hi, .int .i64 p.v.lo, .int .i64 p.v.hi], .agg #[.int .i64 q.x.lo, .int .i64 q.x.hi, .int .i64 q.y.lo, .int .i64 q.y.hi, .int .i64 q.u.lo, .int .i64 q.u.hi, .int .i64 q.v.lo, .int .i64 q.v.hi]] w fun e w' => e = .returned (.tuple #[arV (areaM l home tick p), arV (areaM l home (tick + 1) q), .bool true]) ∧ Ext w w' := by
  have HV := Lib.hid fun W (hW : Ext w W) => mValid_c A n c home tick l W (Bodies.ext hW hl)
  have HP := Lib.hid fun W => oCheck_c p W
  have HQ := Lib.hid fun W => oCheck_c q W
  unfold areasOk at h
  simp only [Bool.and_eq_true, decide_eq_true_eq] at h
  obtain ⟨⟨⟨h1, h2⟩, h3⟩, h4⟩ := h
  have ht := (within_iff _ _ _).1 h2
  rw [h3] at HP
  rw [h4] at HQ
  rw [h1, h2] at HV
  have HA := Lib.hid fun t b' W (hW : Ext w W) (hb : bxErr b' = 0) => mArea_c A n c home t l b' W (Bodies.ext hW hl) hb
  clear hl h1 h2
  dsimp only [arV] at HA ⊢
  go_enter Tryz.func80, Tryz.ntmps80
  go_wp2_with fail
  refine (HV.out _ ext_by).mono ?_
  rintro e w1 ⟨rfl, h1⟩
  have B4 : Blk w1 w.heap.size 24 #[.slice A n c, .int .i64 home] := (((((Blk.newAt (by simp)).alloc _).alloc _).alloc _).alloc _).ext h1
  have B6 : Blk w1 (w.heap.size + 1) 48 #[.int .i64 p.x.lo, .int .i64 p.x.hi, .int .i64 p.y.lo, .int .i64 p.y.hi, .int .i64 p.u.lo, .int .i64 p.u.hi, .int .i64 p.v.lo, .int .i64 p.v.hi] := ((((Blk.newAt (by simp)).alloc _).alloc _).alloc _).ext h1
  have B7 : Blk w1 (w.heap.size + 1 + 1) 48 #[.int .i64 q.x.lo, .int .i64 q.x.hi, .int .i64 q.y.lo, .int .i64 q.y.hi, .int .i64 q.u.lo, .int .i64 q.u.hi, .int .i64 q.v.lo, .int .i64 q.v.hi] := (((Blk.newAt (by simp)).alloc _).alloc _).ext h1
  have B8 : Blk w1 (w.heap.size + 1 + 1 + 1) 32 #[.int .i64 0, .int .i64 0, .int .i64 0, .int .i64 0] := ((Blk.newAt (by simp)).alloc _).ext h1
  have B9 : Blk w1 (w.heap.size + 1 + 1 + 1 + 1) 32 #[.int .i64 0, .int .i64 0, .int .i64 0, .int .i64 0] := (Blk.newAt (by simp)).ext h1
  have E : Ext w w1 := ext_by
  clear h1 HV
  have c_B4 := B4.cell; have f_B4 := B4.frozen; have l_B4 := B4.lt; have c_B6 := B6.cell; have f_B6 := B6.frozen; have l_B6 := B6.lt; have c_B7 := B7.cell; have f_B7 := B7.frozen; have l_B7 := B7.lt; have c_B8 := B8.cell; have f_B8 := B8.frozen; have l_B8 := B8.lt; have c_B9 := B9.cell; have f_B9 := B9.frozen; have l_B9 := B9.lt
  go_wp2_with fail
  refine (HP.out _).mono ?_
  rintro e w2 ⟨rfl, h2⟩
  clear c_B4 f_B4 l_B4 c_B6 f_B6 l_B6 c_B7 f_B7 l_B7 c_B8 f_B8 l_B8 c_B9 f_B9 l_B9
  replace B4 := B4.ext h2; replace B6 := B6.ext h2; replace B7 := B7.ext h2; replace B8 := B8.ext h2; replace B9 := B9.ext h2; have c_B4 := B4.cell; have f_B4 := B4.frozen; have l_B4 := B4.lt; have c_B6 := B6.cell; have f_B6 := B6.frozen; have l_B6 := B6.lt; have c_B7 := B7.cell; have f_B7 := B7.frozen; have l_B7 := B7.lt; have c_B8 := B8.cell; have f_B8 := B8.frozen; have l_B8 := B8.lt; have c_B9 := B9.cell; have f_B9 := B9.frozen; have l_B9 := B9.lt
  replace E := E.trans h2
  clear h2
  go_wp2_with fail
  refine (HQ.out _).mono ?_
  rintro e w3 ⟨rfl, h3⟩
  clear c_B4 f_B4 l_B4 c_B6 f_B6 l_B6 c_B7 f_B7 l_B7 c_B8 f_B8 l_B8 c_B9 f_B9 l_B9
  replace B4 := B4.ext h3; replace B6 := B6.ext h3; replace B7 := B7.ext h3; replace B8 := B8.ext h3; replace B9 := B9.ext h3; have c_B4 := B4.cell; have f_B4 := B4.frozen; have l_B4 := B4.lt; have c_B6 := B6.cell; have f_B6 := B6.frozen; have l_B6 := B6.lt; have c_B7 := B7.cell; have f_B7 := B7.frozen; have l_B7 := B7.lt; have c_B8 := B8.cell; have f_B8 := B8.frozen; have l_B8 := B8.lt; have c_B9 := B9.cell; have f_B9 := B9.frozen; have l_B9 := B9.lt
  replace E := E.trans h3
  clear h3
  go_wp2_with fail
  refine wp_region_freeT 9 [] (by kernel_rfl) (by kernel_rfl) (by intro q hq; cases hq) ?_
  simp only [List.take_succ_cons, List.take_zero, List.drop_succ_cons, List.drop_zero]
  (repeat' (first | (refine fb_off (by rfl) (by rfl) ?_; simp only [putX]) | (apply fb_op; rfl; rfl; (intro w1 h1; obtain ⟨hc, hf, hz⟩ := bcell h1; go_simp; (try go_bits); (first | exact ⟨rfl, Ext.refl _⟩ | (apply gives_call; first | (go_at_call 161; exact HA.out _ _ _ ext_by (by assumption))) | (go_invoke; go_simp; apply gives_call; first | (go_at_call 161; exact HA.out _ _ _ ext_by (by assumption))))); simp only [putX]) | (apply fb_slice; rfl; rfl; (intro w1 h1; obtain ⟨hc, hf, hz⟩ := bcell h1; go_simp; first | rfl | exact ⟨⟨rfl, rfl⟩, rfl⟩)) | (apply fb_alloc; rfl; rfl; (intro w1 h1; go_simp; first | rfl | exact ⟨rfl, rfl⟩)) | (apply fb_use; rfl; (intro u; rfl); (rintro u w1 h1 ⟨b, rfl, hB⟩; obtain ⟨hc, hf, hz⟩ := bcell h1; go_simp; (first | exact ⟨rfl, Ext.refl _⟩)); simp only [putX]) | (refine fb_split rfl rfl (fun hx => ?_) (fun hx => ?_) <;> simp only [hx])))
  refine fb_nil ⟨(by intro q hq; cases hq), ?_⟩
  intro val w4 h4 hg hne
  simp only [putV]
  clear hg hne 
  clear c_B4 f_B4 l_B4 c_B6 f_B6 l_B6 c_B7 f_B7 l_B7 c_B8 f_B8 l_B8 c_B9 f_B9 l_B9
  replace B8 := B8.ext h4; replace B9 := B9.ext h4; have c_B8 := B8.cell; have f_B8 := B8.frozen; have l_B8 := B8.lt; have c_B9 := B9.cell; have f_B9 := B9.frozen; have l_B9 := B9.lt
  have E4 := E.trans h4
  clear h4 E B4 B6 B7
  (try dsimp only); repeat' (first | go_values | go_skip | go_guarded | go_step | go_upon | go_in | go_at_K)
  refine name_world _ ?_
  intro W9 hW9
  have n89 : w.heap.size + 1 + 1 + 1 ≠ w.heap.size + 1 + 1 + 1 + 1 := by omega
  have Q8 : Blk W9 (w.heap.size + 1 + 1 + 1) 32 #[.int .i64 (areaM l home tick p).x.lo, .int .i64 (areaM l home tick p).x.hi, .int .i64 (areaM l home tick p).y.lo, .int .i64 (areaM l home tick p).y.hi] := by rw [hW9]; exact blk_far2 (blk_far2 (blk_set2 (blk_set2 B8 rfl) rfl) n89) n89
  have Q9 : Blk W9 (w.heap.size + 1 + 1 + 1 + 1) 32 #[.int .i64 (areaM l home (tick + 1) q).x.lo, .int .i64 (areaM l home (tick + 1) q).x.hi, .int .i64 (areaM l home (tick + 1) q).y.lo, .int .i64 (areaM l home (tick + 1) q).y.hi] := by rw [hW9]; exact blk_set2 (blk_set2 (blk_far2 (blk_far2 B9 n89.symm) n89.symm) rfl) rfl
  have QE : Ext w W9 := by rw [hW9]; exact ext_set2 (ext_set2 (ext_set2 (ext_set2 E4 (by omega)) (by omega)) (by omega)) (by omega)
  clear hW9
  have c_Q8 := Q8.cell; have f_Q8 := Q8.frozen; have l_Q8 := Q8.lt; have c_Q9 := Q9.cell; have f_Q9 := Q9.frozen; have l_Q9 := Q9.lt
  (try simp only [Exit.inBlock, Exit.then]); apply bodyPost_ret; (focus (simp only [results, Tryz.results80]; go_simp; try rfl)); rfl
  exact ⟨rfl, QE⟩
theorem mAreas_c (hl : Bodies w A n l) :
    Calls Tryz.prog 80 #[.agg #[.slice A n c, .int .i64 home], .int .i64 tick, .agg #[.int .i64 p.x.lo, .int .i64 p.x.hi, .int .i64 p.y.lo, .int .i64 p.y.hi, .int .i64 p.u.lo, .int .i64 p.u.hi, .int .i64 p.v.lo, .int .i64 p.v.hi], .agg #[.int .i64 q.x.lo, .int .i64 q.x.hi, .int .i64 q.y.lo, .int .i64 q.y.hi, .int .i64 q.u.lo, .int .i64 q.u.hi, .int .i64 q.v.lo, .int .i64 q.v.hi]] w fun e w' => e = .returned (areasV l home tick p q) ∧ Ext w w' := by
  unfold areasV
  cases h : areasOk l home tick p q
  · exact mAreas_no A n c home tick l p q w hl h
  · exact mAreas_yes A n c home tick l p q w hl h
end
end Go.Proofs.YtiladlangkjoiaaGreat

namespace Go.Proofs.YtiladlangkjoiaaGreat
open Go.RowKit


set_option maxHeartbeats 400000 in
theorem idxKey_c (A : Option Addr) (n c : Nat) (l : List Key) (fid : Nat) (cap : Array Value) (p : Key → Bool) (w : World) (hl : Keys w A n l)
    (hcall : ∀ (xs : Array Value) (W : World), (callFunc fid xs).run Tryz.prog W = .ok (.enter fid xs) W)
    (hf : ∀ x ∈ l, ∀ W, Ext w W → Calls Tryz.prog fid (#[.agg #[.int .i64 x.tick, .int .i64 x.line.lo, .int .i64 x.line.hi]] ++ cap) W fun e w' => e = .returned (.bool (p x)) ∧ Ext W w') :
    Calls Tryz.prog 240 #[.slice A n c, .func (.func fid) #[] cap] w fun e w' => e = .returned (.int .i64 (idxFrom p l 0)) ∧ Ext w w' := by
  have hn := hl.le
  have Hf := Lib.hid hf
  clear hf
  go_enter Tryz.func240, Tryz.ntmps240
  go_wp2_with fail
  go_loopw [8] (fun i wr => ∃ k : Nat, k ≤ n ∧ i = .int .i64 k ∧ Hid (idxFrom p (l.drop k) k = idxFrom p l 0) ∧ Ext w wr) (fun i _ => n - (intOf i).toNat)
  case atStart => exact ⟨0, Nat.zero_le _, rfl, rfl, Ext.refl _⟩
  case round =>
    obtain ⟨k, hk, rfl, HI, hb⟩ := hrel
    by_cases hlt : k < n
    · obtain ⟨b, off, x, rfl, HD, hxm, hx⟩ := hl.one hlt
      obtain ⟨hx0, hx1, hx2⟩ := keyAt.ext hb hx
      go_wp2_with fail
      refine (Hf.out x hxm _ hb).mono ?_
      rintro e w1 ⟨rfl, h1⟩
      cases hp : p x
      · go_wp2_with fail
        go_roundw
        case rel => exact ⟨k + 1, by omega, by go_num, by have := HI.out; rw [HD.out] at this; simpa [Hid, idxFrom, hp] using this, hb.trans h1⟩
        case measure => simp [intOf]; omega
      · go_wp2_with fail
        go_ret
        exact ⟨ret_i (by have := HI.out; rw [HD.out] at this; simpa [idxFrom, hp] using this), hb.trans h1⟩
    · have : k = l.length := by have := hl.len; omega
      subst this
      go_wp2_with fail
      go_ret
      refine ⟨ret_i ?_, hb⟩
      have := HI.out
      simpa [idxFrom] using this

set_option maxHeartbeats 400000 in
theorem hasKey_c (A : Option Addr) (n c : Nat) (l : List Key) (fid : Nat) (cap : Array Value) (p : Key → Bool) (w : World) (hl : Keys w A n l)
    (hcall : ∀ (xs : Array Value) (W : World), (callFunc fid xs).run Tryz.prog W = .ok (.enter fid xs) W)
    (hf : ∀ x ∈ l, ∀ W, Ext w W → Calls Tryz.prog fid (#[.agg #[.int .i64 x.tick, .int .i64 x.line.lo, .int .i64 x.line.hi]] ++ cap) W fun e w' => e = .returned (.bool (p x)) ∧ Ext W w') :
    Calls Tryz.prog 170 #[.slice A n c, .func (.func fid) #[] cap] w fun e w' => e = .returned (.bool (hasP p l)) ∧ Ext w w' := by
  have Hf := Lib.hid hf
  clear hf
  go_enter Tryz.func170, Tryz.ntmps170
  go_wp2_with fail
  refine (idxKey_c A n c l fid cap p w hl hcall Hf.out).mono ?_
  rintro e w1 ⟨rfl, h1⟩
  go_wp2_with fail
  go_ret
  exact ⟨ret_b (by simp [hasP]), h1⟩

set_option maxRecDepth 20000 in
set_option maxHeartbeats 4000000 in
theorem enters1_c (t lo hi tick slo shi : Int) (g1 g2 : Nat) (w : World) (hB1 : Blk w g1 2 #[.int .i64 tick]) (hB2 : Blk w g2 26 #[.int .i64 slo, .int .i64 shi]) :
    Calls Tryz.prog 171 #[.agg #[.int .i64 t, .int .i64 lo, .int .i64 hi], .pointer (some ⟨g1, 0, none⟩), .pointer (some ⟨g2, 0, none⟩)] w fun e w' => e = .returned (.bool (decide (t = tick) && decide (max lo slo ≤ min hi shi))) ∧ Ext w w' := by
  have c_hB1 := hB1.cell; have f_hB1 := hB1.frozen; have l_hB1 := hB1.lt; have c_hB2 := hB2.cell; have f_hB2 := hB2.frozen; have l_hB2 := hB2.lt
  go_enter Tryz.func171, Tryz.ntmps171
  go_wp2
  all_goals go_ret
  all_goals exact ⟨ret_b (by simp [*] <;> omega), ext_by⟩
set_option maxRecDepth 20000 in
set_option maxHeartbeats 4000000 in
theorem mEnters_c (A : Option Addr) (n c : Nat) (l : List Key) (tick slo shi : Int) (w : World) (hl : Keys w A n l) :
    Calls Tryz.prog 82 #[.slice A n c, .int .i64 tick, .agg #[.int .i64 slo, .int .i64 shi]] w fun e w' => e = .returned (.bool (entersB l tick ⟨slo, shi⟩)) ∧ Ext w w' := by
  have HH := Lib.hid fun g1 g2 W (hW : Ext w W) (hB1 : Blk W g1 2 #[.int .i64 tick]) (hB2 : Blk W g2 26 #[.int .i64 slo, .int .i64 shi]) => hasKey_c A n c l 171 #[.pointer (some ⟨g1, 0, none⟩), .pointer (some ⟨g2, 0, none⟩)] (fun k => decide (k.tick = tick) && decide (max k.line.lo slo ≤ min k.line.hi shi)) W (Keys.ext hW hl) Tryz.call171
    (fun x _ W2 hW2 => enters1_c x.tick x.line.lo x.line.hi tick slo shi g1 g2 W2 (hB1.ext hW2) (hB2.ext hW2))
  have hany : hasP (fun k : Key => decide (k.tick = tick) && decide (max k.line.lo slo ≤ min k.line.hi shi)) l = entersB l tick ⟨slo, shi⟩ := hasP_eq _ _
  rw [hany] at HH
  generalize entersB l tick ⟨slo, shi⟩ = R at *
  clear hl hany
  go_enter Tryz.func82, Tryz.ntmps82
  go_wp2_with fail
  refine (HH.out _ _ _ ext_by ((Blk.newAt (by simp)).alloc _) (Blk.newAt (by simp))).mono ?_
  rintro e w1 ⟨rfl, h1⟩; obtain ⟨hc_w1, hf_w1, hz_w1⟩ := bcell h1; (try simp only [szA] at hz_w1); have : w.heap.size < w1.heap.size := (by omega); have : w.heap.size + 1 < w1.heap.size := (by omega)
  go_wp2_with fail
  go_ret
  exact ⟨rfl, ext_by⟩
section
variable (A : Option Addr) (n c : Nat) (home tick : Int) (l : List Body) (p q : Bx) (w : World)
set_option maxRecDepth 20000 in
set_option maxHeartbeats 4000000 in
theorem mMay_c (r : Int) (hl : Bodies w A n l) :
    Calls Tryz.prog 251 #[.agg #[.slice A n c, .int .i64 home], .int .i64 tick, .agg #[.int .i64 p.x.lo, .int .i64 p.x.hi, .int .i64 p.y.lo, .int .i64 p.y.hi, .int .i64 p.u.lo, .int .i64 p.u.hi, .int .i64 p.v.lo, .int .i64 p.v.hi], .agg #[.int .i64 q.x.lo, .int .i64 q.x.hi, .int .i64 q.y.lo, .int .i64 q.y.hi, .int .i64 q.u.lo, .int .i64 q.u.hi, .int .i64 q.v.lo, .int .i64 q.v.hi], .int .i64 r] w fun e w' => e = .returned (.bool (mayB l home tick p q r)) ∧ Ext w w' := by
  have HA := Lib.hid fun W (hW : Ext w W) => mAreas_c A n c home tick l p q W (Bodies.ext hW hl)
  unfold mayB
  unfold areasV at HA
  generalize areasOk l home tick p q = ok at *
  have HC := Lib.hid fun W => spClear_c (areaM l home tick p) (areaM l home (tick + 1) q) r W
  cases ok
  · simp only [Bool.false_eq_true, if_false] at HA
    unfold arV zeroA at HA
    dsimp only at HA
    clear hl HC
    go_enter Tryz.func251, Tryz.ntmps251
    go_wp2_with fail
    refine (HA.out _ ext_by).mono ?_
    rintro e w1 ⟨rfl, h1⟩
    have E1 : Ext w w1 := ext_by
    clear h1 HA
    go_wp2_with fail
    go_ret
    exact ⟨rfl, ext_by⟩
  · simp only [if_true] at HA
    generalize clearB _ _ _ = R at *
    generalize areaM l home tick p = a1 at *
    generalize areaM l home (tick + 1) q = a2 at *
    obtain ⟨⟨x1, x2⟩, x3, x4⟩ := a1
    obtain ⟨⟨y1, y2⟩, y3, y4⟩ := a2
    unfold arV at HA
    dsimp only at HA HC
    clear hl
    go_enter Tryz.func251, Tryz.ntmps251
    go_wp2_with fail
    refine (HA.out _ ext_by).mono ?_
    rintro e w1 ⟨rfl, h1⟩
    have E1 : Ext w w1 := ext_by
    have z1 := E1.size
    clear h1 HA
    go_wp2_with fail
    refine (HC.out _).mono ?_
    rintro e w2 ⟨rfl, h2⟩
    go_wp2_with fail
    go_ret
    exact ⟨ret_b (by simp), ext_by⟩
end
end Go.Proofs.YtiladlangkjoiaaGreat
