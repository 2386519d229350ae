/- Guesses, and whether they miss a sight. No condition. -/
import Derived.Test.YtmgjjgmadiabfaaRefMiss
namespace Go.Proofs.Ytmgjjgmadiabfaa
open Go.RowKit

def gOK (g : St) : Bool := near ⟨g.x, g.y⟩ 33554432 && near ⟨g.u, g.v⟩ 1048576
/-- The place of a guess. -/
def goes (g : St) (t0 t : Int) : Vec := ⟨g.x + g.u * (t - t0), g.y + g.v * (t - t0)⟩
def fitsM (s : Sky) (x : Sight) (g : St) (t0 : Int) : Bool := near (goes g t0 x.tick) 33554432 && agreesM s x (goes g t0 x.tick).x (goes g t0 x.tick).y
/-- The bounds of a guess and two ticks. -/
structure GB (g : St) (t0 t : Int) : Prop where
  x : -33554432 ≤ g.x ∧ g.x ≤ 33554432
  y : -33554432 ≤ g.y ∧ g.y ≤ 33554432
  n : -1073741824 ≤ t - t0 ∧ t - t0 ≤ 1073741824
  u : -1125899906842624 ≤ g.u * (t - t0) ∧ g.u * (t - t0) ≤ 1125899906842624
  v : -1125899906842624 ≤ g.v * (t - t0) ∧ g.v * (t - t0) ≤ 1125899906842624
theorem gb_of {g : St} {t0 t : Int} (hg : gOK g = true) (h0 : within t0 0 1073741824 = true) (h : 0 ≤ t ∧ t ≤ 1073741824) : GB g t0 t := by
  simp only [gOK, Bool.and_eq_true] at hg
  have h1 := (near_iff _ _).1 hg.1
  have h2 := (near_iff _ _).1 hg.2
  have h3 := (within_iff _ _ _).1 h0
  dsimp only at h1 h2
  have hn : -1073741824 ≤ t - t0 ∧ t - t0 ≤ 1073741824 := by omega
  exact ⟨h1.1, h1.2, hn, mul_bd h2.1 hn, mul_bd h2.2 hn⟩

set_option maxHeartbeats 400000 in
theorem valid_c (gx gy gu gv : Int) (w : World) :
    Calls Try.prog 79 #[.agg #[.int .i64 gx, .int .i64 gy, .int .i64 gu, .int .i64 gv]] w fun e w' => e = .returned (.bool (gOK ⟨gx, gy, gu, gv⟩)) ∧ Ext w w' := by
  unfold gOK
  have H1 := Lib.hid fun W => near_c gx gy 33554432 W (by omega) (by omega)
  have H2 := Lib.hid fun W => near_c gu gv 1048576 W (by omega) (by omega)
  dsimp only
  generalize near ⟨gx, gy⟩ 33554432 = B1 at *
  generalize near ⟨gu, gv⟩ 1048576 = B2 at *
  go_enter Try.func79, Try.ntmps79
  go_wp2_with fail
  refine (H1.out _).mono ?_
  rintro e w1 ⟨rfl, h1⟩; obtain ⟨hc_w1, hf_w1, hz_w1⟩ := bcell h1; (repeat (first | rw [World.size_alloc] at hz_w1 | rw [World.size_drew] at hz_w1 | rw [World.size_setCell] at hz_w1)); have : w.heap.size < w1.heap.size := (by omega)
  cases B1
  · go_wp2_with fail
    go_ret
    exact ⟨ret_b (by simp), by (repeat' (first | exact Ext.refl _ | assumption | apply Ext.alloc | apply Ext.drew | refine Ext.set ?_ (by dsimp only; omega) _ | refine Ext.trans ?_ (by assumption)))⟩
  · go_wp2_with fail
    refine (H2.out _).mono ?_
    rintro e w2 ⟨rfl, h2⟩; obtain ⟨hc_w2, hf_w2, hz_w2⟩ := bcell h2; (repeat (first | rw [World.size_alloc] at hz_w2 | rw [World.size_drew] at hz_w2 | rw [World.size_setCell] at hz_w2)); have : w.heap.size < w2.heap.size := (by omega)
    go_wp2_with fail
    go_ret
    exact ⟨ret_b (by simp), by (repeat' (first | exact Ext.refl _ | assumption | apply Ext.alloc | apply Ext.drew | refine Ext.set ?_ (by dsimp only; omega) _ | refine Ext.trans ?_ (by assumption)))⟩

set_option maxHeartbeats 400000 in
theorem Guess_c (gx gy gu gv : Int) (w : World) :
    Calls Try.prog 81 #[.agg #[.int .i64 gx, .int .i64 gy, .int .i64 gu, .int .i64 gv]] w fun e w' => e = .returned (.bool (gOK ⟨gx, gy, gu, gv⟩)) ∧ Ext w w' := by
  unfold gOK
  have H1 := Lib.hid fun W => Near_c gx gy W
  dsimp only
  generalize near ⟨gx, gy⟩ 33554432 = B1 at *
  go_enter Try.func81, Try.ntmps81
  go_wp2_with fail
  refine (H1.out _).mono ?_
  rintro e w1 ⟨rfl, h1⟩; obtain ⟨hc_w1, hf_w1, hz_w1⟩ := bcell h1; (repeat (first | rw [World.size_alloc] at hz_w1 | rw [World.size_drew] at hz_w1 | rw [World.size_setCell] at hz_w1)); have : w.heap.size < w1.heap.size := (by omega)
  cases B1
  · go_wp2_with fail
    go_ret
    exact ⟨ret_b (by simp), by (repeat' (first | exact Ext.refl _ | assumption | apply Ext.alloc | apply Ext.drew | refine Ext.set ?_ (by dsimp only; omega) _ | refine Ext.trans ?_ (by assumption)))⟩
  · go_wp2_with (go_at_call 73; refine (between_c _ _ _ _).mono ?_; rintro e w' ⟨rfl, rfl⟩)
    all_goals go_ret
    all_goals exact ⟨ret_b (by simp_all [near]), by (repeat' (first | exact Ext.refl _ | assumption | apply Ext.alloc | apply Ext.drew | refine Ext.set ?_ (by dsimp only; omega) _ | refine Ext.trans ?_ (by assumption)))⟩

set_option maxHeartbeats 400000 in
theorem goes_c (gx gy gu gv : Int) (t0 t : Int) (w : World) (hb : GB ⟨gx, gy, gu, gv⟩ t0 t) :
    Calls Try.prog 121 #[.agg #[.int .i64 gx, .int .i64 gy, .int .i64 gu, .int .i64 gv, .int .i64 t0], .int .i64 t] w fun e w' => e = .returned (.agg #[.int .i64 (goes ⟨gx, gy, gu, gv⟩ t0 t).x, .int .i64 (goes ⟨gx, gy, gu, gv⟩ t0 t).y]) ∧ Ext w w' := by
  obtain ⟨⟨h1, h2⟩, ⟨h3, h4⟩, ⟨h5, h6⟩, ⟨h7, h8⟩, h9, h10⟩ := hb
  unfold goes
  dsimp only at *
  go_enter Try.func121, Try.ntmps121
  go_wp2_with fail
  (try simp only [Exit.inBlock, Exit.then]); apply bodyPost_ret; (focus (simp only [results, Try.results121]; go_simp; try rfl)); rfl
  exact ⟨rfl, by (repeat' (first | exact Ext.refl _ | assumption | apply Ext.alloc | apply Ext.drew | refine Ext.set ?_ (by dsimp only; omega) _ | refine Ext.trans ?_ (by assumption)))⟩
end Go.Proofs.Ytmgjjgmadiabfaa
