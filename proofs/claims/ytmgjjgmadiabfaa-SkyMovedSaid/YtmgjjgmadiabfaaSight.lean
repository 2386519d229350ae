/- What the checks of sights compute, of the program and of the reference. No condition. -/
import Derived.Test.YtmgjjgmadiabfaaFind
namespace Go.Proofs.Ytmgjjgmadiabfaa
open Go.RowKit

def dirErr (x : Sight) : Bool := !near ⟨x.dx, x.dy⟩ 4096 || (x.dx == 0 && x.dy == 0) || !within x.err 0 500000
def sightErr (s : Sky) (x : Sight) : Int :=
  if x.kind < 1 ∨ 3 < x.kind then 4
  else if within x.tick 0 1073741824 = false then 2
  else if (stnOf s.stations x.station).isSome = false then 7
  else if x.kind = 2 then (if x.lo < 0 ∨ x.hi < x.lo ∨ 134217728 < x.hi then 2 else 0)
  else if (catOf s.catalogs x.catalog).isSome = false then 7
  else if dirErr x = true then 2
  else if x.kind = 3 then (if within x.hi 1 134217728 = false then 2 else 0)
  else 0
def sightErr2 (s : Sky) (x : Sight) : Int := if skyErr s ≠ 0 then skyErr s else sightErr s x

set_option maxRecDepth 4000 in
set_option maxHeartbeats 2000000 in
theorem CheckSight_c (A1 : Option Addr) (n1 c1 : Nat) (home : Int) (A2 : Option Addr) (n2 c2 : Nat) (A3 : Option Addr) (n3 c3 : Nat) (s : Sky) (kind st cat tick dx dy er lo hi : Int) (w : World) (hs : IsSky w A1 n1 home A2 n2 A3 n3 s) :
    Calls Try.prog 19 #[.agg #[.slice A1 n1 c1, .int .i64 home, .slice A2 n2 c2, .slice A3 n3 c3], .agg #[.int .i64 kind, .int .i64 st, .int .i64 cat, .int .i64 tick, .int .i64 dx, .int .i64 dy, .int .i64 er, .int .i64 lo, .int .i64 hi]] w fun e w' =>
      e = .returned (.int .i64 (sightErr2 s ⟨kind, st, cat, tick, dx, dy, er, lo, hi⟩)) ∧ Ext w w' := by
  go_enter Try.func19, Try.ntmps19
  go_wp2_with (first
    | (go_at_call 30; refine (Check_c _ _ _ _ _ _ _ _ _ _ s _ (IsSky.ext (by (repeat' (first | exact Ext.refl _ | assumption | apply Ext.alloc | apply Ext.drew | refine Ext.set ?_ (by dsimp only; omega) _ | refine Ext.trans ?_ (by assumption)))) hs)).mono ?_; rintro e w1 ⟨rfl, h1⟩; obtain ⟨hc_w1, hf_w1, hz_w1⟩ := bcell h1; (repeat (first | rw [World.size_alloc] at hz_w1 | rw [World.size_drew] at hz_w1 | rw [World.size_setCell] at hz_w1)); have : w.heap.size < w1.heap.size := (by omega); have : w.heap.size + 1 < w1.heap.size := (by omega))
    | (go_at_call 57; refine (within_c _ _ _ _).mono ?_; rintro e w' ⟨rfl, rfl⟩)
    | (go_at_call 60; refine (near_c _ _ _ _ (by omega) (by omega)).mono ?_; rintro e w1 ⟨rfl, h1⟩; obtain ⟨hc_w1, hf_w1, hz_w1⟩ := bcell h1; (repeat (first | rw [World.size_alloc] at hz_w1 | rw [World.size_drew] at hz_w1 | rw [World.size_setCell] at hz_w1)); have : w.heap.size < w1.heap.size := (by omega); have : w.heap.size + 1 < w1.heap.size := (by omega))
    | (go_at_call 58; refine (station_c _ _ _ _ _ _ _ _ _ _ _ s.stations _ (IsSky.ext (by (repeat' (first | exact Ext.refl _ | assumption | apply Ext.alloc | apply Ext.drew | refine Ext.set ?_ (by dsimp only; omega) _ | refine Ext.trans ?_ (by assumption)))) hs).stations).mono ?_; rintro e w1 ⟨rfl, h1⟩; obtain ⟨hc_w1, hf_w1, hz_w1⟩ := bcell h1; (repeat (first | rw [World.size_alloc] at hz_w1 | rw [World.size_drew] at hz_w1 | rw [World.size_setCell] at hz_w1)); have : w.heap.size < w1.heap.size := (by omega); have : w.heap.size + 1 < w1.heap.size := (by omega))
    | (go_at_call 59; refine (catalog_c _ _ _ _ _ _ _ _ _ _ _ s.catalogs _ (IsSky.ext (by (repeat' (first | exact Ext.refl _ | assumption | apply Ext.alloc | apply Ext.drew | refine Ext.set ?_ (by dsimp only; omega) _ | refine Ext.trans ?_ (by assumption)))) hs).catalogs).mono ?_; rintro e w1 ⟨rfl, h1⟩; obtain ⟨hc_w1, hf_w1, hz_w1⟩ := bcell h1; (repeat (first | rw [World.size_alloc] at hz_w1 | rw [World.size_drew] at hz_w1 | rw [World.size_setCell] at hz_w1)); have : w.heap.size < w1.heap.size := (by omega); have : w.heap.size + 1 < w1.heap.size := (by omega)))
  all_goals go_ret
  all_goals refine ⟨ret_i ?_, by (repeat' (first | exact Ext.refl _ | assumption | apply Ext.alloc | apply Ext.drew | refine Ext.set ?_ (by dsimp only; omega) _ | refine Ext.trans ?_ (by assumption)))⟩
  all_goals clear hs
  all_goals (first | (simp_all [sightErr2, sightErr, dirErr]; done) | (simp_all [sightErr2, sightErr]; omega))

theorem stn_neg (l : List Stn) (id : Int) : (idxFrom (fun x : Stn => x.id == id) l 0 < 0 → (stnOf l id).isSome = false) ∧ (0 ≤ idxFrom (fun x : Stn => x.id == id) l 0 → (stnOf l id).isSome = true) := by
  rcases idx_cases (fun x : Stn => x.id == id) l with ⟨h1, h2⟩ | ⟨i, x, _, h1, _, h2⟩
  · simp only [stnOf, h1, h2]; simp
  · simp only [stnOf, h1, h2]; simp
theorem cat_neg (l : List Cat) (id : Int) : (idxFrom (fun x : Cat => x.version == id) l 0 < 0 → (catOf l id).isSome = false) ∧ (0 ≤ idxFrom (fun x : Cat => x.version == id) l 0 → (catOf l id).isSome = true) := by
  rcases idx_cases (fun x : Cat => x.version == id) l with ⟨h1, h2⟩ | ⟨i, x, _, h1, _, h2⟩
  · simp only [catOf, h1, h2]; simp
  · simp only [catOf, h1, h2]; simp

set_option maxRecDepth 4000 in
set_option maxHeartbeats 2000000 in
theorem refSight_c (A1 : Option Addr) (n1 c1 : Nat) (home : Int) (A2 : Option Addr) (n2 c2 : Nat) (A3 : Option Addr) (n3 c3 : Nat) (s : Sky) (kind st cat tick dx dy er lo hi : Int) (w : World) (hs : IsSky w A1 n1 home A2 n2 A3 n3 s) :
    Calls Try.prog 61 #[.agg #[.slice A1 n1 c1, .int .i64 home, .slice A2 n2 c2, .slice A3 n3 c3], .agg #[.int .i64 kind, .int .i64 st, .int .i64 cat, .int .i64 tick, .int .i64 dx, .int .i64 dy, .int .i64 er, .int .i64 lo, .int .i64 hi]] w fun e w' =>
      e = .returned (.int .i64 (sightErr s ⟨kind, st, cat, tick, dx, dy, er, lo, hi⟩)) ∧ Ext w w' := by
  have H1 := Lib.hid (stn_neg s.stations st)
  have H2 := Lib.hid (cat_neg s.catalogs cat)
  go_enter Try.func61, Try.ntmps61
  go_wp2_with (first
    | (go_at_call 73; refine (between_c _ _ _ _).mono ?_; rintro e w' ⟨rfl, rfl⟩)
    | (go_at_call 72; refine (refStation_c _ _ _ _ _ _ _ _ _ _ _ s.stations _ (IsSky.ext (by (repeat' (first | exact Ext.refl _ | assumption | apply Ext.alloc | apply Ext.drew | refine Ext.set ?_ (by dsimp only; omega) _ | refine Ext.trans ?_ (by assumption)))) hs).stations).mono ?_; rintro e w1 ⟨rfl, h1⟩; obtain ⟨hc_w1, hf_w1, hz_w1⟩ := bcell h1; (repeat (first | rw [World.size_alloc] at hz_w1 | rw [World.size_drew] at hz_w1 | rw [World.size_setCell] at hz_w1)); have : w.heap.size < w1.heap.size := (by omega); have : w.heap.size + 1 < w1.heap.size := (by omega))
    | (go_at_call 110; refine (refCatalog_c _ _ _ _ _ _ _ _ _ _ _ s.catalogs _ (IsSky.ext (by (repeat' (first | exact Ext.refl _ | assumption | apply Ext.alloc | apply Ext.drew | refine Ext.set ?_ (by dsimp only; omega) _ | refine Ext.trans ?_ (by assumption)))) hs).catalogs).mono ?_; rintro e w1 ⟨rfl, h1⟩; obtain ⟨hc_w1, hf_w1, hz_w1⟩ := bcell h1; (repeat (first | rw [World.size_alloc] at hz_w1 | rw [World.size_drew] at hz_w1 | rw [World.size_setCell] at hz_w1)); have : w.heap.size < w1.heap.size := (by omega); have : w.heap.size + 1 < w1.heap.size := (by omega)))
  all_goals go_ret
  all_goals refine ⟨ret_i ?_, by (repeat' (first | exact Ext.refl _ | assumption | apply Ext.alloc | apply Ext.drew | refine Ext.set ?_ (by dsimp only; omega) _ | refine Ext.trans ?_ (by assumption)))⟩
  all_goals clear hs
  all_goals (have h1 := H1.out.1; have h2 := H2.out.1; have h3 := H1.out.2; have h4 := H2.out.2; clear H1 H2)
  all_goals first | (simp_all [sightErr, dirErr, near]; done) | (simp_all [sightErr]; omega)

set_option maxHeartbeats 400000 in
theorem refCheckSight_c (A1 : Option Addr) (n1 c1 : Nat) (home : Int) (A2 : Option Addr) (n2 c2 : Nat) (A3 : Option Addr) (n3 c3 : Nat) (s : Sky) (kind st cat tick dx dy er lo hi : Int) (w : World) (hs : IsSky w A1 n1 home A2 n2 A3 n3 s) :
    Calls Try.prog 20 #[.agg #[.slice A1 n1 c1, .int .i64 home, .slice A2 n2 c2, .slice A3 n3 c3], .agg #[.int .i64 kind, .int .i64 st, .int .i64 cat, .int .i64 tick, .int .i64 dx, .int .i64 dy, .int .i64 er, .int .i64 lo, .int .i64 hi]] w fun e w' =>
      e = .returned (.int .i64 (sightErr2 s ⟨kind, st, cat, tick, dx, dy, er, lo, hi⟩)) ∧ Ext w w' := by
  go_enter Try.func20, Try.ntmps20
  go_wp2_with (first
    | (go_at_call 31; refine (refCheck_c _ _ _ _ _ _ _ _ _ _ s _ (IsSky.ext (by (repeat' (first | exact Ext.refl _ | assumption | apply Ext.alloc | apply Ext.drew | refine Ext.set ?_ (by dsimp only; omega) _ | refine Ext.trans ?_ (by assumption)))) hs)).mono ?_; rintro e w1 ⟨rfl, h1⟩; obtain ⟨hc_w1, hf_w1, hz_w1⟩ := bcell h1; (repeat (first | rw [World.size_alloc] at hz_w1 | rw [World.size_drew] at hz_w1 | rw [World.size_setCell] at hz_w1)); have : w.heap.size < w1.heap.size := (by omega); have : w.heap.size + 1 < w1.heap.size := (by omega))
    | (go_at_call 61; refine (refSight_c _ _ _ _ _ _ _ _ _ _ s _ _ _ _ _ _ _ _ _ _ (IsSky.ext (by (repeat' (first | exact Ext.refl _ | assumption | apply Ext.alloc | apply Ext.drew | refine Ext.set ?_ (by dsimp only; omega) _ | refine Ext.trans ?_ (by assumption)))) hs)).mono ?_; rintro e w1 ⟨rfl, h1⟩; obtain ⟨hc_w1, hf_w1, hz_w1⟩ := bcell h1; (repeat (first | rw [World.size_alloc] at hz_w1 | rw [World.size_drew] at hz_w1 | rw [World.size_setCell] at hz_w1)); have : w.heap.size < w1.heap.size := (by omega); have : w.heap.size + 1 < w1.heap.size := (by omega)))
  all_goals go_ret
  all_goals refine ⟨ret_i ?_, by (repeat' (first | exact Ext.refl _ | assumption | apply Ext.alloc | apply Ext.drew | refine Ext.set ?_ (by dsimp only; omega) _ | refine Ext.trans ?_ (by assumption)))⟩
  all_goals (simp_all [sightErr2])
end Go.Proofs.Ytmgjjgmadiabfaa
