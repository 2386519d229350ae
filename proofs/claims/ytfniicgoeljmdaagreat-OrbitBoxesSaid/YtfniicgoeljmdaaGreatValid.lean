/- What the checks of sights compute, of the program and of the reference. No condition. What a valid sky gives, in plain words. -/
import Derived.Test.YtfniicgoeljmdaaGreatFind
namespace Go.Proofs.YtfniicgoeljmdaaGreat
open Go.RowKit

def dirErr (x : Sight) : Bool := !near ⟨x.dx, x.dy⟩ 4096 || (x.dx == 0 && x.dy == 0) || !within x.err 0 500000
def sightErr (s : Sky) (x : Sight) : Int :=
  if x.kind < 1 ∨ 3 < x.kind then 4
  else if within x.tick 0 1073741824 = false then 2
  else if (stnOf s.stations x.station).isSome = false then 7
  else if x.kind = 2 then (if x.lo < 0 ∨ x.hi < x.lo ∨ 134217728 < x.hi then 2 else 0)
  else if (catOf s.catalogs x.catalog).isSome = false then 7
  else if dirErr x = true then 2
  else if x.kind = 3 then (if within x.hi 1 134217728 = false then 2 else 0)
  else 0
def sightErr2 (s : Sky) (x : Sight) : Int := if skyErr s ≠ 0 then skyErr s else sightErr s x

set_option maxRecDepth 4000 in
set_option maxHeartbeats 2000000 in
theorem CheckSight_c (A1 : Option Addr) (n1 c1 : Nat) (home : Int) (A2 : Option Addr) (n2 c2 : Nat) (A3 : Option Addr) (n3 c3 : Nat) (s : Sky) (kind st cat tick dx dy er lo hi : Int) (w : World) (hs : IsSky w A1 n1 home A2 n2 A3 n3 s) :
    Calls Tryz.prog 117 #[.agg #[.slice A1 n1 c1, .int .i64 home, .slice A2 n2 c2, .slice A3 n3 c3], .agg #[.int .i64 kind, .int .i64 st, .int .i64 cat, .int .i64 tick, .int .i64 dx, .int .i64 dy, .int .i64 er, .int .i64 lo, .int .i64 hi]] w fun e w' =>
      e = .returned (.int .i64 (sightErr2 s ⟨kind, st, cat, tick, dx, dy, er, lo, hi⟩)) ∧ Ext w w' := by
  go_enter Tryz.func117, Tryz.ntmps117
  go_wp2_with (first
    | (go_at_call 103; refine (Check_c _ _ _ _ _ _ _ _ _ _ s _ (IsSky.ext (by (repeat' (first | exact Ext.refl _ | assumption | apply Ext.alloc | apply Ext.drew | refine Ext.set ?_ (by dsimp only; omega) _ | refine Ext.trans ?_ (by assumption)))) hs)).mono ?_; rintro e w1 ⟨rfl, h1⟩; obtain ⟨hc_w1, hf_w1, hz_w1⟩ := bcell h1; (repeat (first | rw [World.size_alloc] at hz_w1 | rw [World.size_drew] at hz_w1 | rw [World.size_setCell] at hz_w1)); have : w.heap.size < w1.heap.size := (by omega); have : w.heap.size + 1 < w1.heap.size := (by omega))
    | (go_at_call 152; refine (within_c _ _ _ _).mono ?_; rintro e w' ⟨rfl, rfl⟩)
    | (go_at_call 118; refine (near_c _ _ _ _ (by omega) (by omega)).mono ?_; rintro e w1 ⟨rfl, h1⟩; obtain ⟨hc_w1, hf_w1, hz_w1⟩ := bcell h1; (repeat (first | rw [World.size_alloc] at hz_w1 | rw [World.size_drew] at hz_w1 | rw [World.size_setCell] at hz_w1)); have : w.heap.size < w1.heap.size := (by omega); have : w.heap.size + 1 < w1.heap.size := (by omega))
    | (go_at_call 153; refine (station_c _ _ _ _ _ _ _ _ _ _ _ s.stations _ (IsSky.ext (by (repeat' (first | exact Ext.refl _ | assumption | apply Ext.alloc | apply Ext.drew | refine Ext.set ?_ (by dsimp only; omega) _ | refine Ext.trans ?_ (by assumption)))) hs).stations).mono ?_; rintro e w1 ⟨rfl, h1⟩; obtain ⟨hc_w1, hf_w1, hz_w1⟩ := bcell h1; (repeat (first | rw [World.size_alloc] at hz_w1 | rw [World.size_drew] at hz_w1 | rw [World.size_setCell] at hz_w1)); have : w.heap.size < w1.heap.size := (by omega); have : w.heap.size + 1 < w1.heap.size := (by omega))
    | (go_at_call 154; refine (catalog_c _ _ _ _ _ _ _ _ _ _ _ s.catalogs _ (IsSky.ext (by (repeat' (first | exact Ext.refl _ | assumption | apply Ext.alloc | apply Ext.drew | refine Ext.set ?_ (by dsimp only; omega) _ | refine Ext.trans ?_ (by assumption)))) hs).catalogs).mono ?_; rintro e w1 ⟨rfl, h1⟩; obtain ⟨hc_w1, hf_w1, hz_w1⟩ := bcell h1; (repeat (first | rw [World.size_alloc] at hz_w1 | rw [World.size_drew] at hz_w1 | rw [World.size_setCell] at hz_w1)); have : w.heap.size < w1.heap.size := (by omega); have : w.heap.size + 1 < w1.heap.size := (by omega)))
  all_goals go_ret
  all_goals refine ⟨ret_i ?_, by (repeat' (first | exact Ext.refl _ | assumption | apply Ext.alloc | apply Ext.drew | refine Ext.set ?_ (by dsimp only; omega) _ | refine Ext.trans ?_ (by assumption)))⟩
  all_goals clear hs
  all_goals (first | (simp_all [sightErr2, sightErr, dirErr]; done) | (simp_all [sightErr2, sightErr]; omega))

theorem stn_neg (l : List Stn) (id : Int) : (idxFrom (fun x : Stn => x.id == id) l 0 < 0 → (stnOf l id).isSome = false) ∧ (0 ≤ idxFrom (fun x : Stn => x.id == id) l 0 → (stnOf l id).isSome = true) := by
  rcases idx_cases (fun x : Stn => x.id == id) l with ⟨h1, h2⟩ | ⟨i, x, _, h1, _, h2⟩
  · simp only [stnOf, h1, h2]; simp
  · simp only [stnOf, h1, h2]; simp
theorem cat_neg (l : List Cat) (id : Int) : (idxFrom (fun x : Cat => x.version == id) l 0 < 0 → (catOf l id).isSome = false) ∧ (0 ≤ idxFrom (fun x : Cat => x.version == id) l 0 → (catOf l id).isSome = true) := by
  rcases idx_cases (fun x : Cat => x.version == id) l with ⟨h1, h2⟩ | ⟨i, x, _, h1, _, h2⟩
  · simp only [catOf, h1, h2]; simp
  · simp only [catOf, h1, h2]; simp

set_option maxRecDepth 4000 in
set_option maxHeartbeats 2000000 in
theorem refSight_c (A1 : Option Addr) (n1 c1 : Nat) (home : Int) (A2 : Option Addr) (n2 c2 : Nat) (A3 : Option Addr) (n3 c3 : Nat) (s : Sky) (kind st cat tick dx dy er lo hi : Int) (w : World) (hs : IsSky w A1 n1 home A2 n2 A3 n3 s) :
    Calls Tryz.prog 187 #[.agg #[.slice A1 n1 c1, .int .i64 home, .slice A2 n2 c2, .slice A3 n3 c3], .agg #[.int .i64 kind, .int .i64 st, .int .i64 cat, .int .i64 tick, .int .i64 dx, .int .i64 dy, .int .i64 er, .int .i64 lo, .int .i64 hi]] w fun e w' =>
      e = .returned (.int .i64 (sightErr s ⟨kind, st, cat, tick, dx, dy, er, lo, hi⟩)) ∧ Ext w w' := by
  have H1 := Lib.hid (stn_neg s.stations st)
  have H2 := Lib.hid (cat_neg s.catalogs cat)
  go_enter Tryz.func187, Tryz.ntmps187
  go_wp2_with (first
    | (go_at_call 133; refine (between_c _ _ _ _).mono ?_; rintro e w' ⟨rfl, rfl⟩)
    | (go_at_call 150; refine (refStation_c _ _ _ _ _ _ _ _ _ _ _ s.stations _ (IsSky.ext (by (repeat' (first | exact Ext.refl _ | assumption | apply Ext.alloc | apply Ext.drew | refine Ext.set ?_ (by dsimp only; omega) _ | refine Ext.trans ?_ (by assumption)))) hs).stations).mono ?_; rintro e w1 ⟨rfl, h1⟩; obtain ⟨hc_w1, hf_w1, hz_w1⟩ := bcell h1; (repeat (first | rw [World.size_alloc] at hz_w1 | rw [World.size_drew] at hz_w1 | rw [World.size_setCell] at hz_w1)); have : w.heap.size < w1.heap.size := (by omega); have : w.heap.size + 1 < w1.heap.size := (by omega))
    | (go_at_call 219; refine (refCatalog_c _ _ _ _ _ _ _ _ _ _ _ s.catalogs _ (IsSky.ext (by (repeat' (first | exact Ext.refl _ | assumption | apply Ext.alloc | apply Ext.drew | refine Ext.set ?_ (by dsimp only; omega) _ | refine Ext.trans ?_ (by assumption)))) hs).catalogs).mono ?_; rintro e w1 ⟨rfl, h1⟩; obtain ⟨hc_w1, hf_w1, hz_w1⟩ := bcell h1; (repeat (first | rw [World.size_alloc] at hz_w1 | rw [World.size_drew] at hz_w1 | rw [World.size_setCell] at hz_w1)); have : w.heap.size < w1.heap.size := (by omega); have : w.heap.size + 1 < w1.heap.size := (by omega)))
  all_goals go_ret
  all_goals refine ⟨ret_i ?_, by (repeat' (first | exact Ext.refl _ | assumption | apply Ext.alloc | apply Ext.drew | refine Ext.set ?_ (by dsimp only; omega) _ | refine Ext.trans ?_ (by assumption)))⟩
  all_goals clear hs
  all_goals (have h1 := H1.out.1; have h2 := H2.out.1; have h3 := H1.out.2; have h4 := H2.out.2; clear H1 H2)
  all_goals first | (simp_all [sightErr, dirErr, near]; done) | (simp_all [sightErr]; omega)

set_option maxHeartbeats 400000 in
theorem refCheckSight_c (A1 : Option Addr) (n1 c1 : Nat) (home : Int) (A2 : Option Addr) (n2 c2 : Nat) (A3 : Option Addr) (n3 c3 : Nat) (s : Sky) (kind st cat tick dx dy er lo hi : Int) (w : World) (hs : IsSky w A1 n1 home A2 n2 A3 n3 s) :
    Calls Tryz.prog 148 #[.agg #[.slice A1 n1 c1, .int .i64 home, .slice A2 n2 c2, .slice A3 n3 c3], .agg #[.int .i64 kind, .int .i64 st, .int .i64 cat, .int .i64 tick, .int .i64 dx, .int .i64 dy, .int .i64 er, .int .i64 lo, .int .i64 hi]] w fun e w' =>
      e = .returned (.int .i64 (sightErr2 s ⟨kind, st, cat, tick, dx, dy, er, lo, hi⟩)) ∧ Ext w w' := by
  go_enter Tryz.func148, Tryz.ntmps148
  go_wp2_with (first
    | (go_at_call 112; refine (refCheck_c _ _ _ _ _ _ _ _ _ _ s _ (IsSky.ext (by (repeat' (first | exact Ext.refl _ | assumption | apply Ext.alloc | apply Ext.drew | refine Ext.set ?_ (by dsimp only; omega) _ | refine Ext.trans ?_ (by assumption)))) hs)).mono ?_; rintro e w1 ⟨rfl, h1⟩; obtain ⟨hc_w1, hf_w1, hz_w1⟩ := bcell h1; (repeat (first | rw [World.size_alloc] at hz_w1 | rw [World.size_drew] at hz_w1 | rw [World.size_setCell] at hz_w1)); have : w.heap.size < w1.heap.size := (by omega); have : w.heap.size + 1 < w1.heap.size := (by omega))
    | (go_at_call 187; refine (refSight_c _ _ _ _ _ _ _ _ _ _ s _ _ _ _ _ _ _ _ _ _ (IsSky.ext (by (repeat' (first | exact Ext.refl _ | assumption | apply Ext.alloc | apply Ext.drew | refine Ext.set ?_ (by dsimp only; omega) _ | refine Ext.trans ?_ (by assumption)))) hs)).mono ?_; rintro e w1 ⟨rfl, h1⟩; obtain ⟨hc_w1, hf_w1, hz_w1⟩ := bcell h1; (repeat (first | rw [World.size_alloc] at hz_w1 | rw [World.size_drew] at hz_w1 | rw [World.size_setCell] at hz_w1)); have : w.heap.size < w1.heap.size := (by omega); have : w.heap.size + 1 < w1.heap.size := (by omega)))
  all_goals go_ret
  all_goals refine ⟨ret_i ?_, by (repeat' (first | exact Ext.refl _ | assumption | apply Ext.alloc | apply Ext.drew | refine Ext.set ?_ (by dsimp only; omega) _ | refine Ext.trans ?_ (by assumption)))⟩
  all_goals (simp_all [sightErr2])
end Go.Proofs.YtfniicgoeljmdaaGreat

namespace Go.Proofs.YtfniicgoeljmdaaGreat
open Go.RowKit

theorem within_iff (n lo hi : Int) : within n lo hi = true ↔ lo ≤ n ∧ n ≤ hi := by simp [within]
theorem near_iff (p : Vec) (m : Int) : near p m = true ↔ (-m ≤ p.x ∧ p.x ≤ m) ∧ (-m ≤ p.y ∧ p.y ≤ m) := by simp [near, within]
theorem body_ok {b : Body} (h : bodyErr b = 0) : 0 < b.track.length ∧ b.track.length ≤ 4096 ∧ (0 ≤ b.mu ∧ b.mu ≤ 1125899906842624) ∧ (0 ≤ b.radius ∧ b.radius ≤ 1048576) ∧ ∀ p ∈ b.track, near p 33554432 = true := by
  rw [bodyErr] at h
  by_cases h1 : (!(within b.mu 0 1125899906842624) || !(within b.radius 0 1048576)) = true
  · rw [if_pos h1] at h; omega
  rw [if_neg h1] at h
  by_cases h2 : b.track.length = 0
  · rw [if_pos h2] at h; omega
  rw [if_neg h2] at h
  by_cases h3 : 4096 < b.track.length
  · rw [if_pos h3] at h; omega
  rw [if_neg h3] at h
  by_cases h4 : hasP (fun p => !near p 33554432) b.track = true
  · rw [if_pos h4] at h; omega
  rw [hasP_eq] at h4
  simp [within_iff] at h1 h4
  exact ⟨by omega, by omega, h1.1, h1.2, h4⟩
theorem bodies_ok : ∀ {l : List Body}, bodiesErr l = 0 → ∀ b ∈ l, bodyErr b = 0
  | [], _, _, h => by simp at h
  | c :: r, h, b, hb => by
    rw [bodiesErr] at h
    by_cases h0 : bodyErr c = 0
    · rw [if_pos h0] at h
      rcases List.mem_cons.1 hb with rfl | hb
      · exact h0
      · exact bodies_ok h b hb
    · rw [if_neg h0] at h; exact absurd h h0
theorem wld_ok {w : Wld} (h : wldErr w = 0) : (∃ k : Nat, w.home = k ∧ k < w.bodies.length) ∧ w.bodies.length ≤ 8 ∧ ∀ b ∈ w.bodies, bodyErr b = 0 := by
  rw [wldErr] at h
  by_cases h1 : w.bodies.length = 0
  · rw [if_pos h1] at h; omega
  rw [if_neg h1] at h
  by_cases h2 : 8 < w.bodies.length
  · rw [if_pos h2] at h; omega
  rw [if_neg h2] at h
  by_cases h3 : bodiesErr w.bodies = 0
  · rw [if_neg (by simpa using h3)] at h
    by_cases h4 : w.home < 0 ∨ (w.bodies.length : Int) ≤ w.home
    · rw [if_pos h4] at h; omega
    · exact ⟨⟨w.home.toNat, by omega, by omega⟩, by omega, bodies_ok h3⟩
  · rw [if_pos h3] at h; exact absurd h h3
theorem stns_ok : ∀ {l : List Stn} {last : Int}, stnsErr l last = 0 → ∀ x ∈ l, near x.off 1048576 = true
  | [], _, _, _, h => by simp at h
  | c :: r, last, h, b, hb => by
    rw [stnsErr] at h
    by_cases h0 : c.id ≤ last
    · rw [if_pos h0] at h; omega
    rw [if_neg h0] at h
    cases h1 : near c.off 1048576
    · rw [h1] at h; simp at h
    · rw [h1] at h
      simp at h
      rcases List.mem_cons.1 hb with rfl | hb
      · exact h1
      · exact stns_ok h b hb
theorem cats_ok : ∀ {l : List Cat} {last : Int}, catsErr l last = 0 → ∀ x ∈ l, -500000 ≤ x.lo ∧ x.lo ≤ x.hi ∧ x.hi ≤ 500000
  | [], _, _, _, h => by simp at h
  | c :: r, last, h, b, hb => by
    rw [catsErr] at h
    by_cases h0 : c.version ≤ last
    · rw [if_pos h0] at h; omega
    rw [if_neg h0] at h
    by_cases h1 : c.lo < -500000 ∨ c.hi < c.lo ∨ 500000 < c.hi
    · rw [if_pos h1] at h; omega
    · rw [if_neg h1] at h
      rcases List.mem_cons.1 hb with rfl | hb
      · omega
      · exact cats_ok h b hb
theorem sky_ok {s : Sky} (h : skyErr s = 0) : wldErr s.world = 0 ∧ (∀ x ∈ s.stations, near x.off 1048576 = true) ∧ (∀ x ∈ s.catalogs, -500000 ≤ x.lo ∧ x.lo ≤ x.hi ∧ x.hi ≤ 500000) := by
  rw [skyErr] at h
  by_cases h1 : wldErr s.world = 0
  · rw [if_neg (by simpa using h1)] at h
    by_cases h2 : 16 < s.stations.length
    · rw [if_pos h2] at h; omega
    rw [if_neg h2] at h
    by_cases h3 : stnsErr s.stations 0 = 0
    · rw [if_neg (by simpa using h3)] at h
      by_cases h4 : 8 < s.catalogs.length
      · rw [if_pos h4] at h; omega
      rw [if_neg h4] at h
      exact ⟨h1, stns_ok h3, cats_ok h⟩
    · rw [if_pos h3] at h; exact absurd h h3
  · rw [if_pos h1] at h; exact absurd h h1

/-- The place of a track at a tick. -/
def trackAt (l : List Vec) (tick : Int) : Vec := l.getD (tick.toNat % l.length) ⟨0, 0⟩
theorem trackAt_mem {l : List Vec} (h : 0 < l.length) (t : Int) : trackAt l t ∈ l := by
  unfold trackAt
  have := Nat.mod_lt t.toNat h
  rw [List.getD_eq_getElem?_getD, List.getElem?_eq_getElem this]
  exact List.getElem_mem this
theorem trackAt_get {l : List Vec} (h : 0 < l.length) (t : Nat) : l[t % l.length]? = some (trackAt l t) := by
  unfold trackAt
  have := Nat.mod_lt t h
  simp [List.getD_eq_getElem?_getD, List.getElem?_eq_getElem this]
/-- The place of Home. -/
def homeAt (s : Sky) (tick : Int) : Vec := trackAt (s.world.bodies.getD s.world.home.toNat ⟨0, 0, []⟩).track tick
theorem home_ok {s : Sky} (h : skyErr s = 0) (t : Int) : near (homeAt s t) 33554432 = true := by
  obtain ⟨⟨k, hk, hlt⟩, _, hb⟩ := wld_ok (sky_ok h).1
  have : s.world.bodies.getD s.world.home.toNat ⟨0, 0, []⟩ = s.world.bodies[k] := by
    rw [hk]; simp [List.getD_eq_getElem?_getD, List.getElem?_eq_getElem hlt]
  unfold homeAt
  rw [this]
  obtain ⟨h1, _, _, _, h2⟩ := body_ok (hb _ (List.getElem_mem hlt))
  exact h2 _ (trackAt_mem h1 t)
def addV (p q : Vec) : Vec := ⟨p.x + q.x, p.y + q.y⟩
def whereM (s : Sky) (id tick : Int) : Option Vec :=
  if skyErr s = 0 ∧ within tick 0 1073741824 = true then (stnOf s.stations id).map fun x => addV (homeAt s tick) x.off else none
theorem stnOf_mem {l : List Stn} {id : Int} {x : Stn} (h : stnOf l id = some x) : x ∈ l := List.mem_of_find?_eq_some h
theorem catOf_mem {l : List Cat} {id : Int} {x : Cat} (h : catOf l id = some x) : x ∈ l := List.mem_of_find?_eq_some h
end Go.Proofs.YtfniicgoeljmdaaGreat
