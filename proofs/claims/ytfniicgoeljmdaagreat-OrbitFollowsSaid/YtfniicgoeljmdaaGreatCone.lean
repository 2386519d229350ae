/- What the checks of sights compute, of the program and of the reference. No condition. What a valid sky gives, in plain words. Where stations are at a tick, of the program and of the reference. Cones, distances and looks: what the program computes within its bounds, where nothing wraps. -/
import Derived.Test.YtfniicgoeljmdaaGreatFind
namespace Go.Proofs.YtfniicgoeljmdaaGreat
open Go.RowKit

def dirErr (x : Sight) : Bool := !near ⟨x.dx, x.dy⟩ 4096 || (x.dx == 0 && x.dy == 0) || !within x.err 0 500000
def sightErr (s : Sky) (x : Sight) : Int :=
  if x.kind < 1 ∨ 3 < x.kind then 4
  else if within x.tick 0 1073741824 = false then 2
  else if (stnOf s.stations x.station).isSome = false then 7
  else if x.kind = 2 then (if x.lo < 0 ∨ x.hi < x.lo ∨ 134217728 < x.hi then 2 else 0)
  else if (catOf s.catalogs x.catalog).isSome = false then 7
  else if dirErr x = true then 2
  else if x.kind = 3 then (if within x.hi 1 134217728 = false then 2 else 0)
  else 0
def sightErr2 (s : Sky) (x : Sight) : Int := if skyErr s ≠ 0 then skyErr s else sightErr s x

set_option maxRecDepth 4000 in
set_option maxHeartbeats 2000000 in
theorem CheckSight_c (A1 : Option Addr) (n1 c1 : Nat) (home : Int) (A2 : Option Addr) (n2 c2 : Nat) (A3 : Option Addr) (n3 c3 : Nat) (s : Sky) (kind st cat tick dx dy er lo hi : Int) (w : World) (hs : IsSky w A1 n1 home A2 n2 A3 n3 s) :
    Calls Tryz.prog 117 #[.agg #[.slice A1 n1 c1, .int .i64 home, .slice A2 n2 c2, .slice A3 n3 c3], .agg #[.int .i64 kind, .int .i64 st, .int .i64 cat, .int .i64 tick, .int .i64 dx, .int .i64 dy, .int .i64 er, .int .i64 lo, .int .i64 hi]] w fun e w' =>
      e = .returned (.int .i64 (sightErr2 s ⟨kind, st, cat, tick, dx, dy, er, lo, hi⟩)) ∧ Ext w w' := by
  go_enter Tryz.func117, Tryz.ntmps117
  go_wp2_with (first
    | (go_at_call 103; refine (Check_c _ _ _ _ _ _ _ _ _ _ s _ (IsSky.ext (by (repeat' (first | exact Ext.refl _ | assumption | apply Ext.alloc | apply Ext.drew | refine Ext.set ?_ (by dsimp only; omega) _ | refine Ext.trans ?_ (by assumption)))) hs)).mono ?_; rintro e w1 ⟨rfl, h1⟩; obtain ⟨hc_w1, hf_w1, hz_w1⟩ := bcell h1; (repeat (first | rw [World.size_alloc] at hz_w1 | rw [World.size_drew] at hz_w1 | rw [World.size_setCell] at hz_w1)); have : w.heap.size < w1.heap.size := (by omega); have : w.heap.size + 1 < w1.heap.size := (by omega))
    | (go_at_call 152; refine (within_c _ _ _ _).mono ?_; rintro e w' ⟨rfl, rfl⟩)
    | (go_at_call 118; refine (near_c _ _ _ _ (by omega) (by omega)).mono ?_; rintro e w1 ⟨rfl, h1⟩; obtain ⟨hc_w1, hf_w1, hz_w1⟩ := bcell h1; (repeat (first | rw [World.size_alloc] at hz_w1 | rw [World.size_drew] at hz_w1 | rw [World.size_setCell] at hz_w1)); have : w.heap.size < w1.heap.size := (by omega); have : w.heap.size + 1 < w1.heap.size := (by omega))
    | (go_at_call 153; refine (station_c _ _ _ _ _ _ _ _ _ _ _ s.stations _ (IsSky.ext (by (repeat' (first | exact Ext.refl _ | assumption | apply Ext.alloc | apply Ext.drew | refine Ext.set ?_ (by dsimp only; omega) _ | refine Ext.trans ?_ (by assumption)))) hs).stations).mono ?_; rintro e w1 ⟨rfl, h1⟩; obtain ⟨hc_w1, hf_w1, hz_w1⟩ := bcell h1; (repeat (first | rw [World.size_alloc] at hz_w1 | rw [World.size_drew] at hz_w1 | rw [World.size_setCell] at hz_w1)); have : w.heap.size < w1.heap.size := (by omega); have : w.heap.size + 1 < w1.heap.size := (by omega))
    | (go_at_call 154; refine (catalog_c _ _ _ _ _ _ _ _ _ _ _ s.catalogs _ (IsSky.ext (by (repeat' (first | exact Ext.refl _ | assumption | apply Ext.alloc | apply Ext.drew | refine Ext.set ?_ (by dsimp only; omega) _ | refine Ext.trans ?_ (by assumption)))) hs).catalogs).mono ?_; rintro e w1 ⟨rfl, h1⟩; obtain ⟨hc_w1, hf_w1, hz_w1⟩ := bcell h1; (repeat (first | rw [World.size_alloc] at hz_w1 | rw [World.size_drew] at hz_w1 | rw [World.size_setCell] at hz_w1)); have : w.heap.size < w1.heap.size := (by omega); have : w.heap.size + 1 < w1.heap.size := (by omega)))
  all_goals go_ret
  all_goals refine ⟨ret_i ?_, by (repeat' (first | exact Ext.refl _ | assumption | apply Ext.alloc | apply Ext.drew | refine Ext.set ?_ (by dsimp only; omega) _ | refine Ext.trans ?_ (by assumption)))⟩
  all_goals clear hs
  all_goals (first | (simp_all [sightErr2, sightErr, dirErr]; done) | (simp_all [sightErr2, sightErr]; omega))

theorem stn_neg (l : List Stn) (id : Int) : (idxFrom (fun x : Stn => x.id == id) l 0 < 0 → (stnOf l id).isSome = false) ∧ (0 ≤ idxFrom (fun x : Stn => x.id == id) l 0 → (stnOf l id).isSome = true) := by
  rcases idx_cases (fun x : Stn => x.id == id) l with ⟨h1, h2⟩ | ⟨i, x, _, h1, _, h2⟩
  · simp only [stnOf, h1, h2]; simp
  · simp only [stnOf, h1, h2]; simp
theorem cat_neg (l : List Cat) (id : Int) : (idxFrom (fun x : Cat => x.version == id) l 0 < 0 → (catOf l id).isSome = false) ∧ (0 ≤ idxFrom (fun x : Cat => x.version == id) l 0 → (catOf l id).isSome = true) := by
  rcases idx_cases (fun x : Cat => x.version == id) l with ⟨h1, h2⟩ | ⟨i, x, _, h1, _, h2⟩
  · simp only [catOf, h1, h2]; simp
  · simp only [catOf, h1, h2]; simp

set_option maxRecDepth 4000 in
set_option maxHeartbeats 2000000 in
theorem refSight_c (A1 : Option Addr) (n1 c1 : Nat) (home : Int) (A2 : Option Addr) (n2 c2 : Nat) (A3 : Option Addr) (n3 c3 : Nat) (s : Sky) (kind st cat tick dx dy er lo hi : Int) (w : World) (hs : IsSky w A1 n1 home A2 n2 A3 n3 s) :
    Calls Tryz.prog 187 #[.agg #[.slice A1 n1 c1, .int .i64 home, .slice A2 n2 c2, .slice A3 n3 c3], .agg #[.int .i64 kind, .int .i64 st, .int .i64 cat, .int .i64 tick, .int .i64 dx, .int .i64 dy, .int .i64 er, .int .i64 lo, .int .i64 hi]] w fun e w' =>
      e = .returned (.int .i64 (sightErr s ⟨kind, st, cat, tick, dx, dy, er, lo, hi⟩)) ∧ Ext w w' := by
  have H1 := Lib.hid (stn_neg s.stations st)
  have H2 := Lib.hid (cat_neg s.catalogs cat)
  go_enter Tryz.func187, Tryz.ntmps187
  go_wp2_with (first
    | (go_at_call 133; refine (between_c _ _ _ _).mono ?_; rintro e w' ⟨rfl, rfl⟩)
    | (go_at_call 150; refine (refStation_c _ _ _ _ _ _ _ _ _ _ _ s.stations _ (IsSky.ext (by (repeat' (first | exact Ext.refl _ | assumption | apply Ext.alloc | apply Ext.drew | refine Ext.set ?_ (by dsimp only; omega) _ | refine Ext.trans ?_ (by assumption)))) hs).stations).mono ?_; rintro e w1 ⟨rfl, h1⟩; obtain ⟨hc_w1, hf_w1, hz_w1⟩ := bcell h1; (repeat (first | rw [World.size_alloc] at hz_w1 | rw [World.size_drew] at hz_w1 | rw [World.size_setCell] at hz_w1)); have : w.heap.size < w1.heap.size := (by omega); have : w.heap.size + 1 < w1.heap.size := (by omega))
    | (go_at_call 219; refine (refCatalog_c _ _ _ _ _ _ _ _ _ _ _ s.catalogs _ (IsSky.ext (by (repeat' (first | exact Ext.refl _ | assumption | apply Ext.alloc | apply Ext.drew | refine Ext.set ?_ (by dsimp only; omega) _ | refine Ext.trans ?_ (by assumption)))) hs).catalogs).mono ?_; rintro e w1 ⟨rfl, h1⟩; obtain ⟨hc_w1, hf_w1, hz_w1⟩ := bcell h1; (repeat (first | rw [World.size_alloc] at hz_w1 | rw [World.size_drew] at hz_w1 | rw [World.size_setCell] at hz_w1)); have : w.heap.size < w1.heap.size := (by omega); have : w.heap.size + 1 < w1.heap.size := (by omega)))
  all_goals go_ret
  all_goals refine ⟨ret_i ?_, by (repeat' (first | exact Ext.refl _ | assumption | apply Ext.alloc | apply Ext.drew | refine Ext.set ?_ (by dsimp only; omega) _ | refine Ext.trans ?_ (by assumption)))⟩
  all_goals clear hs
  all_goals (have h1 := H1.out.1; have h2 := H2.out.1; have h3 := H1.out.2; have h4 := H2.out.2; clear H1 H2)
  all_goals first | (simp_all [sightErr, dirErr, near]; done) | (simp_all [sightErr]; omega)

set_option maxHeartbeats 400000 in
theorem refCheckSight_c (A1 : Option Addr) (n1 c1 : Nat) (home : Int) (A2 : Option Addr) (n2 c2 : Nat) (A3 : Option Addr) (n3 c3 : Nat) (s : Sky) (kind st cat tick dx dy er lo hi : Int) (w : World) (hs : IsSky w A1 n1 home A2 n2 A3 n3 s) :
    Calls Tryz.prog 148 #[.agg #[.slice A1 n1 c1, .int .i64 home, .slice A2 n2 c2, .slice A3 n3 c3], .agg #[.int .i64 kind, .int .i64 st, .int .i64 cat, .int .i64 tick, .int .i64 dx, .int .i64 dy, .int .i64 er, .int .i64 lo, .int .i64 hi]] w fun e w' =>
      e = .returned (.int .i64 (sightErr2 s ⟨kind, st, cat, tick, dx, dy, er, lo, hi⟩)) ∧ Ext w w' := by
  go_enter Tryz.func148, Tryz.ntmps148
  go_wp2_with (first
    | (go_at_call 112; refine (refCheck_c _ _ _ _ _ _ _ _ _ _ s _ (IsSky.ext (by (repeat' (first | exact Ext.refl _ | assumption | apply Ext.alloc | apply Ext.drew | refine Ext.set ?_ (by dsimp only; omega) _ | refine Ext.trans ?_ (by assumption)))) hs)).mono ?_; rintro e w1 ⟨rfl, h1⟩; obtain ⟨hc_w1, hf_w1, hz_w1⟩ := bcell h1; (repeat (first | rw [World.size_alloc] at hz_w1 | rw [World.size_drew] at hz_w1 | rw [World.size_setCell] at hz_w1)); have : w.heap.size < w1.heap.size := (by omega); have : w.heap.size + 1 < w1.heap.size := (by omega))
    | (go_at_call 187; refine (refSight_c _ _ _ _ _ _ _ _ _ _ s _ _ _ _ _ _ _ _ _ _ (IsSky.ext (by (repeat' (first | exact Ext.refl _ | assumption | apply Ext.alloc | apply Ext.drew | refine Ext.set ?_ (by dsimp only; omega) _ | refine Ext.trans ?_ (by assumption)))) hs)).mono ?_; rintro e w1 ⟨rfl, h1⟩; obtain ⟨hc_w1, hf_w1, hz_w1⟩ := bcell h1; (repeat (first | rw [World.size_alloc] at hz_w1 | rw [World.size_drew] at hz_w1 | rw [World.size_setCell] at hz_w1)); have : w.heap.size < w1.heap.size := (by omega); have : w.heap.size + 1 < w1.heap.size := (by omega)))
  all_goals go_ret
  all_goals refine ⟨ret_i ?_, by (repeat' (first | exact Ext.refl _ | assumption | apply Ext.alloc | apply Ext.drew | refine Ext.set ?_ (by dsimp only; omega) _ | refine Ext.trans ?_ (by assumption)))⟩
  all_goals (simp_all [sightErr2])
end Go.Proofs.YtfniicgoeljmdaaGreat

namespace Go.Proofs.YtfniicgoeljmdaaGreat
open Go.RowKit

theorem within_iff (n lo hi : Int) : within n lo hi = true ↔ lo ≤ n ∧ n ≤ hi := by simp [within]
theorem near_iff (p : Vec) (m : Int) : near p m = true ↔ (-m ≤ p.x ∧ p.x ≤ m) ∧ (-m ≤ p.y ∧ p.y ≤ m) := by simp [near, within]
theorem body_ok {b : Body} (h : bodyErr b = 0) : 0 < b.track.length ∧ b.track.length ≤ 4096 ∧ (0 ≤ b.mu ∧ b.mu ≤ 1125899906842624) ∧ (0 ≤ b.radius ∧ b.radius ≤ 1048576) ∧ ∀ p ∈ b.track, near p 33554432 = true := by
  rw [bodyErr] at h
  by_cases h1 : (!(within b.mu 0 1125899906842624) || !(within b.radius 0 1048576)) = true
  · rw [if_pos h1] at h; omega
  rw [if_neg h1] at h
  by_cases h2 : b.track.length = 0
  · rw [if_pos h2] at h; omega
  rw [if_neg h2] at h
  by_cases h3 : 4096 < b.track.length
  · rw [if_pos h3] at h; omega
  rw [if_neg h3] at h
  by_cases h4 : hasP (fun p => !near p 33554432) b.track = true
  · rw [if_pos h4] at h; omega
  rw [hasP_eq] at h4
  simp [within_iff] at h1 h4
  exact ⟨by omega, by omega, h1.1, h1.2, h4⟩
theorem bodies_ok : ∀ {l : List Body}, bodiesErr l = 0 → ∀ b ∈ l, bodyErr b = 0
  | [], _, _, h => by simp at h
  | c :: r, h, b, hb => by
    rw [bodiesErr] at h
    by_cases h0 : bodyErr c = 0
    · rw [if_pos h0] at h
      rcases List.mem_cons.1 hb with rfl | hb
      · exact h0
      · exact bodies_ok h b hb
    · rw [if_neg h0] at h; exact absurd h h0
theorem wld_ok {w : Wld} (h : wldErr w = 0) : (∃ k : Nat, w.home = k ∧ k < w.bodies.length) ∧ w.bodies.length ≤ 8 ∧ ∀ b ∈ w.bodies, bodyErr b = 0 := by
  rw [wldErr] at h
  by_cases h1 : w.bodies.length = 0
  · rw [if_pos h1] at h; omega
  rw [if_neg h1] at h
  by_cases h2 : 8 < w.bodies.length
  · rw [if_pos h2] at h; omega
  rw [if_neg h2] at h
  by_cases h3 : bodiesErr w.bodies = 0
  · rw [if_neg (by simpa using h3)] at h
    by_cases h4 : w.home < 0 ∨ (w.bodies.length : Int) ≤ w.home
    · rw [if_pos h4] at h; omega
    · exact ⟨⟨w.home.toNat, by omega, by omega⟩, by omega, bodies_ok h3⟩
  · rw [if_pos h3] at h; exact absurd h h3
theorem stns_ok : ∀ {l : List Stn} {last : Int}, stnsErr l last = 0 → ∀ x ∈ l, near x.off 1048576 = true
  | [], _, _, _, h => by simp at h
  | c :: r, last, h, b, hb => by
    rw [stnsErr] at h
    by_cases h0 : c.id ≤ last
    · rw [if_pos h0] at h; omega
    rw [if_neg h0] at h
    cases h1 : near c.off 1048576
    · rw [h1] at h; simp at h
    · rw [h1] at h
      simp at h
      rcases List.mem_cons.1 hb with rfl | hb
      · exact h1
      · exact stns_ok h b hb
theorem cats_ok : ∀ {l : List Cat} {last : Int}, catsErr l last = 0 → ∀ x ∈ l, -500000 ≤ x.lo ∧ x.lo ≤ x.hi ∧ x.hi ≤ 500000
  | [], _, _, _, h => by simp at h
  | c :: r, last, h, b, hb => by
    rw [catsErr] at h
    by_cases h0 : c.version ≤ last
    · rw [if_pos h0] at h; omega
    rw [if_neg h0] at h
    by_cases h1 : c.lo < -500000 ∨ c.hi < c.lo ∨ 500000 < c.hi
    · rw [if_pos h1] at h; omega
    · rw [if_neg h1] at h
      rcases List.mem_cons.1 hb with rfl | hb
      · omega
      · exact cats_ok h b hb
theorem sky_ok {s : Sky} (h : skyErr s = 0) : wldErr s.world = 0 ∧ (∀ x ∈ s.stations, near x.off 1048576 = true) ∧ (∀ x ∈ s.catalogs, -500000 ≤ x.lo ∧ x.lo ≤ x.hi ∧ x.hi ≤ 500000) := by
  rw [skyErr] at h
  by_cases h1 : wldErr s.world = 0
  · rw [if_neg (by simpa using h1)] at h
    by_cases h2 : 16 < s.stations.length
    · rw [if_pos h2] at h; omega
    rw [if_neg h2] at h
    by_cases h3 : stnsErr s.stations 0 = 0
    · rw [if_neg (by simpa using h3)] at h
      by_cases h4 : 8 < s.catalogs.length
      · rw [if_pos h4] at h; omega
      rw [if_neg h4] at h
      exact ⟨h1, stns_ok h3, cats_ok h⟩
    · rw [if_pos h3] at h; exact absurd h h3
  · rw [if_pos h1] at h; exact absurd h h1

/-- The place of a track at a tick. -/
def trackAt (l : List Vec) (tick : Int) : Vec := l.getD (tick.toNat % l.length) ⟨0, 0⟩
theorem trackAt_mem {l : List Vec} (h : 0 < l.length) (t : Int) : trackAt l t ∈ l := by
  unfold trackAt
  have := Nat.mod_lt t.toNat h
  rw [List.getD_eq_getElem?_getD, List.getElem?_eq_getElem this]
  exact List.getElem_mem this
theorem trackAt_get {l : List Vec} (h : 0 < l.length) (t : Nat) : l[t % l.length]? = some (trackAt l t) := by
  unfold trackAt
  have := Nat.mod_lt t h
  simp [List.getD_eq_getElem?_getD, List.getElem?_eq_getElem this]
/-- The place of Home. -/
def homeAt (s : Sky) (tick : Int) : Vec := trackAt (s.world.bodies.getD s.world.home.toNat ⟨0, 0, []⟩).track tick
theorem home_ok {s : Sky} (h : skyErr s = 0) (t : Int) : near (homeAt s t) 33554432 = true := by
  obtain ⟨⟨k, hk, hlt⟩, _, hb⟩ := wld_ok (sky_ok h).1
  have : s.world.bodies.getD s.world.home.toNat ⟨0, 0, []⟩ = s.world.bodies[k] := by
    rw [hk]; simp [List.getD_eq_getElem?_getD, List.getElem?_eq_getElem hlt]
  unfold homeAt
  rw [this]
  obtain ⟨h1, _, _, _, h2⟩ := body_ok (hb _ (List.getElem_mem hlt))
  exact h2 _ (trackAt_mem h1 t)
def addV (p q : Vec) : Vec := ⟨p.x + q.x, p.y + q.y⟩
def whereM (s : Sky) (id tick : Int) : Option Vec :=
  if skyErr s = 0 ∧ within tick 0 1073741824 = true then (stnOf s.stations id).map fun x => addV (homeAt s tick) x.off else none
theorem stnOf_mem {l : List Stn} {id : Int} {x : Stn} (h : stnOf l id = some x) : x ∈ l := List.mem_of_find?_eq_some h
theorem catOf_mem {l : List Cat} {id : Int} {x : Cat} (h : catOf l id = some x) : x ∈ l := List.mem_of_find?_eq_some h
end Go.Proofs.YtfniicgoeljmdaaGreat

namespace Go.Proofs.YtfniicgoeljmdaaGreat
open Go.RowKit

set_option maxHeartbeats 400000 in
theorem trackat_c (A : Option Addr) (n c : Nat) (l : List Vec) (tick : Int) (w : World) (hl : Vecs w A n l) (h0 : 0 < l.length) (ht : 0 ≤ tick) (ht2 : tick ≤ 1073741824) :
    Calls Tryz.prog 193 #[.slice A n c, .int .i64 tick] w fun e w' => e = .returned (.agg #[.int .i64 (trackAt l tick).x, .int .i64 (trackAt l tick).y]) ∧ Ext w w' := by
  obtain ⟨t, rfl⟩ := Int.eq_ofNat_of_zero_le ht
  have hn := hl.le
  have hg := trackAt_get h0 t
  obtain ⟨hi, b, off, rfl, hc⟩ := hl.get hg
  obtain ⟨p, hp⟩ : ∃ p, trackAt l (t : Int) = p := ⟨_, rfl⟩
  rw [hp] at hc ⊢
  obtain rfl := hl.len
  generalize l.length = n at *
  clear hg hp
  have h1 : (1 : Int) ≤ (n : Int) := by omega
  have hm := Nat.mod_lt t h0
  obtain ⟨hx, hy⟩ := vecAt.ext (Ext.alloc0 _ (.cells #[.int .i64 0, .int .i64 0] 85)) hc
  go_enter Tryz.func193, Tryz.ntmps193
  go_wp2_with fail
  (try simp only [Exit.inBlock, Exit.then]); apply bodyPost_ret; (focus (simp only [results, Tryz.results193]; go_simp; try rfl)); rfl
  exact ⟨rfl, by (repeat' (first | exact Ext.refl _ | assumption | apply Ext.alloc | apply Ext.drew | refine Ext.set ?_ (by dsimp only; omega) _ | refine Ext.trans ?_ (by assumption)))⟩

set_option maxHeartbeats 400000 in
theorem refat_c (A : Option Addr) (n c : Nat) (home : Int) (l : List Body) (i : Nat) (x : Body) (tick : Int) (w : World) (hl : Bodies w A n l) (hx : l[i]? = some x) (h0 : 0 < x.track.length) (ht : 0 ≤ tick) (ht2 : tick ≤ 1073741824) :
    Calls Tryz.prog 188 #[.agg #[.slice A n c, .int .i64 home], .int .i64 i, .int .i64 tick] w fun e w' => e = .returned (.agg #[.int .i64 (trackAt x.track tick).x, .int .i64 (trackAt x.track tick).y]) ∧ Ext w w' := by
  obtain ⟨t, rfl⟩ := Int.eq_ofNat_of_zero_le ht
  have hn := hl.le
  obtain ⟨hin, b, off, rfl, hc⟩ := hl.get hx
  obtain ⟨_, _, A', n', c', hc2, hl'⟩ := hc
  have hn' := hl'.le
  have hg := trackAt_get h0 t
  obtain ⟨hi', b', off', rfl, hc'⟩ := hl'.get hg
  obtain ⟨p, hp⟩ : ∃ p, trackAt x.track (t : Int) = p := ⟨_, rfl⟩
  rw [hp] at hc' ⊢
  obtain rfl := hl'.len
  generalize x.track.length = n' at *
  clear hg hp
  have h1 : (1 : Int) ≤ (n' : Int) := by omega
  have hm := Nat.mod_lt t h0
  obtain ⟨hx1, hy1⟩ := hc'
  have hb0 : b < w.heap.size := World.block_lt_of_cell? w _ hc2
  have hb1 : b < w.heap.size + 1 := by omega
  have hb2 : b' < w.heap.size := World.block_lt_of_cell? w _ hx1
  have hb3 : b' < w.heap.size + 1 := by omega
  clear hl' hl
  go_enter Tryz.func188, Tryz.ntmps188
  go_wp2_with fail
  (try simp only [Exit.inBlock, Exit.then]); apply bodyPost_ret; (focus (simp only [results, Tryz.results188]; go_simp; try rfl)); rfl
  exact ⟨rfl, by (repeat' (first | exact Ext.refl _ | assumption | apply Ext.alloc | apply Ext.drew | refine Ext.set ?_ (by dsimp only; omega) _ | refine Ext.trans ?_ (by assumption)))⟩

/-- A body of a valid sky: Home's, and its track. -/
theorem home_get {s : Sky} (h : skyErr s = 0) : ∃ (k : Nat) (x : Body), s.world.home = k ∧ s.world.bodies[k]? = some x ∧ 0 < x.track.length ∧ ∀ t, homeAt s t = trackAt x.track t := by
  obtain ⟨⟨k, hk, hlt⟩, _, hb⟩ := wld_ok (sky_ok h).1
  have h1 : s.world.bodies[k]? = some s.world.bodies[k] := List.getElem?_eq_getElem hlt
  refine ⟨k, _, hk, h1, (body_ok (hb _ (List.getElem_mem hlt))).1, fun t => ?_⟩
  unfold homeAt
  rw [hk, Int.toNat_natCast, List.getD_eq_getElem?_getD, h1]
  rfl

set_option maxRecDepth 4000 in
set_option maxHeartbeats 1000000 in
theorem refwhere_c (A1 : Option Addr) (n1 c1 : Nat) (home : Int) (A2 : Option Addr) (n2 c2 : Nat) (A3 : Option Addr) (n3 c3 : Nat) (s : Sky) (i : Nat) (x : Stn) (tick : Int) (w : World) (hs : IsSky w A1 n1 home A2 n2 A3 n3 s)
    (hok : skyErr s = 0) (hx : s.stations[i]? = some x) (ht : 0 ≤ tick) (ht2 : tick ≤ 1073741824) :
    Calls Tryz.prog 151 #[.agg #[.slice A1 n1 c1, .int .i64 home, .slice A2 n2 c2, .slice A3 n3 c3], .int .i64 i, .int .i64 tick] w fun e w' =>
      e = .returned (.agg #[.int .i64 (addV (homeAt s tick) x.off).x, .int .i64 (addV (homeAt s tick) x.off).y]) ∧ Ext w w' := by
  obtain ⟨k, y, hk, hy, hy0, hh⟩ := home_get hok
  have hnear := (near_iff _ _).1 (home_ok hok tick)
  have hoff := (near_iff _ _).1 ((sky_ok hok).2.1 x (List.mem_of_getElem? hx))
  obtain rfl := hs.home
  rw [hk]
  rw [hh] at hnear ⊢
  obtain ⟨hin, b, off, rfl, hc⟩ := hs.stations.get hx
  have hn2 := hs.stations.le
  obtain ⟨hc0, hc1, hc2⟩ := hc
  have hb0 : b < w.heap.size := World.block_lt_of_cell? w _ hc0
  obtain ⟨p, hp⟩ : ∃ p, trackAt y.track tick = p := ⟨_, rfl⟩
  rw [hp] at hnear ⊢
  obtain ⟨⟨hp1, hp2⟩, hp3, hp4⟩ := hnear
  obtain ⟨⟨ho1, ho2⟩, ho3, ho4⟩ := hoff
  have hlb := hs.bodies
  have HP := Lib.hid hp
  clear hp hh hok hk hs hx
  go_enter Tryz.func151, Tryz.ntmps151
  go_wp2_with fail
  refine (refat_c _ _ _ _ s.world.bodies k y tick _ (Bodies.ext (by (repeat' (first | exact Ext.refl _ | assumption | apply Ext.alloc | apply Ext.drew | refine Ext.set ?_ (by dsimp only; omega) _ | refine Ext.trans ?_ (by assumption)))) hlb) hy hy0 ht ht2).mono ?_
  rw [HP.out]
  clear hlb hy
  rintro e w1 ⟨rfl, h1⟩; obtain ⟨hc_w1, hf_w1, hz_w1⟩ := bcell h1; (repeat (first | rw [World.size_alloc] at hz_w1 | rw [World.size_drew] at hz_w1 | rw [World.size_setCell] at hz_w1)); have : w.heap.size < w1.heap.size := (by omega); have : w.heap.size + 1 < w1.heap.size := (by omega)
  obtain ⟨hc0, hc1, hc2⟩ := stnAt.ext (Ext.trans (by (repeat' (first | exact Ext.refl _ | assumption | apply Ext.alloc | apply Ext.drew | refine Ext.set ?_ (by dsimp only; omega) _ | refine Ext.trans ?_ (by assumption)))) h1) (show stnAt w x b (off + i * 3) from ⟨hc0, hc1, hc2⟩)
  have hb0' : b < w1.heap.size := by omega
  have hne1 : w1.heap.size ≠ w.heap.size + 1 := by omega
  have hne2 : b ≠ w.heap.size + 1 := by omega
  go_wp2_with fail
  refine wp_region_tail 21 (Wr _ (w.heap.size + 1)) _ (Wr.pst _ _ 85 #[.int .i64 0, .int .i64 0]) (fun _ h => h.1) (Wr.pre ?_) (by kernel_rfl) (by kernel_rfl) ?_
  · exact Blk.ext (Blk.newAt (by simp)) (Ext.trans h1 (by (repeat' (first | exact Ext.refl _ | assumption | apply Ext.alloc | apply Ext.drew | refine Ext.set ?_ (by dsimp only; omega) _ | refine Ext.trans ?_ (by assumption)))))
  repeat' (first | (refine bl_off (by rfl) ?_; simp only [Act.put, List.setIfInBounds_toArray, List.set_cons_zero, List.set_cons_succ]) | (apply bl_op; rfl; (intro w1 h1; obtain ⟨hc, hf, hz⟩ := Wr.cells h1; go_simp; (try go_bits); (first | exact ⟨rfl, Ext.refl _⟩)); simp only [Act.put, List.setIfInBounds_toArray, List.set_cons_zero, List.set_cons_succ]) | (refine bl_split rfl rfl (fun hx => ?_) (fun hx => ?_) <;> simp only [hx]))
  refine bl_nil ?_
  refine tw_put rfl rfl (vs := #[.int .i64 (p.x + x.off.x), .int .i64 (p.y + x.off.y)]) (fun w2 h2 hB => ?_) ?_
  · have hcB := hB.cell; have hfB := hB.frozen
    refine ⟨_, by go_simp, (h2.set rfl _).set rfl _, (hB.set_ 0 _).set_ 1 _⟩
  refine tw_nil ?_
  rintro w2 ⟨h2, hB⟩
  have hcB := hB.cell; have hfB := hB.frozen
  go_wp2_with fail
  (try simp only [Exit.inBlock, Exit.then]); apply bodyPost_ret; (focus (simp only [results, Tryz.results151]; go_simp; try rfl)); rfl
  exact ⟨rfl, h2.ext (by (repeat' (first | exact Ext.refl _ | assumption | apply Ext.alloc | apply Ext.drew | refine Ext.set ?_ (by dsimp only; omega) _ | refine Ext.trans ?_ (by assumption)))) (by omega)⟩

def optV : Option Vec → Vec
  | some p => p
  | none => ⟨0, 0⟩

set_option maxRecDepth 4000 in
set_option maxHeartbeats 1000000 in
theorem Where_c (A1 : Option Addr) (n1 c1 : Nat) (home : Int) (A2 : Option Addr) (n2 c2 : Nat) (A3 : Option Addr) (n3 c3 : Nat) (s : Sky) (id tick : Int) (w : World) (hs : IsSky w A1 n1 home A2 n2 A3 n3 s) :
    Calls Tryz.prog 155 #[.agg #[.slice A1 n1 c1, .int .i64 home, .slice A2 n2 c2, .slice A3 n3 c3], .int .i64 id, .int .i64 tick] w fun e w' =>
      e = .returned (.tuple #[.agg #[.int .i64 (optV (whereM s id tick)).x, .int .i64 (optV (whereM s id tick)).y], .bool (whereM s id tick).isSome]) ∧ Ext w w' := by
  by_cases hok : skyErr s = 0 ∧ within tick 0 1073741824 = true
  · have hM : whereM s id tick = (stnOf s.stations id).map fun x => addV (homeAt s tick) x.off := by rw [whereM, if_pos hok]
    obtain ⟨h0, ht⟩ := hok
    obtain ⟨ht1, ht2⟩ := (within_iff _ _ _).1 ht
    cases hx : stnOf s.stations id with
    | none =>
      rw [hx] at hM
      rw [hM]
      have HhM := Lib.hid hM; clear hM; have Hhx := Lib.hid hx; clear hx; have Hh0 := Lib.hid h0; clear h0
      go_enter Tryz.func155, Tryz.ntmps155
      go_wp2_with fail
      refine (Check_c _ _ _ _ _ _ _ _ _ _ s _ (IsSky.ext (by (repeat' (first | exact Ext.refl _ | assumption | apply Ext.alloc | apply Ext.drew | refine Ext.set ?_ (by dsimp only; omega) _ | refine Ext.trans ?_ (by assumption)))) hs)).mono ?_
      rw [Hh0.out]
      rintro e w1 ⟨rfl, h1⟩; obtain ⟨hc_w1, hf_w1, hz_w1⟩ := bcell h1; (repeat (first | rw [World.size_alloc] at hz_w1 | rw [World.size_drew] at hz_w1 | rw [World.size_setCell] at hz_w1)); have : w.heap.size < w1.heap.size := (by omega); have : w.heap.size + 1 < w1.heap.size := (by omega)
      go_wp2_with (go_at_call 152; refine (within_c _ _ _ _).mono ?_; rintro e w' ⟨rfl, rfl⟩)
      refine (station_c _ _ _ _ _ _ _ _ _ _ _ s.stations _ (IsSky.ext (by (repeat' (first | exact Ext.refl _ | assumption | apply Ext.alloc | apply Ext.drew | refine Ext.set ?_ (by dsimp only; omega) _ | refine Ext.trans ?_ (by assumption)))) hs).stations).mono ?_
      rw [Hhx.out]
      rintro e w1 ⟨rfl, h1⟩; obtain ⟨hc_w1, hf_w1, hz_w1⟩ := bcell h1; (repeat (first | rw [World.size_alloc] at hz_w1 | rw [World.size_drew] at hz_w1 | rw [World.size_setCell] at hz_w1)); have : w.heap.size < w1.heap.size := (by omega); have : w.heap.size + 1 < w1.heap.size := (by omega)
      go_wp2_with fail
      (try simp only [Exit.inBlock, Exit.then]); apply bodyPost_ret; (focus (simp only [results, Tryz.results155]; go_simp; try rfl)); rfl
      exact ⟨rfl, by (repeat' (first | exact Ext.refl _ | assumption | apply Ext.alloc | apply Ext.drew | refine Ext.set ?_ (by dsimp only; omega) _ | refine Ext.trans ?_ (by assumption)))⟩
    | some x =>
      rw [hx] at hM
      rw [hM]
      obtain ⟨k, y, hk, hy, hy0, hh⟩ := home_get h0
      have hnear := (near_iff _ _).1 (home_ok h0 tick)
      have hoff := (near_iff _ _).1 ((sky_ok h0).2.1 x (stnOf_mem hx))
      obtain rfl := hs.home
      rw [hk]
      simp only [Option.map]
      rw [hh] at hnear ⊢
      obtain ⟨p, hp⟩ : ∃ p, trackAt y.track tick = p := ⟨_, rfl⟩
      rw [hp] at hnear ⊢
      obtain ⟨⟨hp1, hp2⟩, hp3, hp4⟩ := hnear
      obtain ⟨⟨ho1, ho2⟩, ho3, ho4⟩ := hoff
      have hs' := hs
      rw [hk] at hs'
      obtain ⟨hin, b, off, rfl, hc⟩ := hs.bodies.get hy
      have hn1 := hs.bodies.le
      clear hk hs hh hM
      have Hhp := Lib.hid hp; clear hp; have Hhx := Lib.hid hx; clear hx; have Hh0 := Lib.hid h0; clear h0
      go_enter Tryz.func155, Tryz.ntmps155
      go_wp2_with fail
      refine (Check_c _ _ _ _ _ _ _ _ _ _ s _ (IsSky.ext (by (repeat' (first | exact Ext.refl _ | assumption | apply Ext.alloc | apply Ext.drew | refine Ext.set ?_ (by dsimp only; omega) _ | refine Ext.trans ?_ (by assumption)))) hs')).mono ?_
      rw [Hh0.out]
      rintro e w1 ⟨rfl, h1⟩; obtain ⟨hc_w1, hf_w1, hz_w1⟩ := bcell h1; (repeat (first | rw [World.size_alloc] at hz_w1 | rw [World.size_drew] at hz_w1 | rw [World.size_setCell] at hz_w1)); have : w.heap.size < w1.heap.size := (by omega); have : w.heap.size + 1 < w1.heap.size := (by omega)
      go_wp2_with (go_at_call 152; refine (within_c _ _ _ _).mono ?_; rintro e w' ⟨rfl, rfl⟩)
      refine (station_c _ _ _ _ _ _ _ _ _ _ _ s.stations _ (IsSky.ext (by (repeat' (first | exact Ext.refl _ | assumption | apply Ext.alloc | apply Ext.drew | refine Ext.set ?_ (by dsimp only; omega) _ | refine Ext.trans ?_ (by assumption)))) hs').stations).mono ?_
      rw [Hhx.out]
      rintro e w2 ⟨rfl, h2⟩; obtain ⟨hc_w2, hf_w2, hz_w2⟩ := bcell h2; (repeat (first | rw [World.size_alloc] at hz_w2 | rw [World.size_drew] at hz_w2 | rw [World.size_setCell] at hz_w2)); have : w.heap.size < w2.heap.size := (by omega); have : w.heap.size + 1 < w2.heap.size := (by omega)
      obtain ⟨hd0, hd1, A', n', c', hd2, hl'⟩ := bodyAt.ext (show Ext w w2 by (repeat' (first | exact Ext.refl _ | assumption | apply Ext.alloc | apply Ext.drew | refine Ext.set ?_ (by dsimp only; omega) _ | refine Ext.trans ?_ (by assumption)))) hc
      have hb0 := World.block_lt_of_cell? w2 _ hd0
      dsimp only at hb0
      go_wp2_with fail
      refine (trackat_c _ _ _ y.track tick _ (Vecs.ext (by (repeat' (first | exact Ext.refl _ | assumption | apply Ext.alloc | apply Ext.drew | refine Ext.set ?_ (by dsimp only; omega) _ | refine Ext.trans ?_ (by assumption)))) hl') hy0 ht1 ht2).mono ?_
      rw [Hhp.out]
      rintro e w3 ⟨rfl, h3⟩; obtain ⟨hc_w3, hf_w3, hz_w3⟩ := bcell h3; (repeat (first | rw [World.size_alloc] at hz_w3 | rw [World.size_drew] at hz_w3 | rw [World.size_setCell] at hz_w3)); have : w.heap.size < w3.heap.size := (by omega); have : w.heap.size + 1 < w3.heap.size := (by omega)
      have hw2 : w2.heap.size < w3.heap.size := by omega
      go_wp2_with fail
      (try simp only [Exit.inBlock, Exit.then]); apply bodyPost_ret; (focus (simp only [results, Tryz.results155]; go_simp; try rfl)); rfl
      exact ⟨rfl, by (repeat' (first | exact Ext.refl _ | assumption | apply Ext.alloc | apply Ext.drew | refine Ext.set ?_ (by dsimp only; omega) _ | refine Ext.trans ?_ (by assumption)))⟩
  · have hM : whereM s id tick = none := by rw [whereM, if_neg hok]
    rw [hM]
    by_cases h0 : skyErr s = 0
    · have ht : within tick 0 1073741824 = false := by
        cases hw : within tick 0 1073741824
        · rfl
        · exact absurd ⟨h0, hw⟩ hok
      have Hh0 := Lib.hid h0; clear h0
      go_enter Tryz.func155, Tryz.ntmps155
      go_wp2_with fail
      refine (Check_c _ _ _ _ _ _ _ _ _ _ s _ (IsSky.ext (by (repeat' (first | exact Ext.refl _ | assumption | apply Ext.alloc | apply Ext.drew | refine Ext.set ?_ (by dsimp only; omega) _ | refine Ext.trans ?_ (by assumption)))) hs)).mono ?_
      rw [Hh0.out]
      rintro e w1 ⟨rfl, h1⟩; obtain ⟨hc_w1, hf_w1, hz_w1⟩ := bcell h1; (repeat (first | rw [World.size_alloc] at hz_w1 | rw [World.size_drew] at hz_w1 | rw [World.size_setCell] at hz_w1)); have : w.heap.size < w1.heap.size := (by omega); have : w.heap.size + 1 < w1.heap.size := (by omega)
      go_wp2_with (go_at_call 152; refine (within_c _ _ _ _).mono ?_; rintro e w' ⟨rfl, rfl⟩)
      (try simp only [Exit.inBlock, Exit.then]); apply bodyPost_ret; (focus (simp only [results, Tryz.results155]; go_simp; try rfl)); rfl
      exact ⟨rfl, by (repeat' (first | exact Ext.refl _ | assumption | apply Ext.alloc | apply Ext.drew | refine Ext.set ?_ (by dsimp only; omega) _ | refine Ext.trans ?_ (by assumption)))⟩
    · have h0' : (skyErr s != 0) = true := by simpa using h0
      go_enter Tryz.func155, Tryz.ntmps155
      go_wp2_with fail
      refine (Check_c _ _ _ _ _ _ _ _ _ _ s _ (IsSky.ext (by (repeat' (first | exact Ext.refl _ | assumption | apply Ext.alloc | apply Ext.drew | refine Ext.set ?_ (by dsimp only; omega) _ | refine Ext.trans ?_ (by assumption)))) hs)).mono ?_
      rintro e w1 ⟨rfl, h1⟩; obtain ⟨hc_w1, hf_w1, hz_w1⟩ := bcell h1; (repeat (first | rw [World.size_alloc] at hz_w1 | rw [World.size_drew] at hz_w1 | rw [World.size_setCell] at hz_w1)); have : w.heap.size < w1.heap.size := (by omega); have : w.heap.size + 1 < w1.heap.size := (by omega)
      go_wp2_with fail
      (try simp only [Exit.inBlock, Exit.then]); apply bodyPost_ret; (focus (simp only [results, Tryz.results155]; go_simp; try rfl)); rfl
      exact ⟨rfl, by (repeat' (first | exact Ext.refl _ | assumption | apply Ext.alloc | apply Ext.drew | refine Ext.set ?_ (by dsimp only; omega) _ | refine Ext.trans ?_ (by assumption)))⟩
end Go.Proofs.YtfniicgoeljmdaaGreat

namespace Go.Proofs.YtfniicgoeljmdaaGreat
open Go.RowKit

theorem mul_bd {a b A B : Int} (ha : -A ≤ a ∧ a ≤ A) (hb : -B ≤ b ∧ b ≤ B) : -(A * B) ≤ a * b ∧ a * b ≤ A * B := by
  have h1 : (a * b).natAbs ≤ A.toNat * B.toNat := by
    rw [Int.natAbs_mul]
    exact Nat.mul_le_mul (by omega) (by omega)
  have h2 : ((A.toNat * B.toNat : Nat) : Int) = A * B := by
    rw [Int.natCast_mul, Int.toNat_of_nonneg (by omega), Int.toNat_of_nonneg (by omega)]
  omega

def crossD (fx fy dx dy x y : Int) : Int := dx * (y - fy) - dy * (x - fx)
def dotD (fx fy dx dy x y : Int) : Int := dx * (x - fx) + dy * (y - fy)
def distD (ax ay bx by_ : Int) : Int := (ax - bx) * (ax - bx) + (ay - by_) * (ay - by_)
def behindB (fx fy dx dy x y : Int) : Bool := decide (dotD fx fy dx dy x y ≤ 0)
def belowB (fx fy dx dy lo x y : Int) : Bool := decide (1000000 * crossD fx fy dx dy x y < lo * dotD fx fy dx dy x y)
def aboveB (fx fy dx dy hi x y : Int) : Bool := decide (hi * dotD fx fy dx dy x y < 1000000 * crossD fx fy dx dy x y)
def inB (fx fy dx dy lo hi x y : Int) : Bool := !behindB fx fy dx dy x y && !belowB fx fy dx dy lo x y && !aboveB fx fy dx dy hi x y

/-- A station, a direction, a place within their bounds. -/
structure CB (fx fy dx dy x y : Int) : Prop where
  fx : -34603008 ≤ fx ∧ fx ≤ 34603008
  fy : -34603008 ≤ fy ∧ fy ≤ 34603008
  dx : -4096 ≤ dx ∧ dx ≤ 4096
  dy : -4096 ≤ dy ∧ dy ≤ 4096
  x : -33554432 ≤ x ∧ x ≤ 33554432
  y : -33554432 ≤ y ∧ y ≤ 33554432
theorem CB.prods {fx fy dx dy x y : Int} (h : CB fx fy dx dy x y) :
    (-279172874240 ≤ dx * (y - fy) ∧ dx * (y - fy) ≤ 279172874240) ∧ (-279172874240 ≤ dy * (x - fx) ∧ dy * (x - fx) ≤ 279172874240) ∧
    (-279172874240 ≤ dx * (x - fx) ∧ dx * (x - fx) ≤ 279172874240) ∧ (-279172874240 ≤ dy * (y - fy) ∧ dy * (y - fy) ≤ 279172874240) := by
  obtain ⟨h1, h2, h3, h4, h5, h6⟩ := h
  have e1 : -68157440 ≤ y - fy ∧ y - fy ≤ 68157440 := by omega
  have e2 : -68157440 ≤ x - fx ∧ x - fx ≤ 68157440 := by omega
  exact ⟨mul_bd h3 e1, mul_bd h4 e2, mul_bd h3 e2, mul_bd h4 e1⟩
theorem CB.cross {fx fy dx dy x y : Int} (h : CB fx fy dx dy x y) : -558345748480 ≤ crossD fx fy dx dy x y ∧ crossD fx fy dx dy x y ≤ 558345748480 := by
  obtain ⟨h1, h2, _, _⟩ := h.prods; unfold crossD; omega
theorem CB.dot {fx fy dx dy x y : Int} (h : CB fx fy dx dy x y) : -558345748480 ≤ dotD fx fy dx dy x y ∧ dotD fx fy dx dy x y ≤ 558345748480 := by
  obtain ⟨_, _, h1, h2⟩ := h.prods; unfold dotD; omega

set_option maxRecDepth 4000 in
set_option maxHeartbeats 1000000 in
theorem turns_c (fx fy dx dy lo hi x y : Int) (w : World) (h : CB fx fy dx dy x y) :
    Calls Tryz.prog 217 #[.agg #[.int .i64 fx, .int .i64 fy, .int .i64 dx, .int .i64 dy, .int .i64 lo, .int .i64 hi], .agg #[.int .i64 x, .int .i64 y]] w fun e w' =>
      e = .returned (.tuple #[.int .i64 (crossD fx fy dx dy x y), .int .i64 (dotD fx fy dx dy x y)]) ∧ Ext w w' := by
  obtain ⟨⟨p1, p2⟩, ⟨p3, p4⟩, ⟨p5, p6⟩, p7, p8⟩ := h.prods
  obtain ⟨⟨h1, h2⟩, ⟨h3, h4⟩, ⟨h5, h6⟩, ⟨h7, h8⟩, ⟨h9, h10⟩, h11, h12⟩ := h
  go_enter Tryz.func217, Tryz.ntmps217
  go_wp2_with fail
  refine wp_region_text (by kernel_rfl) (by kernel_rfl) ?_
  repeat' (first | (refine bl_off (by rfl) ?_; simp only [Act.put, List.setIfInBounds_toArray, List.set_cons_zero, List.set_cons_succ]) | (apply bl_op; rfl; (intro w1 h1; obtain ⟨hc, hf, hz⟩ := bcell h1; go_simp; (try go_bits); (first | exact ⟨rfl, Ext.refl _⟩)); simp only [Act.put, List.setIfInBounds_toArray, List.set_cons_zero, List.set_cons_succ]) | (refine bl_split rfl rfl (fun hx => ?_) (fun hx => ?_) <;> simp only [hx]))
  refine bl_nil ?_
  intro w1 h1
  obtain ⟨hc_w1, hf_w1, hz_w1⟩ := bcell h1; (repeat (first | rw [World.size_alloc] at hz_w1 | rw [World.size_drew] at hz_w1 | rw [World.size_setCell] at hz_w1)); have : w.heap.size < w1.heap.size := (by omega); have : w.heap.size + 1 < w1.heap.size := (by omega)
  go_wp2_with fail
  refine wp_region_text (by kernel_rfl) (by kernel_rfl) ?_
  repeat' (first | (refine bl_off (by rfl) ?_; simp only [Act.put, List.setIfInBounds_toArray, List.set_cons_zero, List.set_cons_succ]) | (apply bl_op; rfl; (intro w1 h1; obtain ⟨hc, hf, hz⟩ := bcell h1; go_simp; (try go_bits); (first | exact ⟨rfl, Ext.refl _⟩)); simp only [Act.put, List.setIfInBounds_toArray, List.set_cons_zero, List.set_cons_succ]) | (refine bl_split rfl rfl (fun hx => ?_) (fun hx => ?_) <;> simp only [hx]))
  refine bl_nil ?_
  intro w2 h2
  go_wp2_with fail
  go_ret2
  exact ⟨rfl, by (repeat' (first | exact Ext.refl _ | assumption | apply Ext.alloc | apply Ext.drew | refine Ext.set ?_ (by dsimp only; omega) _ | refine Ext.trans ?_ (by assumption)))⟩

set_option maxRecDepth 4000 in
set_option maxHeartbeats 1000000 in
theorem sides_c (fx fy dx dy lo hi x y : Int) (w : World) (h : CB fx fy dx dy x y) (hlo : -1000000 ≤ lo ∧ lo ≤ 1000000) (hhi : -1000000 ≤ hi ∧ hi ≤ 1000000) :
    Calls Tryz.prog 176 #[.agg #[.int .i64 fx, .int .i64 fy, .int .i64 dx, .int .i64 dy, .int .i64 lo, .int .i64 hi], .agg #[.int .i64 x, .int .i64 y]] w fun e w' =>
      e = .returned (.tuple #[.bool (behindB fx fy dx dy x y), .bool (belowB fx fy dx dy lo x y), .bool (aboveB fx fy dx dy hi x y)]) ∧ Ext w w' := by
  obtain ⟨c1, c2⟩ := h.cross
  have hd := h.dot
  obtain ⟨q1, q2⟩ := mul_bd hlo hd
  obtain ⟨q3, q4⟩ := mul_bd hhi hd
  obtain ⟨d1, d2⟩ := hd
  unfold behindB belowB aboveB
  have HT := Lib.hid fun W => turns_c fx fy dx dy lo hi x y W h
  generalize crossD fx fy dx dy x y = C at *
  generalize dotD fx fy dx dy x y = D at *
  clear h hlo hhi
  go_enter Tryz.func176, Tryz.ntmps176
  go_wp2_with fail
  refine (HT.out _).mono ?_
  rintro e w1 ⟨rfl, h1⟩; obtain ⟨hc_w1, hf_w1, hz_w1⟩ := bcell h1; (repeat (first | rw [World.size_alloc] at hz_w1 | rw [World.size_drew] at hz_w1 | rw [World.size_setCell] at hz_w1)); have : w.heap.size < w1.heap.size := (by omega); have : w.heap.size + 1 < w1.heap.size := (by omega)
  go_wp2_with fail
  refine wp_region_text (by kernel_rfl) (by kernel_rfl) ?_
  repeat' (first | (refine bl_off (by rfl) ?_; simp only [Act.put, List.setIfInBounds_toArray, List.set_cons_zero, List.set_cons_succ]) | (apply bl_op; rfl; (intro w1 h1; obtain ⟨hc, hf, hz⟩ := bcell h1; go_simp; (try go_bits); (first | exact ⟨rfl, Ext.refl _⟩)); simp only [Act.put, List.setIfInBounds_toArray, List.set_cons_zero, List.set_cons_succ]) | (refine bl_split rfl rfl (fun hx => ?_) (fun hx => ?_) <;> simp only [hx]))
  refine bl_nil ?_
  intro w2 h2
  go_wp2_with fail
  go_ret3
  exact ⟨rfl, by (repeat' (first | exact Ext.refl _ | assumption | apply Ext.alloc | apply Ext.drew | refine Ext.set ?_ (by dsimp only; omega) _ | refine Ext.trans ?_ (by assumption)))⟩

set_option maxHeartbeats 1000000 in
theorem has_c (fx fy dx dy lo hi x y : Int) (w : World) (h : CB fx fy dx dy x y) (hlo : -1000000 ≤ lo ∧ lo ≤ 1000000) (hhi : -1000000 ≤ hi ∧ hi ≤ 1000000) :
    Calls Tryz.prog 182 #[.agg #[.int .i64 fx, .int .i64 fy, .int .i64 dx, .int .i64 dy, .int .i64 lo, .int .i64 hi], .agg #[.int .i64 x, .int .i64 y]] w fun e w' =>
      e = .returned (.bool (inB fx fy dx dy lo hi x y)) ∧ Ext w w' := by
  unfold inB
  have HT := Lib.hid fun W => sides_c fx fy dx dy lo hi x y W h hlo hhi
  generalize behindB fx fy dx dy x y = a at *
  generalize belowB fx fy dx dy lo x y = b at *
  generalize aboveB fx fy dx dy hi x y = c at *
  clear h hlo hhi
  go_enter Tryz.func182, Tryz.ntmps182
  go_wp2_with fail
  refine (HT.out _).mono ?_
  rintro e w1 ⟨rfl, h1⟩; obtain ⟨hc_w1, hf_w1, hz_w1⟩ := bcell h1; (repeat (first | rw [World.size_alloc] at hz_w1 | rw [World.size_drew] at hz_w1 | rw [World.size_setCell] at hz_w1)); have : w.heap.size < w1.heap.size := (by omega); have : w.heap.size + 1 < w1.heap.size := (by omega)
  cases a <;> cases b <;> cases c
  all_goals go_wp2_with fail
  all_goals go_ret
  all_goals exact ⟨rfl, by (repeat' (first | exact Ext.refl _ | assumption | apply Ext.alloc | apply Ext.drew | refine Ext.set ?_ (by dsimp only; omega) _ | refine Ext.trans ?_ (by assumption)))⟩

set_option maxHeartbeats 1000000 in
theorem distance_c (ax ay bx by_ : Int) (w : World) (h1 : -68157440 ≤ ax - bx ∧ ax - bx ≤ 68157440) (h2 : -68157440 ≤ ay - by_ ∧ ay - by_ ≤ 68157440) :
    Calls Tryz.prog 178 #[.agg #[.int .i64 ax, .int .i64 ay], .agg #[.int .i64 bx, .int .i64 by_]] w fun e w' =>
      e = .returned (.int .i64 (distD ax ay bx by_)) ∧ Ext w w' := by
  obtain ⟨q1, q2⟩ := mul_bd h1 h1
  obtain ⟨q3, q4⟩ := mul_bd h2 h2
  obtain ⟨h1, h1'⟩ := h1
  obtain ⟨h2, h2'⟩ := h2
  go_enter Tryz.func178, Tryz.ntmps178
  go_wp2_with fail
  go_ret
  exact ⟨rfl, by (repeat' (first | exact Ext.refl _ | assumption | apply Ext.alloc | apply Ext.drew | refine Ext.set ?_ (by dsimp only; omega) _ | refine Ext.trans ?_ (by assumption)))⟩
end Go.Proofs.YtfniicgoeljmdaaGreat
