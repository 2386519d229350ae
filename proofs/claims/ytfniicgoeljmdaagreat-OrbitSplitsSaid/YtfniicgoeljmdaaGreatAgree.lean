/- What a valid sky gives, in plain words. Where stations are at a tick, of the program and of the reference. Cones, distances and looks: what the program computes within its bounds, where nothing wraps. What looks say, and whether a place agrees with a sight: the program. Whether a place agrees with a sight: the program. -/
import Derived.Test.YtfniicgoeljmdaaGreatFind
namespace Go.Proofs.YtfniicgoeljmdaaGreat
open Go.RowKit

theorem within_iff (n lo hi : Int) : within n lo hi = true ↔ lo ≤ n ∧ n ≤ hi := by simp [within]
theorem near_iff (p : Vec) (m : Int) : near p m = true ↔ (-m ≤ p.x ∧ p.x ≤ m) ∧ (-m ≤ p.y ∧ p.y ≤ m) := by simp [near, within]
theorem body_ok {b : Body} (h : bodyErr b = 0) : 0 < b.track.length ∧ b.track.length ≤ 4096 ∧ (0 ≤ b.mu ∧ b.mu ≤ 1125899906842624) ∧ (0 ≤ b.radius ∧ b.radius ≤ 1048576) ∧ ∀ p ∈ b.track, near p 33554432 = true := by
  rw [bodyErr] at h
  by_cases h1 : (!(within b.mu 0 1125899906842624) || !(within b.radius 0 1048576)) = true
  · rw [if_pos h1] at h; omega
  rw [if_neg h1] at h
  by_cases h2 : b.track.length = 0
  · rw [if_pos h2] at h; omega
  rw [if_neg h2] at h
  by_cases h3 : 4096 < b.track.length
  · rw [if_pos h3] at h; omega
  rw [if_neg h3] at h
  by_cases h4 : hasP (fun p => !near p 33554432) b.track = true
  · rw [if_pos h4] at h; omega
  rw [hasP_eq] at h4
  simp [within_iff] at h1 h4
  exact ⟨by omega, by omega, h1.1, h1.2, h4⟩
theorem bodies_ok : ∀ {l : List Body}, bodiesErr l = 0 → ∀ b ∈ l, bodyErr b = 0
  | [], _, _, h => by simp at h
  | c :: r, h, b, hb => by
    rw [bodiesErr] at h
    by_cases h0 : bodyErr c = 0
    · rw [if_pos h0] at h
      rcases List.mem_cons.1 hb with rfl | hb
      · exact h0
      · exact bodies_ok h b hb
    · rw [if_neg h0] at h; exact absurd h h0
theorem wld_ok {w : Wld} (h : wldErr w = 0) : (∃ k : Nat, w.home = k ∧ k < w.bodies.length) ∧ w.bodies.length ≤ 8 ∧ ∀ b ∈ w.bodies, bodyErr b = 0 := by
  rw [wldErr] at h
  by_cases h1 : w.bodies.length = 0
  · rw [if_pos h1] at h; omega
  rw [if_neg h1] at h
  by_cases h2 : 8 < w.bodies.length
  · rw [if_pos h2] at h; omega
  rw [if_neg h2] at h
  by_cases h3 : bodiesErr w.bodies = 0
  · rw [if_neg (by simpa using h3)] at h
    by_cases h4 : w.home < 0 ∨ (w.bodies.length : Int) ≤ w.home
    · rw [if_pos h4] at h; omega
    · exact ⟨⟨w.home.toNat, by omega, by omega⟩, by omega, bodies_ok h3⟩
  · rw [if_pos h3] at h; exact absurd h h3
theorem stns_ok : ∀ {l : List Stn} {last : Int}, stnsErr l last = 0 → ∀ x ∈ l, near x.off 1048576 = true
  | [], _, _, _, h => by simp at h
  | c :: r, last, h, b, hb => by
    rw [stnsErr] at h
    by_cases h0 : c.id ≤ last
    · rw [if_pos h0] at h; omega
    rw [if_neg h0] at h
    cases h1 : near c.off 1048576
    · rw [h1] at h; simp at h
    · rw [h1] at h
      simp at h
      rcases List.mem_cons.1 hb with rfl | hb
      · exact h1
      · exact stns_ok h b hb
theorem cats_ok : ∀ {l : List Cat} {last : Int}, catsErr l last = 0 → ∀ x ∈ l, -500000 ≤ x.lo ∧ x.lo ≤ x.hi ∧ x.hi ≤ 500000
  | [], _, _, _, h => by simp at h
  | c :: r, last, h, b, hb => by
    rw [catsErr] at h
    by_cases h0 : c.version ≤ last
    · rw [if_pos h0] at h; omega
    rw [if_neg h0] at h
    by_cases h1 : c.lo < -500000 ∨ c.hi < c.lo ∨ 500000 < c.hi
    · rw [if_pos h1] at h; omega
    · rw [if_neg h1] at h
      rcases List.mem_cons.1 hb with rfl | hb
      · omega
      · exact cats_ok h b hb
theorem sky_ok {s : Sky} (h : skyErr s = 0) : wldErr s.world = 0 ∧ (∀ x ∈ s.stations, near x.off 1048576 = true) ∧ (∀ x ∈ s.catalogs, -500000 ≤ x.lo ∧ x.lo ≤ x.hi ∧ x.hi ≤ 500000) := by
  rw [skyErr] at h
  by_cases h1 : wldErr s.world = 0
  · rw [if_neg (by simpa using h1)] at h
    by_cases h2 : 16 < s.stations.length
    · rw [if_pos h2] at h; omega
    rw [if_neg h2] at h
    by_cases h3 : stnsErr s.stations 0 = 0
    · rw [if_neg (by simpa using h3)] at h
      by_cases h4 : 8 < s.catalogs.length
      · rw [if_pos h4] at h; omega
      rw [if_neg h4] at h
      exact ⟨h1, stns_ok h3, cats_ok h⟩
    · rw [if_pos h3] at h; exact absurd h h3
  · rw [if_pos h1] at h; exact absurd h h1

/-- The place of a track at a tick. -/
def trackAt (l : List Vec) (tick : Int) : Vec := l.getD (tick.toNat % l.length) ⟨0, 0⟩
theorem trackAt_mem {l : List Vec} (h : 0 < l.length) (t : Int) : trackAt l t ∈ l := by
  unfold trackAt
  have := Nat.mod_lt t.toNat h
  rw [List.getD_eq_getElem?_getD, List.getElem?_eq_getElem this]
  exact List.getElem_mem this
theorem trackAt_get {l : List Vec} (h : 0 < l.length) (t : Nat) : l[t % l.length]? = some (trackAt l t) := by
  unfold trackAt
  have := Nat.mod_lt t h
  simp [List.getD_eq_getElem?_getD, List.getElem?_eq_getElem this]
/-- The place of Home. -/
def homeAt (s : Sky) (tick : Int) : Vec := trackAt (s.world.bodies.getD s.world.home.toNat ⟨0, 0, []⟩).track tick
theorem home_ok {s : Sky} (h : skyErr s = 0) (t : Int) : near (homeAt s t) 33554432 = true := by
  obtain ⟨⟨k, hk, hlt⟩, _, hb⟩ := wld_ok (sky_ok h).1
  have : s.world.bodies.getD s.world.home.toNat ⟨0, 0, []⟩ = s.world.bodies[k] := by
    rw [hk]; simp [List.getD_eq_getElem?_getD, List.getElem?_eq_getElem hlt]
  unfold homeAt
  rw [this]
  obtain ⟨h1, _, _, _, h2⟩ := body_ok (hb _ (List.getElem_mem hlt))
  exact h2 _ (trackAt_mem h1 t)
def addV (p q : Vec) : Vec := ⟨p.x + q.x, p.y + q.y⟩
def whereM (s : Sky) (id tick : Int) : Option Vec :=
  if skyErr s = 0 ∧ within tick 0 1073741824 = true then (stnOf s.stations id).map fun x => addV (homeAt s tick) x.off else none
theorem stnOf_mem {l : List Stn} {id : Int} {x : Stn} (h : stnOf l id = some x) : x ∈ l := List.mem_of_find?_eq_some h
end Go.Proofs.YtfniicgoeljmdaaGreat

namespace Go.Proofs.YtfniicgoeljmdaaGreat
open Go.RowKit

set_option maxHeartbeats 400000 in
theorem trackat_c (A : Option Addr) (n c : Nat) (l : List Vec) (tick : Int) (w : World) (hl : Vecs w A n l) (h0 : 0 < l.length) (ht : 0 ≤ tick) (ht2 : tick ≤ 1073741824) :
    Calls Tryz.prog 193 #[.slice A n c, .int .i64 tick] w fun e w' => e = .returned (.agg #[.int .i64 (trackAt l tick).x, .int .i64 (trackAt l tick).y]) ∧ Ext w w' := by
  obtain ⟨t, rfl⟩ := Int.eq_ofNat_of_zero_le ht
  have hn := hl.le
  have hg := trackAt_get h0 t
  obtain ⟨hi, b, off, rfl, hc⟩ := hl.get hg
  obtain ⟨p, hp⟩ : ∃ p, trackAt l (t : Int) = p := ⟨_, rfl⟩
  rw [hp] at hc ⊢
  obtain rfl := hl.len
  generalize l.length = n at *
  clear hg hp
  have h1 : (1 : Int) ≤ (n : Int) := by omega
  have hm := Nat.mod_lt t h0
  obtain ⟨hx, hy⟩ := vecAt.ext (Ext.alloc0 _ (.cells #[.int .i64 0, .int .i64 0] 85)) hc
  go_enter Tryz.func193, Tryz.ntmps193
  go_wp2_with fail
  (try simp only [Exit.inBlock, Exit.then]); apply bodyPost_ret; (focus (simp only [results, Tryz.results193]; go_simp; try rfl)); rfl
  exact ⟨rfl, by (repeat' (first | exact Ext.refl _ | assumption | apply Ext.alloc | apply Ext.drew | refine Ext.set ?_ (by dsimp only; omega) _ | refine Ext.trans ?_ (by assumption)))⟩

def optV : Option Vec → Vec
  | some p => p
  | none => ⟨0, 0⟩

end Go.Proofs.YtfniicgoeljmdaaGreat

namespace Go.Proofs.YtfniicgoeljmdaaGreat
open Go.RowKit

/-- A station, a direction, a place within their bounds. -/
structure CB (fx fy dx dy x y : Int) : Prop where
  fx : -34603008 ≤ fx ∧ fx ≤ 34603008
  fy : -34603008 ≤ fy ∧ fy ≤ 34603008
  dx : -4096 ≤ dx ∧ dx ≤ 4096
  dy : -4096 ≤ dy ∧ dy ≤ 4096
  x : -33554432 ≤ x ∧ x ≤ 33554432
  y : -33554432 ≤ y ∧ y ≤ 33554432
end Go.Proofs.YtfniicgoeljmdaaGreat

namespace Go.Proofs.YtfniicgoeljmdaaGreat
open Go.RowKit

/-- What valid sights give, as numbers. -/
structure SightOK (s : Sky) (x : Sight) : Prop where
  sky : skyErr s = 0
  kind : 1 ≤ x.kind ∧ x.kind ≤ 3
  tick : 0 ≤ x.tick ∧ x.tick ≤ 1073741824
  stn : ∃ st, stnOf s.stations x.station = some st
  cat : x.kind ≠ 2 → ∃ c, catOf s.catalogs x.catalog = some c ∧ -500000 ≤ c.lo ∧ c.lo ≤ c.hi ∧ c.hi ≤ 500000
  dir : x.kind ≠ 2 → (-4096 ≤ x.dx ∧ x.dx ≤ 4096) ∧ (-4096 ≤ x.dy ∧ x.dy ≤ 4096) ∧ (0 ≤ x.err ∧ x.err ≤ 500000) ∧ ¬ (x.dx = 0 ∧ x.dy = 0)
  reach : x.kind = 2 → 0 ≤ x.lo ∧ x.lo ≤ x.hi ∧ x.hi ≤ 134217728
  far : x.kind = 3 → 1 ≤ x.hi ∧ x.hi ≤ 134217728

def orig (s : Sky) (x : Sight) : Vec := optV (whereM s x.station x.tick)
theorem SightOK.orig_bd {s : Sky} {x : Sight} (h : SightOK s x) : (-34603008 ≤ (orig s x).x ∧ (orig s x).x ≤ 34603008) ∧ (-34603008 ≤ (orig s x).y ∧ (orig s x).y ≤ 34603008) := by
  obtain ⟨st, hst⟩ := h.stn
  have h1 : orig s x = addV (homeAt s x.tick) st.off := by
    unfold orig
    rw [whereM, if_pos ⟨h.sky, (within_iff _ _ _).2 h.tick⟩, hst]
    rfl
  have h2 := (near_iff _ _).1 (home_ok h.sky x.tick)
  have h3 := (near_iff _ _).1 ((sky_ok h.sky).2.1 st (stnOf_mem hst))
  rw [h1, addV]
  dsimp only
  omega
end Go.Proofs.YtfniicgoeljmdaaGreat

namespace Go.Proofs.YtfniicgoeljmdaaGreat
open Go.RowKit

theorem SightOK.cb {s : Sky} {x : Sight} (h : SightOK s x) (hk : x.kind ≠ 2) {px py : Int} (hp : near ⟨px, py⟩ 33554432 = true) : CB (orig s x).x (orig s x).y x.dx x.dy px py := by
  have h1 := h.orig_bd
  obtain ⟨h2, h3, _, _⟩ := h.dir hk
  have h4 := (near_iff _ _).1 hp
  exact ⟨h1.1, h1.2, h2, h3, h4.1, h4.2⟩
end Go.Proofs.YtfniicgoeljmdaaGreat
