/- What looks say, and whether a place agrees with a sight: the program. Whether a place agrees with a sight: the program. -/
import Derived.Test.YtfniicgoeljmdaaGreatCone
namespace Go.Proofs.YtfniicgoeljmdaaGreat
open Go.RowKit

set_option maxHeartbeats 1000000 in
theorem angleAgrees_c (fx fy dx dy lo hi x y : Int) (w : World) (h : CB fx fy dx dy x y) (hlo : -1000000 ≤ lo ∧ lo ≤ 1000000) (hhi : -1000000 ≤ hi ∧ hi ≤ 1000000) :
    Calls Tryz.prog 298 #[.agg #[.int .i64 fx, .int .i64 fy, .int .i64 dx, .int .i64 dy, .int .i64 lo, .int .i64 hi], .agg #[.int .i64 x, .int .i64 y]] w fun e w' =>
      e = .returned (.bool (inB fx fy dx dy lo hi x y)) ∧ Ext w w' := by
  go_enter Tryz.func298, Tryz.ntmps298
  go_wp2_with fail
  refine (has_c fx fy dx dy lo hi x y _ h hlo hhi).mono ?_
  rintro e w1 ⟨rfl, h1⟩; obtain ⟨hc_w1, hf_w1, hz_w1⟩ := bcell h1; (try simp only [szA] at hz_w1); have : w.heap.size < w1.heap.size := (by omega); have : w.heap.size + 1 < w1.heap.size := (by omega)
  go_wp2_with fail
  go_ret
  exact ⟨rfl, ext_by⟩

set_option maxHeartbeats 1000000 in
theorem reachAgrees_c (fx fy lo hi x y : Int) (w : World) (h1 : -68157440 ≤ x - fx ∧ x - fx ≤ 68157440) (h2 : -68157440 ≤ y - fy ∧ y - fy ≤ 68157440) (hlo : -134217728 ≤ lo ∧ lo ≤ 134217728) (hhi : -134217728 ≤ hi ∧ hi ≤ 134217728) :
    Calls Tryz.prog 297 #[.agg #[.int .i64 fx, .int .i64 fy, .int .i64 lo, .int .i64 hi], .agg #[.int .i64 x, .int .i64 y]] w fun e w' =>
      e = .returned (.bool (within (distD x y fx fy) (lo * lo) (hi * hi))) ∧ Ext w w' := by
  obtain ⟨q1, q2⟩ := mul_bd hlo hlo
  obtain ⟨q3, q4⟩ := mul_bd hhi hhi
  clear hlo hhi
  go_enter Tryz.func297, Tryz.ntmps297
  go_wp2_with fail
  refine (distance_c x y fx fy _ h1 h2).mono ?_
  rintro e w1 ⟨rfl, h1⟩; obtain ⟨hc_w1, hf_w1, hz_w1⟩ := bcell h1; (try simp only [szA] at hz_w1); have : w.heap.size < w1.heap.size := (by omega); have : w.heap.size + 1 < w1.heap.size := (by omega)
  go_wp2_with (go_at_call 152; refine (within_c _ _ _ _).mono ?_; rintro e w' ⟨rfl, rfl⟩)
  go_ret
  exact ⟨rfl, ext_by⟩

set_option maxRecDepth 4000 in
set_option maxHeartbeats 1000000 in
theorem emptyAgrees_c (fx fy dx dy lo hi far x y : Int) (w : World) (h : CB fx fy dx dy x y) (hlo : -1000000 ≤ lo ∧ lo ≤ 1000000) (hhi : -1000000 ≤ hi ∧ hi ≤ 1000000) (hfar : -134217728 ≤ far ∧ far ≤ 134217728) :
    Calls Tryz.prog 299 #[.agg #[.int .i64 fx, .int .i64 fy, .int .i64 dx, .int .i64 dy, .int .i64 lo, .int .i64 hi, .int .i64 far], .agg #[.int .i64 x, .int .i64 y]] w fun e w' =>
      e = .returned (.bool (!inB fx fy dx dy lo hi x y || decide (far * far < distD x y fx fy))) ∧ Ext w w' := by
  obtain ⟨q1, q2⟩ := mul_bd hfar hfar
  have HT := Lib.hid fun W => has_c fx fy dx dy lo hi x y W h hlo hhi
  have HD := Lib.hid fun W => distance_c x y fx fy W (by have := h.x; have := h.fx; omega) (by have := h.y; have := h.fy; omega)
  generalize inB fx fy dx dy lo hi x y = B at *
  generalize distD x y fx fy = D at *
  clear h hlo hhi hfar
  go_enter Tryz.func299, Tryz.ntmps299
  go_wp2_with fail
  refine wp_region_text (by kernel_rfl) (by kernel_rfl) ?_
  repeat' (first | (refine bl_off (by rfl) ?_; simp only [putX]) | (apply bl_op; rfl; (intro w1 h1; obtain ⟨hc, hf, hz⟩ := bcell h1; go_simp; (try go_bits); (first | exact ⟨rfl, Ext.refl _⟩ | (apply gives_call; first | (go_at_call 182; exact HT.out _) | (go_at_call 178; exact HD.out _)) | (go_invoke; go_simp; apply gives_call; first | (go_at_call 182; exact HT.out _) | (go_at_call 178; exact HD.out _)))); simp only [putX]) | (refine bl_split rfl rfl (fun hx => ?_) (fun hx => ?_) <;> simp only [hx]))
  all_goals refine bl_nil ?_
  all_goals intro w2 h2
  all_goals go_wp2_with fail
  all_goals go_ret
  all_goals refine ⟨?_, ext_by⟩
  all_goals simp_all

structure SightOK (s : Sky) (x : Sight) : Prop where
  sky : skyErr s = 0
  kind : 1 ≤ x.kind ∧ x.kind ≤ 3
  tick : 0 ≤ x.tick ∧ x.tick ≤ 1073741824
  stn : ∃ st, stnOf s.stations x.station = some st
  cat : x.kind ≠ 2 → ∃ c, catOf s.catalogs x.catalog = some c ∧ -500000 ≤ c.lo ∧ c.lo ≤ c.hi ∧ c.hi ≤ 500000
  dir : x.kind ≠ 2 → (-4096 ≤ x.dx ∧ x.dx ≤ 4096) ∧ (-4096 ≤ x.dy ∧ x.dy ≤ 4096) ∧ (0 ≤ x.err ∧ x.err ≤ 500000) ∧ ¬ (x.dx = 0 ∧ x.dy = 0)
  reach : x.kind = 2 → 0 ≤ x.lo ∧ x.lo ≤ x.hi ∧ x.hi ≤ 134217728
  far : x.kind = 3 → 1 ≤ x.hi ∧ x.hi ≤ 134217728

theorem sight_ok {s : Sky} {x : Sight} (h : sightErr2 s x = 0) : SightOK s x := by
  rw [sightErr2] at h
  have h0 : skyErr s = 0 := Decidable.byContradiction fun h0 => by rw [if_pos h0] at h; exact h0 h
  rw [if_neg (by simpa using h0), sightErr] at h
  by_cases h1 : x.kind < 1 ∨ 3 < x.kind
  · rw [if_pos h1] at h; omega
  rw [if_neg h1] at h
  cases h2 : within x.tick 0 1073741824
  · rw [h2] at h; simp at h
  rw [h2] at h
  cases h3 : (stnOf s.stations x.station).isSome
  · rw [h3] at h; simp at h
  rw [h3] at h
  obtain ⟨st, hst⟩ := Option.isSome_iff_exists.1 h3
  simp only [Bool.true_eq_false, if_false] at h
  have ht := (within_iff _ _ _).1 h2
  by_cases h4 : x.kind = 2
  · rw [if_pos h4] at h
    by_cases h5 : x.lo < 0 ∨ x.hi < x.lo ∨ 134217728 < x.hi
    · rw [if_pos h5] at h; omega
    · exact ⟨h0, by omega, ht, ⟨st, hst⟩, fun h => absurd h4 h, fun h => absurd h4 h, fun _ => by omega, fun h => by omega⟩
  · rw [if_neg h4] at h
    cases h5 : (catOf s.catalogs x.catalog).isSome
    · rw [h5] at h; simp at h
    rw [h5] at h
    obtain ⟨c, hc⟩ := Option.isSome_iff_exists.1 h5
    have h6 : dirErr x = false := by
      cases h6 : dirErr x
      · rfl
      · rw [h6] at h; simp at h
    rw [h6] at h
    simp only [Bool.true_eq_false, Bool.false_eq_true, if_false] at h
    have hcb := (sky_ok h0).2.2 c (catOf_mem hc)
    simp only [dirErr, Bool.or_eq_false_iff, Bool.not_eq_false', Bool.and_eq_false_iff, beq_eq_false_iff_ne] at h6
    obtain ⟨⟨h7, h8⟩, h9⟩ := h6
    have h7 := (near_iff _ _).1 h7
    have h9 := (within_iff _ _ _).1 h9
    refine ⟨h0, by omega, ht, ⟨st, hst⟩, fun _ => ⟨c, hc, hcb⟩, fun _ => ⟨h7.1, h7.2, h9, by omega⟩, fun h => absurd h h4, fun hk => ?_⟩
    rw [if_pos hk] at h
    cases h10 : within x.hi 1 134217728
    · rw [h10] at h; simp at h
    · exact (within_iff _ _ _).1 h10

def orig (s : Sky) (x : Sight) : Vec := optV (whereM s x.station x.tick)
def biasLo (s : Sky) (x : Sight) : Int := ((catOf s.catalogs x.catalog).getD ⟨0, 0, 0⟩).lo - x.err
def biasHi (s : Sky) (x : Sight) : Int := ((catOf s.catalogs x.catalog).getD ⟨0, 0, 0⟩).hi + x.err
theorem SightOK.orig_bd {s : Sky} {x : Sight} (h : SightOK s x) : (-34603008 ≤ (orig s x).x ∧ (orig s x).x ≤ 34603008) ∧ (-34603008 ≤ (orig s x).y ∧ (orig s x).y ≤ 34603008) := by
  obtain ⟨st, hst⟩ := h.stn
  have h1 : orig s x = addV (homeAt s x.tick) st.off := by
    unfold orig
    rw [whereM, if_pos ⟨h.sky, (within_iff _ _ _).2 h.tick⟩, hst]
    rfl
  have h2 := (near_iff _ _).1 (home_ok h.sky x.tick)
  have h3 := (near_iff _ _).1 ((sky_ok h.sky).2.1 st (stnOf_mem hst))
  rw [h1, addV]
  dsimp only
  omega
theorem SightOK.bias_bd {s : Sky} {x : Sight} (h : SightOK s x) (hk : x.kind ≠ 2) : (-1000000 ≤ biasLo s x ∧ biasLo s x ≤ 1000000) ∧ (-1000000 ≤ biasHi s x ∧ biasHi s x ≤ 1000000) := by
  obtain ⟨c, hc, h1, h2, h3⟩ := h.cat hk
  obtain ⟨_, _, h4, _⟩ := h.dir hk
  unfold biasLo biasHi
  rw [hc]
  simp only [Option.getD_some]
  omega

def lookV (s : Sky) (x : Sight) : Value :=
  if x.kind = 2 then .iface 183 (.agg #[.int .i64 (orig s x).x, .int .i64 (orig s x).y, .int .i64 x.lo, .int .i64 x.hi])
  else if x.kind = 1 then .iface 187 (.agg #[.int .i64 (orig s x).x, .int .i64 (orig s x).y, .int .i64 x.dx, .int .i64 x.dy, .int .i64 (biasLo s x), .int .i64 (biasHi s x)])
  else .iface 189 (.agg #[.int .i64 (orig s x).x, .int .i64 (orig s x).y, .int .i64 x.dx, .int .i64 x.dy, .int .i64 (biasLo s x), .int .i64 (biasHi s x), .int .i64 x.hi])

set_option maxRecDepth 4000 in
set_option maxHeartbeats 1000000 in
theorem lookOf_c (A1 : Option Addr) (n1 c1 : Nat) (home : Int) (A2 : Option Addr) (n2 c2 : Nat) (A3 : Option Addr) (n3 c3 : Nat) (s : Sky) (kind st cat tick dx dy er lo hi : Int) (w : World) (hs : IsSky w A1 n1 home A2 n2 A3 n3 s)
    (hok : SightOK s ⟨kind, st, cat, tick, dx, dy, er, lo, hi⟩) :
    Calls Tryz.prog 119 #[.agg #[.slice A1 n1 c1, .int .i64 home, .slice A2 n2 c2, .slice A3 n3 c3], .agg #[.int .i64 kind, .int .i64 st, .int .i64 cat, .int .i64 tick, .int .i64 dx, .int .i64 dy, .int .i64 er, .int .i64 lo, .int .i64 hi]] w fun e w' =>
      e = .returned (lookV s ⟨kind, st, cat, tick, dx, dy, er, lo, hi⟩) ∧ Ext w w' := by
  unfold lookV orig biasLo biasHi
  dsimp only
  by_cases h2 : kind = 2
  · have h2' : (kind == 2) = true := by simpa using h2
    rw [if_pos h2]
    clear h2 hok
    go_enter Tryz.func119, Tryz.ntmps119
    go_wp2_with fail
    refine (Where_c _ _ _ _ _ _ _ _ _ _ s _ _ _ (IsSky.ext ext_by hs)).mono ?_
    rintro e w1 ⟨rfl, h1⟩; obtain ⟨hc_w1, hf_w1, hz_w1⟩ := bcell h1; (try simp only [szA] at hz_w1); have : w.heap.size < w1.heap.size := (by omega); have : w.heap.size + 1 < w1.heap.size := (by omega)
    go_wp2_with fail
    go_ret
    exact ⟨rfl, ext_by⟩
  · have h2' : (kind == 2) = false := by simpa using h2
    rw [if_neg h2]
    obtain ⟨c, hc, hc1, hc2, hc3⟩ := hok.cat h2
    obtain ⟨_, _, ⟨he1, he2⟩, _⟩ := hok.dir h2
    dsimp only at hc he1 he2
    rw [hc]
    simp only [Option.getD_some]
    have Hc := Lib.hid hc
    clear hc hok
    by_cases h1 : kind = 1
    · have h1' : (kind == 1) = true := by simpa using h1
      rw [if_pos h1]
      clear h1 h2
      go_enter Tryz.func119, Tryz.ntmps119
      go_wp2_with fail
      refine (Where_c _ _ _ _ _ _ _ _ _ _ s _ _ _ (IsSky.ext ext_by hs)).mono ?_
      rintro e w1 ⟨rfl, h1⟩; obtain ⟨hc_w1, hf_w1, hz_w1⟩ := bcell h1; (try simp only [szA] at hz_w1); have : w.heap.size < w1.heap.size := (by omega); have : w.heap.size + 1 < w1.heap.size := (by omega)
      go_wp2_with fail
      refine (catalog_c _ _ _ _ _ _ _ _ _ _ _ s.catalogs _ (IsSky.ext ext_by hs).catalogs).mono ?_
      rw [Hc.out]
      rintro e w2 ⟨rfl, h2⟩; obtain ⟨hc_w2, hf_w2, hz_w2⟩ := bcell h2; (try simp only [szA] at hz_w2); have : w.heap.size < w2.heap.size := (by omega); have : w.heap.size + 1 < w2.heap.size := (by omega)
      have hw1 : w1.heap.size < w2.heap.size := by omega
      go_wp2_with fail
      go_ret
      exact ⟨rfl, ext_by⟩
    · have h1' : (kind == 1) = false := by simpa using h1
      rw [if_neg h1]
      clear h1 h2
      go_enter Tryz.func119, Tryz.ntmps119
      go_wp2_with fail
      refine (Where_c _ _ _ _ _ _ _ _ _ _ s _ _ _ (IsSky.ext ext_by hs)).mono ?_
      rintro e w1 ⟨rfl, h1⟩; obtain ⟨hc_w1, hf_w1, hz_w1⟩ := bcell h1; (try simp only [szA] at hz_w1); have : w.heap.size < w1.heap.size := (by omega); have : w.heap.size + 1 < w1.heap.size := (by omega)
      go_wp2_with fail
      refine (catalog_c _ _ _ _ _ _ _ _ _ _ _ s.catalogs _ (IsSky.ext ext_by hs).catalogs).mono ?_
      rw [Hc.out]
      rintro e w2 ⟨rfl, h2⟩; obtain ⟨hc_w2, hf_w2, hz_w2⟩ := bcell h2; (try simp only [szA] at hz_w2); have : w.heap.size < w2.heap.size := (by omega); have : w.heap.size + 1 < w2.heap.size := (by omega)
      have hw1 : w1.heap.size < w2.heap.size := by omega
      go_wp2_with fail
      go_ret
      exact ⟨rfl, ext_by⟩
end Go.Proofs.YtfniicgoeljmdaaGreat

namespace Go.Proofs.YtfniicgoeljmdaaGreat
open Go.RowKit

def agreesM (s : Sky) (x : Sight) (px py : Int) : Bool :=
  if x.kind = 2 then within (distD px py (orig s x).x (orig s x).y) (x.lo * x.lo) (x.hi * x.hi)
  else if x.kind = 1 then inB (orig s x).x (orig s x).y x.dx x.dy (biasLo s x) (biasHi s x) px py
  else !inB (orig s x).x (orig s x).y x.dx x.dy (biasLo s x) (biasHi s x) px py || decide (x.hi * x.hi < distD px py (orig s x).x (orig s x).y)
def agreesAll (s : Sky) (x : Sight) (px py : Int) : Bool := decide (sightErr2 s x = 0) && near ⟨px, py⟩ 33554432 && agreesM s x px py

theorem SightOK.cb {s : Sky} {x : Sight} (h : SightOK s x) (hk : x.kind ≠ 2) {px py : Int} (hp : near ⟨px, py⟩ 33554432 = true) : CB (orig s x).x (orig s x).y x.dx x.dy px py := by
  have h1 := h.orig_bd
  obtain ⟨h2, h3, _, _⟩ := h.dir hk
  have h4 := (near_iff _ _).1 hp
  exact ⟨h1.1, h1.2, h2, h3, h4.1, h4.2⟩
theorem SightOK.diff {s : Sky} {x : Sight} (h : SightOK s x) {px py : Int} (hp : near ⟨px, py⟩ 33554432 = true) :
    (-68157440 ≤ px - (orig s x).x ∧ px - (orig s x).x ≤ 68157440) ∧ (-68157440 ≤ py - (orig s x).y ∧ py - (orig s x).y ≤ 68157440) := by
  have h1 := h.orig_bd
  have h4 := (near_iff _ _).1 hp
  dsimp only at h4
  omega

set_option maxRecDepth 4000 in
set_option maxHeartbeats 2000000 in
theorem Agrees_c (A1 : Option Addr) (n1 c1 : Nat) (home : Int) (A2 : Option Addr) (n2 c2 : Nat) (A3 : Option Addr) (n3 c3 : Nat) (s : Sky) (kind st cat tick dx dy er lo hi px py : Int) (w : World) (hs : IsSky w A1 n1 home A2 n2 A3 n3 s) :
    Calls Tryz.prog 64 #[.agg #[.slice A1 n1 c1, .int .i64 home, .slice A2 n2 c2, .slice A3 n3 c3], .agg #[.int .i64 kind, .int .i64 st, .int .i64 cat, .int .i64 tick, .int .i64 dx, .int .i64 dy, .int .i64 er, .int .i64 lo, .int .i64 hi], .agg #[.int .i64 px, .int .i64 py]] w fun e w' =>
      e = .returned (.bool (agreesAll s ⟨kind, st, cat, tick, dx, dy, er, lo, hi⟩ px py)) ∧ Ext w w' := by
  unfold agreesAll agreesM
  dsimp only
  have HC := Lib.hid fun W (hW : Ext w W) => CheckSight_c A1 n1 c1 home A2 n2 c2 A3 n3 c3 s kind st cat tick dx dy er lo hi W (hs.ext hW)
  have HL := Lib.hid fun W (hW : Ext w W) => lookOf_c A1 n1 c1 home A2 n2 c2 A3 n3 c3 s kind st cat tick dx dy er lo hi W (hs.ext hW)
  have HN := Lib.hid fun W => near_c px py 33554432 W (by omega) (by omega)
  by_cases hok : sightErr2 s ⟨kind, st, cat, tick, dx, dy, er, lo, hi⟩ = 0
  · have hv := sight_ok hok
    cases hn : near ⟨px, py⟩ 33554432
    · rw [hok] at HC
      rw [hn] at HN
      have Hok := Lib.hid hok
      clear hok hv hn HL
      go_enter Tryz.func64, Tryz.ntmps64
      go_wp2_with fail
      refine wp_region_text (by kernel_rfl) (by kernel_rfl) ?_
      repeat' (first | (refine bl_off (by rfl) ?_; simp only [putX]) | (apply bl_op; rfl; (intro w1 h1; obtain ⟨hc, hf, hz⟩ := bcell h1; go_simp; (try go_bits); (first | exact ⟨rfl, Ext.refl _⟩ | (apply gives_call; first | (go_at_call 117; exact HC.out _ ext_by) | (go_at_call 118; exact HN.out _)) | (go_invoke; go_simp; apply gives_call; first | (go_at_call 117; exact HC.out _ ext_by) | (go_at_call 118; exact HN.out _)))); simp only [putX]) | (refine bl_split rfl rfl (fun hx => ?_) (fun hx => ?_) <;> simp only [hx]))
      all_goals refine bl_nil ?_
      all_goals intro w2 h2
      all_goals go_wp2_with fail
      all_goals go_ret
      all_goals refine ⟨?_, ext_by⟩
      all_goals simp_all
    · rw [hok] at HC
      rw [hn] at HN
      have HLv := Lib.hid fun W hW => HL.out W hW hv
      clear HL
      by_cases hk2 : kind = 2
      · have hd := hv.diff hn
        have hr := hv.reach hk2
        have HA := Lib.hid fun W => reachAgrees_c (orig s ⟨kind, st, cat, tick, dx, dy, er, lo, hi⟩).x (orig s ⟨kind, st, cat, tick, dx, dy, er, lo, hi⟩).y lo hi px py W hd.1 hd.2 (by dsimp only at hr; omega) (by dsimp only at hr; omega)
        rw [lookV, if_pos hk2] at HLv
        rw [if_pos hk2, hok]
        dsimp only at HLv
        generalize orig s ⟨kind, st, cat, tick, dx, dy, er, lo, hi⟩ = o at *
        clear hok hv hd hr hk2 hn
        go_enter Tryz.func64, Tryz.ntmps64
        go_wp2_with fail
        refine wp_region_text (by kernel_rfl) (by kernel_rfl) ?_
        repeat' (first | (refine bl_off (by rfl) ?_; simp only [putX]) | (apply bl_op; rfl; (intro w1 h1; obtain ⟨hc, hf, hz⟩ := bcell h1; go_simp; (try go_bits); (first | exact ⟨rfl, Ext.refl _⟩ | (apply gives_call; first | (go_at_call 117; exact HC.out _ ext_by) | (go_at_call 118; exact HN.out _) | (go_at_call 119; exact HLv.out _ ext_by) | (go_at_call 297; exact HA.out _)) | (go_invoke; go_simp; apply gives_call; first | (go_at_call 117; exact HC.out _ ext_by) | (go_at_call 118; exact HN.out _) | (go_at_call 119; exact HLv.out _ ext_by) | (go_at_call 297; exact HA.out _)))); simp only [putX]) | (refine bl_split rfl rfl (fun hx => ?_) (fun hx => ?_) <;> simp only [hx]))
        all_goals refine bl_nil ?_
        all_goals intro w2 h2
        all_goals go_wp2_with fail
        all_goals go_ret
        all_goals refine ⟨?_, ext_by⟩
        all_goals simp_all
      · have hcb := hv.cb hk2 hn
        have hb := hv.bias_bd hk2
        have hf := hv.far
        rw [lookV, if_neg hk2] at HLv
        rw [if_neg hk2, hok]
        by_cases hk1 : kind = 1
        · have HA := Lib.hid fun W => angleAgrees_c (orig s ⟨kind, st, cat, tick, dx, dy, er, lo, hi⟩).x (orig s ⟨kind, st, cat, tick, dx, dy, er, lo, hi⟩).y dx dy (biasLo s ⟨kind, st, cat, tick, dx, dy, er, lo, hi⟩) (biasHi s ⟨kind, st, cat, tick, dx, dy, er, lo, hi⟩) px py W hcb hb.1 hb.2
          rw [if_pos hk1] at HLv
          rw [if_pos hk1]
          dsimp only at HLv
          generalize orig s ⟨kind, st, cat, tick, dx, dy, er, lo, hi⟩ = o at *
          generalize biasLo s ⟨kind, st, cat, tick, dx, dy, er, lo, hi⟩ = bl at *
          generalize biasHi s ⟨kind, st, cat, tick, dx, dy, er, lo, hi⟩ = bh at *
          clear hok hv hcb hb hn hk2 hk1 hf
          go_enter Tryz.func64, Tryz.ntmps64
          go_wp2_with fail
          refine wp_region_text (by kernel_rfl) (by kernel_rfl) ?_
          repeat' (first | (refine bl_off (by rfl) ?_; simp only [putX]) | (apply bl_op; rfl; (intro w1 h1; obtain ⟨hc, hf, hz⟩ := bcell h1; go_simp; (try go_bits); (first | exact ⟨rfl, Ext.refl _⟩ | (apply gives_call; first | (go_at_call 117; exact HC.out _ ext_by) | (go_at_call 118; exact HN.out _) | (go_at_call 119; exact HLv.out _ ext_by) | (go_at_call 298; exact HA.out _)) | (go_invoke; go_simp; apply gives_call; first | (go_at_call 117; exact HC.out _ ext_by) | (go_at_call 118; exact HN.out _) | (go_at_call 119; exact HLv.out _ ext_by) | (go_at_call 298; exact HA.out _)))); simp only [putX]) | (refine bl_split rfl rfl (fun hx => ?_) (fun hx => ?_) <;> simp only [hx]))
          all_goals refine bl_nil ?_
          all_goals intro w2 h2
          all_goals go_wp2_with fail
          all_goals go_ret
          all_goals refine ⟨?_, ext_by⟩
          all_goals simp_all
        · have hk3 : kind = 3 := by have := hv.kind; dsimp only at this; omega
          have HA := Lib.hid fun W => emptyAgrees_c (orig s ⟨kind, st, cat, tick, dx, dy, er, lo, hi⟩).x (orig s ⟨kind, st, cat, tick, dx, dy, er, lo, hi⟩).y dx dy (biasLo s ⟨kind, st, cat, tick, dx, dy, er, lo, hi⟩) (biasHi s ⟨kind, st, cat, tick, dx, dy, er, lo, hi⟩) hi px py W hcb hb.1 hb.2 (by have := hf hk3; dsimp only at this; omega)
          rw [if_neg hk1] at HLv
          rw [if_neg hk1]
          clear hk3
          dsimp only at HLv
          generalize orig s ⟨kind, st, cat, tick, dx, dy, er, lo, hi⟩ = o at *
          generalize biasLo s ⟨kind, st, cat, tick, dx, dy, er, lo, hi⟩ = bl at *
          generalize biasHi s ⟨kind, st, cat, tick, dx, dy, er, lo, hi⟩ = bh at *
          clear hok hv hcb hb hn hk2 hk1 hf
          go_enter Tryz.func64, Tryz.ntmps64
          go_wp2_with fail
          refine wp_region_text (by kernel_rfl) (by kernel_rfl) ?_
          repeat' (first | (refine bl_off (by rfl) ?_; simp only [putX]) | (apply bl_op; rfl; (intro w1 h1; obtain ⟨hc, hf, hz⟩ := bcell h1; go_simp; (try go_bits); (first | exact ⟨rfl, Ext.refl _⟩ | (apply gives_call; first | (go_at_call 117; exact HC.out _ ext_by) | (go_at_call 118; exact HN.out _) | (go_at_call 119; exact HLv.out _ ext_by) | (go_at_call 299; exact HA.out _)) | (go_invoke; go_simp; apply gives_call; first | (go_at_call 117; exact HC.out _ ext_by) | (go_at_call 118; exact HN.out _) | (go_at_call 119; exact HLv.out _ ext_by) | (go_at_call 299; exact HA.out _)))); simp only [putX]) | (refine bl_split rfl rfl (fun hx => ?_) (fun hx => ?_) <;> simp only [hx]))
          all_goals refine bl_nil ?_
          all_goals intro w2 h2
          all_goals go_wp2_with fail
          all_goals go_ret
          all_goals refine ⟨?_, ext_by⟩
          all_goals simp_all
  · have hok' : (sightErr2 s ⟨kind, st, cat, tick, dx, dy, er, lo, hi⟩ == 0) = false := by simpa using hok
    go_enter Tryz.func64, Tryz.ntmps64
    go_wp2_with fail
    refine wp_region_text (by kernel_rfl) (by kernel_rfl) ?_
    repeat' (first | (refine bl_off (by rfl) ?_; simp only [putX]) | (apply bl_op; rfl; (intro w1 h1; obtain ⟨hc, hf, hz⟩ := bcell h1; go_simp; (try go_bits); (first | exact ⟨rfl, Ext.refl _⟩ | (apply gives_call; first | (go_at_call 117; exact HC.out _ ext_by)) | (go_invoke; go_simp; apply gives_call; first | (go_at_call 117; exact HC.out _ ext_by)))); simp only [putX]) | (refine bl_split rfl rfl (fun hx => ?_) (fun hx => ?_) <;> simp only [hx]))
    all_goals refine bl_nil ?_
    all_goals intro w2 h2
    all_goals go_wp2_with fail
    all_goals go_ret
    all_goals refine ⟨?_, ext_by⟩
    all_goals simp_all
end Go.Proofs.YtfniicgoeljmdaaGreat
