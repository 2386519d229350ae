/- Cones, distances and looks: what the program computes within its bounds, where nothing wraps. What looks say, and whether a place agrees with a sight: the program. Whether a place agrees with a sight: the program. Whether a place agrees with a sight: the reference. The chapter's examples that every law of the sky asks; what counts as too great a sky. Guesses, and whether they miss a sight. No condition. Which sight a guess misses: the program and the reference. No condition. What the reference's Miss answers; what counts as too great. No condition. Spans: the program's checks, sums and differences. No condition. -/
import Derived.Test.YtfniicgoeljmdaaGreatWhere
namespace Go.Proofs.YtfniicgoeljmdaaGreat
open Go.RowKit

theorem mul_bd {a b A B : Int} (ha : -A ≤ a ∧ a ≤ A) (hb : -B ≤ b ∧ b ≤ B) : -(A * B) ≤ a * b ∧ a * b ≤ A * B := by
  have h1 : (a * b).natAbs ≤ A.toNat * B.toNat := by
    rw [Int.natAbs_mul]
    exact Nat.mul_le_mul (by omega) (by omega)
  have h2 : ((A.toNat * B.toNat : Nat) : Int) = A * B := by
    rw [Int.natCast_mul, Int.toNat_of_nonneg (by omega), Int.toNat_of_nonneg (by omega)]
  omega

def crossD (fx fy dx dy x y : Int) : Int := dx * (y - fy) - dy * (x - fx)
def dotD (fx fy dx dy x y : Int) : Int := dx * (x - fx) + dy * (y - fy)
def distD (ax ay bx by_ : Int) : Int := (ax - bx) * (ax - bx) + (ay - by_) * (ay - by_)
def behindB (fx fy dx dy x y : Int) : Bool := decide (dotD fx fy dx dy x y ≤ 0)
def belowB (fx fy dx dy lo x y : Int) : Bool := decide (1000000 * crossD fx fy dx dy x y < lo * dotD fx fy dx dy x y)
def aboveB (fx fy dx dy hi x y : Int) : Bool := decide (hi * dotD fx fy dx dy x y < 1000000 * crossD fx fy dx dy x y)
def inB (fx fy dx dy lo hi x y : Int) : Bool := !behindB fx fy dx dy x y && !belowB fx fy dx dy lo x y && !aboveB fx fy dx dy hi x y

structure CB (fx fy dx dy x y : Int) : Prop where
  fx : -34603008 ≤ fx ∧ fx ≤ 34603008
  fy : -34603008 ≤ fy ∧ fy ≤ 34603008
  dx : -4096 ≤ dx ∧ dx ≤ 4096
  dy : -4096 ≤ dy ∧ dy ≤ 4096
  x : -33554432 ≤ x ∧ x ≤ 33554432
  y : -33554432 ≤ y ∧ y ≤ 33554432
theorem CB.prods {fx fy dx dy x y : Int} (h : CB fx fy dx dy x y) :
    (-279172874240 ≤ dx * (y - fy) ∧ dx * (y - fy) ≤ 279172874240) ∧ (-279172874240 ≤ dy * (x - fx) ∧ dy * (x - fx) ≤ 279172874240) ∧
    (-279172874240 ≤ dx * (x - fx) ∧ dx * (x - fx) ≤ 279172874240) ∧ (-279172874240 ≤ dy * (y - fy) ∧ dy * (y - fy) ≤ 279172874240) := by
  obtain ⟨h1, h2, h3, h4, h5, h6⟩ := h
  have e1 : -68157440 ≤ y - fy ∧ y - fy ≤ 68157440 := by omega
  have e2 : -68157440 ≤ x - fx ∧ x - fx ≤ 68157440 := by omega
  exact ⟨mul_bd h3 e1, mul_bd h4 e2, mul_bd h3 e2, mul_bd h4 e1⟩
theorem CB.cross {fx fy dx dy x y : Int} (h : CB fx fy dx dy x y) : -558345748480 ≤ crossD fx fy dx dy x y ∧ crossD fx fy dx dy x y ≤ 558345748480 := by
  obtain ⟨h1, h2, _, _⟩ := h.prods; unfold crossD; omega
theorem CB.dot {fx fy dx dy x y : Int} (h : CB fx fy dx dy x y) : -558345748480 ≤ dotD fx fy dx dy x y ∧ dotD fx fy dx dy x y ≤ 558345748480 := by
  obtain ⟨_, _, h1, h2⟩ := h.prods; unfold dotD; omega

set_option maxRecDepth 4000 in
set_option maxHeartbeats 1000000 in
theorem turns_c (fx fy dx dy lo hi x y : Int) (w : World) (h : CB fx fy dx dy x y) :
    Calls Tryz.prog 217 #[.agg #[.int .i64 fx, .int .i64 fy, .int .i64 dx, .int .i64 dy, .int .i64 lo, .int .i64 hi], .agg #[.int .i64 x, .int .i64 y]] w fun e w' =>
      e = .returned (.tuple #[.int .i64 (crossD fx fy dx dy x y), .int .i64 (dotD fx fy dx dy x y)]) ∧ Ext w w' := by
  obtain ⟨⟨p1, p2⟩, ⟨p3, p4⟩, ⟨p5, p6⟩, p7, p8⟩ := h.prods
  obtain ⟨⟨h1, h2⟩, ⟨h3, h4⟩, ⟨h5, h6⟩, ⟨h7, h8⟩, ⟨h9, h10⟩, h11, h12⟩ := h
  go_enter Tryz.func217, Tryz.ntmps217
  go_wp2_with fail
  refine wp_region_text (by kernel_rfl) (by kernel_rfl) ?_
  repeat' (first | (refine bl_off (by rfl) ?_; simp only [putX]) | (apply bl_op; rfl; (intro w1 h1; obtain ⟨hc, hf, hz⟩ := bcell h1; go_simp; (try go_bits); (first | exact ⟨rfl, Ext.refl _⟩)); simp only [putX]) | (refine bl_split rfl rfl (fun hx => ?_) (fun hx => ?_) <;> simp only [hx]))
  refine bl_nil ?_
  intro w1 h1
  obtain ⟨hc_w1, hf_w1, hz_w1⟩ := bcell h1; (try simp only [szA] at hz_w1); have : w.heap.size < w1.heap.size := (by omega); have : w.heap.size + 1 < w1.heap.size := (by omega)
  go_wp2_with fail
  refine wp_region_text (by kernel_rfl) (by kernel_rfl) ?_
  repeat' (first | (refine bl_off (by rfl) ?_; simp only [putX]) | (apply bl_op; rfl; (intro w1 h1; obtain ⟨hc, hf, hz⟩ := bcell h1; go_simp; (try go_bits); (first | exact ⟨rfl, Ext.refl _⟩)); simp only [putX]) | (refine bl_split rfl rfl (fun hx => ?_) (fun hx => ?_) <;> simp only [hx]))
  refine bl_nil ?_
  intro w2 h2
  go_wp2_with fail
  go_ret2
  exact ⟨rfl, ext_by⟩

set_option maxRecDepth 4000 in
set_option maxHeartbeats 1000000 in
theorem sides_c (fx fy dx dy lo hi x y : Int) (w : World) (h : CB fx fy dx dy x y) (hlo : -1000000 ≤ lo ∧ lo ≤ 1000000) (hhi : -1000000 ≤ hi ∧ hi ≤ 1000000) :
    Calls Tryz.prog 176 #[.agg #[.int .i64 fx, .int .i64 fy, .int .i64 dx, .int .i64 dy, .int .i64 lo, .int .i64 hi], .agg #[.int .i64 x, .int .i64 y]] w fun e w' =>
      e = .returned (.tuple #[.bool (behindB fx fy dx dy x y), .bool (belowB fx fy dx dy lo x y), .bool (aboveB fx fy dx dy hi x y)]) ∧ Ext w w' := by
  obtain ⟨c1, c2⟩ := h.cross
  have hd := h.dot
  obtain ⟨q1, q2⟩ := mul_bd hlo hd
  obtain ⟨q3, q4⟩ := mul_bd hhi hd
  obtain ⟨d1, d2⟩ := hd
  unfold behindB belowB aboveB
  have HT := Lib.hid fun W => turns_c fx fy dx dy lo hi x y W h
  generalize crossD fx fy dx dy x y = C at *
  generalize dotD fx fy dx dy x y = D at *
  clear h hlo hhi
  go_enter Tryz.func176, Tryz.ntmps176
  go_wp2_with fail
  refine (HT.out _).mono ?_
  rintro e w1 ⟨rfl, h1⟩; obtain ⟨hc_w1, hf_w1, hz_w1⟩ := bcell h1; (try simp only [szA] at hz_w1); have : w.heap.size < w1.heap.size := (by omega); have : w.heap.size + 1 < w1.heap.size := (by omega)
  go_wp2_with fail
  refine wp_region_text (by kernel_rfl) (by kernel_rfl) ?_
  repeat' (first | (refine bl_off (by rfl) ?_; simp only [putX]) | (apply bl_op; rfl; (intro w1 h1; obtain ⟨hc, hf, hz⟩ := bcell h1; go_simp; (try go_bits); (first | exact ⟨rfl, Ext.refl _⟩)); simp only [putX]) | (refine bl_split rfl rfl (fun hx => ?_) (fun hx => ?_) <;> simp only [hx]))
  refine bl_nil ?_
  intro w2 h2
  go_wp2_with fail
  go_ret3
  exact ⟨rfl, ext_by⟩

set_option maxHeartbeats 1000000 in
theorem has_c (fx fy dx dy lo hi x y : Int) (w : World) (h : CB fx fy dx dy x y) (hlo : -1000000 ≤ lo ∧ lo ≤ 1000000) (hhi : -1000000 ≤ hi ∧ hi ≤ 1000000) :
    Calls Tryz.prog 182 #[.agg #[.int .i64 fx, .int .i64 fy, .int .i64 dx, .int .i64 dy, .int .i64 lo, .int .i64 hi], .agg #[.int .i64 x, .int .i64 y]] w fun e w' =>
      e = .returned (.bool (inB fx fy dx dy lo hi x y)) ∧ Ext w w' := by
  unfold inB
  have HT := Lib.hid fun W => sides_c fx fy dx dy lo hi x y W h hlo hhi
  generalize behindB fx fy dx dy x y = a at *
  generalize belowB fx fy dx dy lo x y = b at *
  generalize aboveB fx fy dx dy hi x y = c at *
  clear h hlo hhi
  go_enter Tryz.func182, Tryz.ntmps182
  go_wp2_with fail
  refine (HT.out _).mono ?_
  rintro e w1 ⟨rfl, h1⟩; obtain ⟨hc_w1, hf_w1, hz_w1⟩ := bcell h1; (try simp only [szA] at hz_w1); have : w.heap.size < w1.heap.size := (by omega); have : w.heap.size + 1 < w1.heap.size := (by omega)
  cases a <;> cases b <;> cases c
  all_goals go_wp2_with fail
  all_goals go_ret
  all_goals exact ⟨rfl, ext_by⟩

set_option maxHeartbeats 1000000 in
theorem distance_c (ax ay bx by_ : Int) (w : World) (h1 : -68157440 ≤ ax - bx ∧ ax - bx ≤ 68157440) (h2 : -68157440 ≤ ay - by_ ∧ ay - by_ ≤ 68157440) :
    Calls Tryz.prog 178 #[.agg #[.int .i64 ax, .int .i64 ay], .agg #[.int .i64 bx, .int .i64 by_]] w fun e w' =>
      e = .returned (.int .i64 (distD ax ay bx by_)) ∧ Ext w w' := by
  obtain ⟨q1, q2⟩ := mul_bd h1 h1
  obtain ⟨q3, q4⟩ := mul_bd h2 h2
  obtain ⟨h1, h1'⟩ := h1
  obtain ⟨h2, h2'⟩ := h2
  go_enter Tryz.func178, Tryz.ntmps178
  go_wp2_with fail
  go_ret
  exact ⟨rfl, ext_by⟩
end Go.Proofs.YtfniicgoeljmdaaGreat

namespace Go.Proofs.YtfniicgoeljmdaaGreat
open Go.RowKit

set_option maxHeartbeats 1000000 in
theorem angleAgrees_c (fx fy dx dy lo hi x y : Int) (w : World) (h : CB fx fy dx dy x y) (hlo : -1000000 ≤ lo ∧ lo ≤ 1000000) (hhi : -1000000 ≤ hi ∧ hi ≤ 1000000) :
    Calls Tryz.prog 298 #[.agg #[.int .i64 fx, .int .i64 fy, .int .i64 dx, .int .i64 dy, .int .i64 lo, .int .i64 hi], .agg #[.int .i64 x, .int .i64 y]] w fun e w' =>
      e = .returned (.bool (inB fx fy dx dy lo hi x y)) ∧ Ext w w' := by
  go_enter Tryz.func298, Tryz.ntmps298
  go_wp2_with fail
  refine (has_c fx fy dx dy lo hi x y _ h hlo hhi).mono ?_
  rintro e w1 ⟨rfl, h1⟩; obtain ⟨hc_w1, hf_w1, hz_w1⟩ := bcell h1; (try simp only [szA] at hz_w1); have : w.heap.size < w1.heap.size := (by omega); have : w.heap.size + 1 < w1.heap.size := (by omega)
  go_wp2_with fail
  go_ret
  exact ⟨rfl, ext_by⟩

set_option maxHeartbeats 1000000 in
theorem reachAgrees_c (fx fy lo hi x y : Int) (w : World) (h1 : -68157440 ≤ x - fx ∧ x - fx ≤ 68157440) (h2 : -68157440 ≤ y - fy ∧ y - fy ≤ 68157440) (hlo : -134217728 ≤ lo ∧ lo ≤ 134217728) (hhi : -134217728 ≤ hi ∧ hi ≤ 134217728) :
    Calls Tryz.prog 297 #[.agg #[.int .i64 fx, .int .i64 fy, .int .i64 lo, .int .i64 hi], .agg #[.int .i64 x, .int .i64 y]] w fun e w' =>
      e = .returned (.bool (within (distD x y fx fy) (lo * lo) (hi * hi))) ∧ Ext w w' := by
  obtain ⟨q1, q2⟩ := mul_bd hlo hlo
  obtain ⟨q3, q4⟩ := mul_bd hhi hhi
  clear hlo hhi
  go_enter Tryz.func297, Tryz.ntmps297
  go_wp2_with fail
  refine (distance_c x y fx fy _ h1 h2).mono ?_
  rintro e w1 ⟨rfl, h1⟩; obtain ⟨hc_w1, hf_w1, hz_w1⟩ := bcell h1; (try simp only [szA] at hz_w1); have : w.heap.size < w1.heap.size := (by omega); have : w.heap.size + 1 < w1.heap.size := (by omega)
  go_wp2_with (go_at_call 152; refine (within_c _ _ _ _).mono ?_; rintro e w' ⟨rfl, rfl⟩)
  go_ret
  exact ⟨rfl, ext_by⟩

set_option maxRecDepth 4000 in
set_option maxHeartbeats 1000000 in
theorem emptyAgrees_c (fx fy dx dy lo hi far x y : Int) (w : World) (h : CB fx fy dx dy x y) (hlo : -1000000 ≤ lo ∧ lo ≤ 1000000) (hhi : -1000000 ≤ hi ∧ hi ≤ 1000000) (hfar : -134217728 ≤ far ∧ far ≤ 134217728) :
    Calls Tryz.prog 299 #[.agg #[.int .i64 fx, .int .i64 fy, .int .i64 dx, .int .i64 dy, .int .i64 lo, .int .i64 hi, .int .i64 far], .agg #[.int .i64 x, .int .i64 y]] w fun e w' =>
      e = .returned (.bool (!inB fx fy dx dy lo hi x y || decide (far * far < distD x y fx fy))) ∧ Ext w w' := by
  obtain ⟨q1, q2⟩ := mul_bd hfar hfar
  have HT := Lib.hid fun W => has_c fx fy dx dy lo hi x y W h hlo hhi
  have HD := Lib.hid fun W => distance_c x y fx fy W (by have := h.x; have := h.fx; omega) (by have := h.y; have := h.fy; omega)
  generalize inB fx fy dx dy lo hi x y = B at *
  generalize distD x y fx fy = D at *
  clear h hlo hhi hfar
  go_enter Tryz.func299, Tryz.ntmps299
  go_wp2_with fail
  refine wp_region_text (by kernel_rfl) (by kernel_rfl) ?_
  repeat' (first | (refine bl_off (by rfl) ?_; simp only [putX]) | (apply bl_op; rfl; (intro w1 h1; obtain ⟨hc, hf, hz⟩ := bcell h1; go_simp; (try go_bits); (first | exact ⟨rfl, Ext.refl _⟩ | (apply gives_call; first | (go_at_call 182; exact HT.out _) | (go_at_call 178; exact HD.out _)) | (go_invoke; go_simp; apply gives_call; first | (go_at_call 182; exact HT.out _) | (go_at_call 178; exact HD.out _)))); simp only [putX]) | (refine bl_split rfl rfl (fun hx => ?_) (fun hx => ?_) <;> simp only [hx]))
  all_goals refine bl_nil ?_
  all_goals intro w2 h2
  all_goals go_wp2_with fail
  all_goals go_ret
  all_goals refine ⟨?_, ext_by⟩
  all_goals simp_all

structure SightOK (s : Sky) (x : Sight) : Prop where
  sky : skyErr s = 0
  kind : 1 ≤ x.kind ∧ x.kind ≤ 3
  tick : 0 ≤ x.tick ∧ x.tick ≤ 1073741824
  stn : ∃ st, stnOf s.stations x.station = some st
  cat : x.kind ≠ 2 → ∃ c, catOf s.catalogs x.catalog = some c ∧ -500000 ≤ c.lo ∧ c.lo ≤ c.hi ∧ c.hi ≤ 500000
  dir : x.kind ≠ 2 → (-4096 ≤ x.dx ∧ x.dx ≤ 4096) ∧ (-4096 ≤ x.dy ∧ x.dy ≤ 4096) ∧ (0 ≤ x.err ∧ x.err ≤ 500000) ∧ ¬ (x.dx = 0 ∧ x.dy = 0)
  reach : x.kind = 2 → 0 ≤ x.lo ∧ x.lo ≤ x.hi ∧ x.hi ≤ 134217728
  far : x.kind = 3 → 1 ≤ x.hi ∧ x.hi ≤ 134217728

theorem sight_ok {s : Sky} {x : Sight} (h : sightErr2 s x = 0) : SightOK s x := by
  rw [sightErr2] at h
  have h0 : skyErr s = 0 := Decidable.byContradiction fun h0 => by rw [if_pos h0] at h; exact h0 h
  rw [if_neg (by simpa using h0), sightErr] at h
  by_cases h1 : x.kind < 1 ∨ 3 < x.kind
  · rw [if_pos h1] at h; omega
  rw [if_neg h1] at h
  cases h2 : within x.tick 0 1073741824
  · rw [h2] at h; simp at h
  rw [h2] at h
  cases h3 : (stnOf s.stations x.station).isSome
  · rw [h3] at h; simp at h
  rw [h3] at h
  obtain ⟨st, hst⟩ := Option.isSome_iff_exists.1 h3
  simp only [Bool.true_eq_false, if_false] at h
  have ht := (within_iff _ _ _).1 h2
  by_cases h4 : x.kind = 2
  · rw [if_pos h4] at h
    by_cases h5 : x.lo < 0 ∨ x.hi < x.lo ∨ 134217728 < x.hi
    · rw [if_pos h5] at h; omega
    · exact ⟨h0, by omega, ht, ⟨st, hst⟩, fun h => absurd h4 h, fun h => absurd h4 h, fun _ => by omega, fun h => by omega⟩
  · rw [if_neg h4] at h
    cases h5 : (catOf s.catalogs x.catalog).isSome
    · rw [h5] at h; simp at h
    rw [h5] at h
    obtain ⟨c, hc⟩ := Option.isSome_iff_exists.1 h5
    have h6 : dirErr x = false := by
      cases h6 : dirErr x
      · rfl
      · rw [h6] at h; simp at h
    rw [h6] at h
    simp only [Bool.true_eq_false, Bool.false_eq_true, if_false] at h
    have hcb := (sky_ok h0).2.2 c (catOf_mem hc)
    simp only [dirErr, Bool.or_eq_false_iff, Bool.not_eq_false', Bool.and_eq_false_iff, beq_eq_false_iff_ne] at h6
    obtain ⟨⟨h7, h8⟩, h9⟩ := h6
    have h7 := (near_iff _ _).1 h7
    have h9 := (within_iff _ _ _).1 h9
    refine ⟨h0, by omega, ht, ⟨st, hst⟩, fun _ => ⟨c, hc, hcb⟩, fun _ => ⟨h7.1, h7.2, h9, by omega⟩, fun h => absurd h h4, fun hk => ?_⟩
    rw [if_pos hk] at h
    cases h10 : within x.hi 1 134217728
    · rw [h10] at h; simp at h
    · exact (within_iff _ _ _).1 h10

def orig (s : Sky) (x : Sight) : Vec := optV (whereM s x.station x.tick)
def biasLo (s : Sky) (x : Sight) : Int := ((catOf s.catalogs x.catalog).getD ⟨0, 0, 0⟩).lo - x.err
def biasHi (s : Sky) (x : Sight) : Int := ((catOf s.catalogs x.catalog).getD ⟨0, 0, 0⟩).hi + x.err
theorem SightOK.orig_bd {s : Sky} {x : Sight} (h : SightOK s x) : (-34603008 ≤ (orig s x).x ∧ (orig s x).x ≤ 34603008) ∧ (-34603008 ≤ (orig s x).y ∧ (orig s x).y ≤ 34603008) := by
  obtain ⟨st, hst⟩ := h.stn
  have h1 : orig s x = addV (homeAt s x.tick) st.off := by
    unfold orig
    rw [whereM, if_pos ⟨h.sky, (within_iff _ _ _).2 h.tick⟩, hst]
    rfl
  have h2 := (near_iff _ _).1 (home_ok h.sky x.tick)
  have h3 := (near_iff _ _).1 ((sky_ok h.sky).2.1 st (stnOf_mem hst))
  rw [h1, addV]
  dsimp only
  omega
theorem SightOK.bias_bd {s : Sky} {x : Sight} (h : SightOK s x) (hk : x.kind ≠ 2) : (-1000000 ≤ biasLo s x ∧ biasLo s x ≤ 1000000) ∧ (-1000000 ≤ biasHi s x ∧ biasHi s x ≤ 1000000) := by
  obtain ⟨c, hc, h1, h2, h3⟩ := h.cat hk
  obtain ⟨_, _, h4, _⟩ := h.dir hk
  unfold biasLo biasHi
  rw [hc]
  simp only [Option.getD_some]
  omega

def lookV (s : Sky) (x : Sight) : Value :=
  if x.kind = 2 then .iface 183 (.agg #[.int .i64 (orig s x).x, .int .i64 (orig s x).y, .int .i64 x.lo, .int .i64 x.hi])
  else if x.kind = 1 then .iface 187 (.agg #[.int .i64 (orig s x).x, .int .i64 (orig s x).y, .int .i64 x.dx, .int .i64 x.dy, .int .i64 (biasLo s x), .int .i64 (biasHi s x)])
  else .iface 189 (.agg #[.int .i64 (orig s x).x, .int .i64 (orig s x).y, .int .i64 x.dx, .int .i64 x.dy, .int .i64 (biasLo s x), .int .i64 (biasHi s x), .int .i64 x.hi])

set_option maxRecDepth 4000 in
set_option maxHeartbeats 1000000 in
theorem lookOf_c (A1 : Option Addr) (n1 c1 : Nat) (home : Int) (A2 : Option Addr) (n2 c2 : Nat) (A3 : Option Addr) (n3 c3 : Nat) (s : Sky) (kind st cat tick dx dy er lo hi : Int) (w : World) (hs : IsSky w A1 n1 home A2 n2 A3 n3 s)
    (hok : SightOK s ⟨kind, st, cat, tick, dx, dy, er, lo, hi⟩) :
    Calls Tryz.prog 119 #[.agg #[.slice A1 n1 c1, .int .i64 home, .slice A2 n2 c2, .slice A3 n3 c3], .agg #[.int .i64 kind, .int .i64 st, .int .i64 cat, .int .i64 tick, .int .i64 dx, .int .i64 dy, .int .i64 er, .int .i64 lo, .int .i64 hi]] w fun e w' =>
      e = .returned (lookV s ⟨kind, st, cat, tick, dx, dy, er, lo, hi⟩) ∧ Ext w w' := by
  unfold lookV orig biasLo biasHi
  dsimp only
  by_cases h2 : kind = 2
  · have h2' : (kind == 2) = true := by simpa using h2
    rw [if_pos h2]
    clear h2 hok
    go_enter Tryz.func119, Tryz.ntmps119
    go_wp2_with fail
    refine (Where_c _ _ _ _ _ _ _ _ _ _ s _ _ _ (IsSky.ext ext_by hs)).mono ?_
    rintro e w1 ⟨rfl, h1⟩; obtain ⟨hc_w1, hf_w1, hz_w1⟩ := bcell h1; (try simp only [szA] at hz_w1); have : w.heap.size < w1.heap.size := (by omega); have : w.heap.size + 1 < w1.heap.size := (by omega)
    go_wp2_with fail
    go_ret
    exact ⟨rfl, ext_by⟩
  · have h2' : (kind == 2) = false := by simpa using h2
    rw [if_neg h2]
    obtain ⟨c, hc, hc1, hc2, hc3⟩ := hok.cat h2
    obtain ⟨_, _, ⟨he1, he2⟩, _⟩ := hok.dir h2
    dsimp only at hc he1 he2
    rw [hc]
    simp only [Option.getD_some]
    have Hc := Lib.hid hc
    clear hc hok
    by_cases h1 : kind = 1
    · have h1' : (kind == 1) = true := by simpa using h1
      rw [if_pos h1]
      clear h1 h2
      go_enter Tryz.func119, Tryz.ntmps119
      go_wp2_with fail
      refine (Where_c _ _ _ _ _ _ _ _ _ _ s _ _ _ (IsSky.ext ext_by hs)).mono ?_
      rintro e w1 ⟨rfl, h1⟩; obtain ⟨hc_w1, hf_w1, hz_w1⟩ := bcell h1; (try simp only [szA] at hz_w1); have : w.heap.size < w1.heap.size := (by omega); have : w.heap.size + 1 < w1.heap.size := (by omega)
      go_wp2_with fail
      refine (catalog_c _ _ _ _ _ _ _ _ _ _ _ s.catalogs _ (IsSky.ext ext_by hs).catalogs).mono ?_
      rw [Hc.out]
      rintro e w2 ⟨rfl, h2⟩; obtain ⟨hc_w2, hf_w2, hz_w2⟩ := bcell h2; (try simp only [szA] at hz_w2); have : w.heap.size < w2.heap.size := (by omega); have : w.heap.size + 1 < w2.heap.size := (by omega)
      have hw1 : w1.heap.size < w2.heap.size := by omega
      go_wp2_with fail
      go_ret
      exact ⟨rfl, ext_by⟩
    · have h1' : (kind == 1) = false := by simpa using h1
      rw [if_neg h1]
      clear h1 h2
      go_enter Tryz.func119, Tryz.ntmps119
      go_wp2_with fail
      refine (Where_c _ _ _ _ _ _ _ _ _ _ s _ _ _ (IsSky.ext ext_by hs)).mono ?_
      rintro e w1 ⟨rfl, h1⟩; obtain ⟨hc_w1, hf_w1, hz_w1⟩ := bcell h1; (try simp only [szA] at hz_w1); have : w.heap.size < w1.heap.size := (by omega); have : w.heap.size + 1 < w1.heap.size := (by omega)
      go_wp2_with fail
      refine (catalog_c _ _ _ _ _ _ _ _ _ _ _ s.catalogs _ (IsSky.ext ext_by hs).catalogs).mono ?_
      rw [Hc.out]
      rintro e w2 ⟨rfl, h2⟩; obtain ⟨hc_w2, hf_w2, hz_w2⟩ := bcell h2; (try simp only [szA] at hz_w2); have : w.heap.size < w2.heap.size := (by omega); have : w.heap.size + 1 < w2.heap.size := (by omega)
      have hw1 : w1.heap.size < w2.heap.size := by omega
      go_wp2_with fail
      go_ret
      exact ⟨rfl, ext_by⟩
end Go.Proofs.YtfniicgoeljmdaaGreat

namespace Go.Proofs.YtfniicgoeljmdaaGreat
open Go.RowKit

def agreesM (s : Sky) (x : Sight) (px py : Int) : Bool :=
  if x.kind = 2 then within (distD px py (orig s x).x (orig s x).y) (x.lo * x.lo) (x.hi * x.hi)
  else if x.kind = 1 then inB (orig s x).x (orig s x).y x.dx x.dy (biasLo s x) (biasHi s x) px py
  else !inB (orig s x).x (orig s x).y x.dx x.dy (biasLo s x) (biasHi s x) px py || decide (x.hi * x.hi < distD px py (orig s x).x (orig s x).y)
def agreesAll (s : Sky) (x : Sight) (px py : Int) : Bool := decide (sightErr2 s x = 0) && near ⟨px, py⟩ 33554432 && agreesM s x px py

theorem SightOK.cb {s : Sky} {x : Sight} (h : SightOK s x) (hk : x.kind ≠ 2) {px py : Int} (hp : near ⟨px, py⟩ 33554432 = true) : CB (orig s x).x (orig s x).y x.dx x.dy px py := by
  have h1 := h.orig_bd
  obtain ⟨h2, h3, _, _⟩ := h.dir hk
  have h4 := (near_iff _ _).1 hp
  exact ⟨h1.1, h1.2, h2, h3, h4.1, h4.2⟩
theorem SightOK.diff {s : Sky} {x : Sight} (h : SightOK s x) {px py : Int} (hp : near ⟨px, py⟩ 33554432 = true) :
    (-68157440 ≤ px - (orig s x).x ∧ px - (orig s x).x ≤ 68157440) ∧ (-68157440 ≤ py - (orig s x).y ∧ py - (orig s x).y ≤ 68157440) := by
  have h1 := h.orig_bd
  have h4 := (near_iff _ _).1 hp
  dsimp only at h4
  omega

set_option maxRecDepth 4000 in
set_option maxHeartbeats 2000000 in
theorem Agrees_c (A1 : Option Addr) (n1 c1 : Nat) (home : Int) (A2 : Option Addr) (n2 c2 : Nat) (A3 : Option Addr) (n3 c3 : Nat) (s : Sky) (kind st cat tick dx dy er lo hi px py : Int) (w : World) (hs : IsSky w A1 n1 home A2 n2 A3 n3 s) :
    Calls Tryz.prog 64 #[.agg #[.slice A1 n1 c1, .int .i64 home, .slice A2 n2 c2, .slice A3 n3 c3], .agg #[.int .i64 kind, .int .i64 st, .int .i64 cat, .int .i64 tick, .int .i64 dx, .int .i64 dy, .int .i64 er, .int .i64 lo, .int .i64 hi], .agg #[.int .i64 px, .int .i64 py]] w fun e w' =>
      e = .returned (.bool (agreesAll s ⟨kind, st, cat, tick, dx, dy, er, lo, hi⟩ px py)) ∧ Ext w w' := by
  unfold agreesAll agreesM
  dsimp only
  have HC := Lib.hid fun W (hW : Ext w W) => CheckSight_c A1 n1 c1 home A2 n2 c2 A3 n3 c3 s kind st cat tick dx dy er lo hi W (hs.ext hW)
  have HL := Lib.hid fun W (hW : Ext w W) => lookOf_c A1 n1 c1 home A2 n2 c2 A3 n3 c3 s kind st cat tick dx dy er lo hi W (hs.ext hW)
  have HN := Lib.hid fun W => near_c px py 33554432 W (by omega) (by omega)
  by_cases hok : sightErr2 s ⟨kind, st, cat, tick, dx, dy, er, lo, hi⟩ = 0
  · have hv := sight_ok hok
    cases hn : near ⟨px, py⟩ 33554432
    · rw [hok] at HC
      rw [hn] at HN
      have Hok := Lib.hid hok
      clear hok hv hn HL
      go_enter Tryz.func64, Tryz.ntmps64
      go_wp2_with fail
      refine wp_region_text (by kernel_rfl) (by kernel_rfl) ?_
      repeat' (first | (refine bl_off (by rfl) ?_; simp only [putX]) | (apply bl_op; rfl; (intro w1 h1; obtain ⟨hc, hf, hz⟩ := bcell h1; go_simp; (try go_bits); (first | exact ⟨rfl, Ext.refl _⟩ | (apply gives_call; first | (go_at_call 117; exact HC.out _ ext_by) | (go_at_call 118; exact HN.out _)) | (go_invoke; go_simp; apply gives_call; first | (go_at_call 117; exact HC.out _ ext_by) | (go_at_call 118; exact HN.out _)))); simp only [putX]) | (refine bl_split rfl rfl (fun hx => ?_) (fun hx => ?_) <;> simp only [hx]))
      all_goals refine bl_nil ?_
      all_goals intro w2 h2
      all_goals go_wp2_with fail
      all_goals go_ret
      all_goals refine ⟨?_, ext_by⟩
      all_goals simp_all
    · rw [hok] at HC
      rw [hn] at HN
      have HLv := Lib.hid fun W hW => HL.out W hW hv
      clear HL
      by_cases hk2 : kind = 2
      · have hd := hv.diff hn
        have hr := hv.reach hk2
        have HA := Lib.hid fun W => reachAgrees_c (orig s ⟨kind, st, cat, tick, dx, dy, er, lo, hi⟩).x (orig s ⟨kind, st, cat, tick, dx, dy, er, lo, hi⟩).y lo hi px py W hd.1 hd.2 (by dsimp only at hr; omega) (by dsimp only at hr; omega)
        rw [lookV, if_pos hk2] at HLv
        rw [if_pos hk2, hok]
        dsimp only at HLv
        generalize orig s ⟨kind, st, cat, tick, dx, dy, er, lo, hi⟩ = o at *
        clear hok hv hd hr hk2 hn
        go_enter Tryz.func64, Tryz.ntmps64
        go_wp2_with fail
        refine wp_region_text (by kernel_rfl) (by kernel_rfl) ?_
        repeat' (first | (refine bl_off (by rfl) ?_; simp only [putX]) | (apply bl_op; rfl; (intro w1 h1; obtain ⟨hc, hf, hz⟩ := bcell h1; go_simp; (try go_bits); (first | exact ⟨rfl, Ext.refl _⟩ | (apply gives_call; first | (go_at_call 117; exact HC.out _ ext_by) | (go_at_call 118; exact HN.out _) | (go_at_call 119; exact HLv.out _ ext_by) | (go_at_call 297; exact HA.out _)) | (go_invoke; go_simp; apply gives_call; first | (go_at_call 117; exact HC.out _ ext_by) | (go_at_call 118; exact HN.out _) | (go_at_call 119; exact HLv.out _ ext_by) | (go_at_call 297; exact HA.out _)))); simp only [putX]) | (refine bl_split rfl rfl (fun hx => ?_) (fun hx => ?_) <;> simp only [hx]))
        all_goals refine bl_nil ?_
        all_goals intro w2 h2
        all_goals go_wp2_with fail
        all_goals go_ret
        all_goals refine ⟨?_, ext_by⟩
        all_goals simp_all
      · have hcb := hv.cb hk2 hn
        have hb := hv.bias_bd hk2
        have hf := hv.far
        rw [lookV, if_neg hk2] at HLv
        rw [if_neg hk2, hok]
        by_cases hk1 : kind = 1
        · have HA := Lib.hid fun W => angleAgrees_c (orig s ⟨kind, st, cat, tick, dx, dy, er, lo, hi⟩).x (orig s ⟨kind, st, cat, tick, dx, dy, er, lo, hi⟩).y dx dy (biasLo s ⟨kind, st, cat, tick, dx, dy, er, lo, hi⟩) (biasHi s ⟨kind, st, cat, tick, dx, dy, er, lo, hi⟩) px py W hcb hb.1 hb.2
          rw [if_pos hk1] at HLv
          rw [if_pos hk1]
          dsimp only at HLv
          generalize orig s ⟨kind, st, cat, tick, dx, dy, er, lo, hi⟩ = o at *
          generalize biasLo s ⟨kind, st, cat, tick, dx, dy, er, lo, hi⟩ = bl at *
          generalize biasHi s ⟨kind, st, cat, tick, dx, dy, er, lo, hi⟩ = bh at *
          clear hok hv hcb hb hn hk2 hk1 hf
          go_enter Tryz.func64, Tryz.ntmps64
          go_wp2_with fail
          refine wp_region_text (by kernel_rfl) (by kernel_rfl) ?_
          repeat' (first | (refine bl_off (by rfl) ?_; simp only [putX]) | (apply bl_op; rfl; (intro w1 h1; obtain ⟨hc, hf, hz⟩ := bcell h1; go_simp; (try go_bits); (first | exact ⟨rfl, Ext.refl _⟩ | (apply gives_call; first | (go_at_call 117; exact HC.out _ ext_by) | (go_at_call 118; exact HN.out _) | (go_at_call 119; exact HLv.out _ ext_by) | (go_at_call 298; exact HA.out _)) | (go_invoke; go_simp; apply gives_call; first | (go_at_call 117; exact HC.out _ ext_by) | (go_at_call 118; exact HN.out _) | (go_at_call 119; exact HLv.out _ ext_by) | (go_at_call 298; exact HA.out _)))); simp only [putX]) | (refine bl_split rfl rfl (fun hx => ?_) (fun hx => ?_) <;> simp only [hx]))
          all_goals refine bl_nil ?_
          all_goals intro w2 h2
          all_goals go_wp2_with fail
          all_goals go_ret
          all_goals refine ⟨?_, ext_by⟩
          all_goals simp_all
        · have hk3 : kind = 3 := by have := hv.kind; dsimp only at this; omega
          have HA := Lib.hid fun W => emptyAgrees_c (orig s ⟨kind, st, cat, tick, dx, dy, er, lo, hi⟩).x (orig s ⟨kind, st, cat, tick, dx, dy, er, lo, hi⟩).y dx dy (biasLo s ⟨kind, st, cat, tick, dx, dy, er, lo, hi⟩) (biasHi s ⟨kind, st, cat, tick, dx, dy, er, lo, hi⟩) hi px py W hcb hb.1 hb.2 (by have := hf hk3; dsimp only at this; omega)
          rw [if_neg hk1] at HLv
          rw [if_neg hk1]
          clear hk3
          dsimp only at HLv
          generalize orig s ⟨kind, st, cat, tick, dx, dy, er, lo, hi⟩ = o at *
          generalize biasLo s ⟨kind, st, cat, tick, dx, dy, er, lo, hi⟩ = bl at *
          generalize biasHi s ⟨kind, st, cat, tick, dx, dy, er, lo, hi⟩ = bh at *
          clear hok hv hcb hb hn hk2 hk1 hf
          go_enter Tryz.func64, Tryz.ntmps64
          go_wp2_with fail
          refine wp_region_text (by kernel_rfl) (by kernel_rfl) ?_
          repeat' (first | (refine bl_off (by rfl) ?_; simp only [putX]) | (apply bl_op; rfl; (intro w1 h1; obtain ⟨hc, hf, hz⟩ := bcell h1; go_simp; (try go_bits); (first | exact ⟨rfl, Ext.refl _⟩ | (apply gives_call; first | (go_at_call 117; exact HC.out _ ext_by) | (go_at_call 118; exact HN.out _) | (go_at_call 119; exact HLv.out _ ext_by) | (go_at_call 299; exact HA.out _)) | (go_invoke; go_simp; apply gives_call; first | (go_at_call 117; exact HC.out _ ext_by) | (go_at_call 118; exact HN.out _) | (go_at_call 119; exact HLv.out _ ext_by) | (go_at_call 299; exact HA.out _)))); simp only [putX]) | (refine bl_split rfl rfl (fun hx => ?_) (fun hx => ?_) <;> simp only [hx]))
          all_goals refine bl_nil ?_
          all_goals intro w2 h2
          all_goals go_wp2_with fail
          all_goals go_ret
          all_goals refine ⟨?_, ext_by⟩
          all_goals simp_all
  · have hok' : (sightErr2 s ⟨kind, st, cat, tick, dx, dy, er, lo, hi⟩ == 0) = false := by simpa using hok
    go_enter Tryz.func64, Tryz.ntmps64
    go_wp2_with fail
    refine wp_region_text (by kernel_rfl) (by kernel_rfl) ?_
    repeat' (first | (refine bl_off (by rfl) ?_; simp only [putX]) | (apply bl_op; rfl; (intro w1 h1; obtain ⟨hc, hf, hz⟩ := bcell h1; go_simp; (try go_bits); (first | exact ⟨rfl, Ext.refl _⟩ | (apply gives_call; first | (go_at_call 117; exact HC.out _ ext_by)) | (go_invoke; go_simp; apply gives_call; first | (go_at_call 117; exact HC.out _ ext_by)))); simp only [putX]) | (refine bl_split rfl rfl (fun hx => ?_) (fun hx => ?_) <;> simp only [hx]))
    all_goals refine bl_nil ?_
    all_goals intro w2 h2
    all_goals go_wp2_with fail
    all_goals go_ret
    all_goals refine ⟨?_, ext_by⟩
    all_goals simp_all
end Go.Proofs.YtfniicgoeljmdaaGreat

namespace Go.Proofs.YtfniicgoeljmdaaGreat
open Go.RowKit

theorem stn_at {l : List Stn} {id : Int} {x : Stn} (h : stnOf l id = some x) : ∃ i : Nat, idxFrom (fun x : Stn => x.id == id) l 0 = i ∧ l[i]? = some x := by
  rcases idx_cases (fun x : Stn => x.id == id) l with ⟨_, h2⟩ | ⟨i, y, _, h1, h3, h2⟩
  · rw [stnOf, h2] at h; cases h
  · rw [stnOf, h2] at h; cases h; exact ⟨i, h1, h3⟩
theorem cat_at {l : List Cat} {id : Int} {x : Cat} (h : catOf l id = some x) : ∃ i : Nat, idxFrom (fun x : Cat => x.version == id) l 0 = i ∧ l[i]? = some x := by
  rcases idx_cases (fun x : Cat => x.version == id) l with ⟨_, h2⟩ | ⟨i, y, _, h1, h3, h2⟩
  · rw [catOf, h2] at h; cases h
  · rw [catOf, h2] at h; cases h; exact ⟨i, h1, h3⟩

set_option maxRecDepth 4000 in
set_option maxHeartbeats 1000000 in
theorem from_c (A1 : Option Addr) (n1 c1 : Nat) (home : Int) (A2 : Option Addr) (n2 c2 : Nat) (A3 : Option Addr) (n3 c3 : Nat) (s : Sky) (kind st cat tick dx dy er lo hi px py : Int) (w : World) (hs : IsSky w A1 n1 home A2 n2 A3 n3 s)
    (hv : SightOK s ⟨kind, st, cat, tick, dx, dy, er, lo, hi⟩) (hn : near ⟨px, py⟩ 33554432 = true) :
    Calls Tryz.prog 218 #[.agg #[.slice A1 n1 c1, .int .i64 home, .slice A2 n2 c2, .slice A3 n3 c3], .agg #[.int .i64 kind, .int .i64 st, .int .i64 cat, .int .i64 tick, .int .i64 dx, .int .i64 dy, .int .i64 er, .int .i64 lo, .int .i64 hi], .agg #[.int .i64 px, .int .i64 py]] w fun e w' =>
      e = .returned (.agg #[.int .i64 (px - (orig s ⟨kind, st, cat, tick, dx, dy, er, lo, hi⟩).x), .int .i64 (py - (orig s ⟨kind, st, cat, tick, dx, dy, er, lo, hi⟩).y)]) ∧ Ext w w' := by
  obtain ⟨⟨d1, d2⟩, d3, d4⟩ := hv.diff hn
  obtain ⟨x, hx⟩ := hv.stn
  obtain ⟨i, hi1, hi2⟩ := stn_at hx
  have ho : orig s ⟨kind, st, cat, tick, dx, dy, er, lo, hi⟩ = addV (homeAt s tick) x.off := by
    unfold orig
    rw [whereM, if_pos ⟨hv.sky, (within_iff _ _ _).2 hv.tick⟩, hx]
    rfl
  have HS := Lib.hid fun W (hW : Ext w W) => refStation_c A1 n1 c1 home A2 n2 c2 A3 n3 c3 st s.stations W (hs.ext hW).stations
  have HW := Lib.hid fun W (hW : Ext w W) => refwhere_c A1 n1 c1 home A2 n2 c2 A3 n3 c3 s i x tick W (hs.ext hW) hv.sky hi2 hv.tick.1 hv.tick.2
  dsimp only at hi1
  rw [hi1] at HS
  rw [← ho] at HW
  generalize orig s ⟨kind, st, cat, tick, dx, dy, er, lo, hi⟩ = o at *
  clear ho hi1 hi2 hx hv hn
  go_enter Tryz.func218, Tryz.ntmps218
  go_wp2_with fail
  refine wp_region_tail 8 (Ext _) (Ext _) (Stable.ext _) (fun _ h => h) (Ext.drew (Ext.refl _)) (by kernel_rfl) (by kernel_rfl) ?_
  repeat' (first | (refine bl_off (by rfl) ?_; simp only [putX]) | (apply bl_op; rfl; (intro w1 h1; obtain ⟨hc, hf, hz⟩ := bcell h1; go_simp; (try go_bits); (first | exact ⟨rfl, Ext.refl _⟩ | (apply gives_call; first | (go_at_call 150; exact HS.out _ ext_by) | (go_at_call 151; exact HW.out _ ext_by)) | (go_invoke; go_simp; apply gives_call; first | (go_at_call 150; exact HS.out _ ext_by) | (go_at_call 151; exact HW.out _ ext_by)))); simp only [putX]) | (refine bl_split rfl rfl (fun hx => ?_) (fun hx => ?_) <;> simp only [hx]))
  refine bl_nil ?_; refine tw_alloc (e := 85) (zs := #[.int .i64 0, .int .i64 0]) rfl (fun w => by go_simp) (fun b hb => ?_); simp only [putX]; refine tw_store (vs := #[.int .i64 o.x, .int .i64 o.y]) rfl rfl (fun w2 h2 hB => ?_) ?_; (focus (have hcB := hB.cell; have hfB := hB.frozen; exact ⟨_, (by go_simp), (Ext.set (Ext.set h2 (by dsimp only; omega) _) (by dsimp only; omega) _), ((hB.set_ 0 _).set_ 1 _)⟩)); refine tw_nil ?_; rintro w3 ⟨h_w3, hB_w3⟩; have hcB_w3 := hB_w3.cell; have hfB_w3 := hB_w3.frozen
  obtain ⟨hc_w3, hf_w3, hz_w3⟩ := bcell h_w3; (try simp only [szA] at hz_w3); have : w.heap.size < w3.heap.size := (by omega); have : w.heap.size + 1 < w3.heap.size := (by omega); have : w.heap.size + 2 < w3.heap.size := (by omega); have : w.heap.size + 3 < w3.heap.size := (by omega)
  go_wp2_with fail
  (try simp only [Exit.inBlock, Exit.then]); apply bodyPost_ret; (focus (simp only [results, Tryz.results218]; go_simp; try rfl)); rfl
  exact ⟨rfl, ext_by⟩

set_option maxHeartbeats 1000000 in
theorem far_c (A1 : Option Addr) (n1 c1 : Nat) (home : Int) (A2 : Option Addr) (n2 c2 : Nat) (A3 : Option Addr) (n3 c3 : Nat) (s : Sky) (kind st cat tick dx dy er lo hi px py : Int) (w : World) (hs : IsSky w A1 n1 home A2 n2 A3 n3 s)
    (hv : SightOK s ⟨kind, st, cat, tick, dx, dy, er, lo, hi⟩) (hn : near ⟨px, py⟩ 33554432 = true) :
    Calls Tryz.prog 185 #[.agg #[.slice A1 n1 c1, .int .i64 home, .slice A2 n2 c2, .slice A3 n3 c3], .agg #[.int .i64 kind, .int .i64 st, .int .i64 cat, .int .i64 tick, .int .i64 dx, .int .i64 dy, .int .i64 er, .int .i64 lo, .int .i64 hi], .agg #[.int .i64 px, .int .i64 py]] w fun e w' =>
      e = .returned (.int .i64 (distD px py (orig s ⟨kind, st, cat, tick, dx, dy, er, lo, hi⟩).x (orig s ⟨kind, st, cat, tick, dx, dy, er, lo, hi⟩).y)) ∧ Ext w w' := by
  obtain ⟨d1, d2⟩ := hv.diff hn
  have HF := Lib.hid fun W (hW : Ext w W) => from_c A1 n1 c1 home A2 n2 c2 A3 n3 c3 s kind st cat tick dx dy er lo hi px py W (hs.ext hW) hv hn
  unfold distD
  generalize orig s ⟨kind, st, cat, tick, dx, dy, er, lo, hi⟩ = o at *
  obtain ⟨q1, q2⟩ := mul_bd d1 d1
  obtain ⟨q3, q4⟩ := mul_bd d2 d2
  obtain ⟨d1, d1'⟩ := d1
  obtain ⟨d2, d2'⟩ := d2
  clear hv hn
  go_enter Tryz.func185, Tryz.ntmps185
  go_wp2_with fail
  refine (HF.out _ ext_by).mono ?_
  rintro e w1 ⟨rfl, h1⟩; obtain ⟨hc_w1, hf_w1, hz_w1⟩ := bcell h1; (try simp only [szA] at hz_w1); have : w.heap.size < w1.heap.size := (by omega); have : w.heap.size + 1 < w1.heap.size := (by omega); have : w.heap.size + 2 < w1.heap.size := (by omega)
  go_wp2_with fail
  go_ret
  exact ⟨rfl, ext_by⟩

set_option maxRecDepth 4000 in
set_option maxHeartbeats 1000000 in
theorem refsides_c (A1 : Option Addr) (n1 c1 : Nat) (home : Int) (A2 : Option Addr) (n2 c2 : Nat) (A3 : Option Addr) (n3 c3 : Nat) (s : Sky) (kind st cat tick dx dy er lo hi px py : Int) (w : World) (hs : IsSky w A1 n1 home A2 n2 A3 n3 s)
    (hv : SightOK s ⟨kind, st, cat, tick, dx, dy, er, lo, hi⟩) (hk : kind ≠ 2) (hn : near ⟨px, py⟩ 33554432 = true) (C D : Int)
    (hC : crossD (orig s ⟨kind, st, cat, tick, dx, dy, er, lo, hi⟩).x (orig s ⟨kind, st, cat, tick, dx, dy, er, lo, hi⟩).y dx dy px py = C) (hD : dotD (orig s ⟨kind, st, cat, tick, dx, dy, er, lo, hi⟩).x (orig s ⟨kind, st, cat, tick, dx, dy, er, lo, hi⟩).y dx dy px py = D) :
    Calls Tryz.prog 186 #[.agg #[.slice A1 n1 c1, .int .i64 home, .slice A2 n2 c2, .slice A3 n3 c3], .agg #[.int .i64 kind, .int .i64 st, .int .i64 cat, .int .i64 tick, .int .i64 dx, .int .i64 dy, .int .i64 er, .int .i64 lo, .int .i64 hi], .agg #[.int .i64 px, .int .i64 py]] w fun e w' =>
      e = .returned (.tuple #[.int .i64 D, .int .i64 (1000000 * C - biasLo s ⟨kind, st, cat, tick, dx, dy, er, lo, hi⟩ * D), .int .i64 (biasHi s ⟨kind, st, cat, tick, dx, dy, er, lo, hi⟩ * D - 1000000 * C)]) ∧ Ext w w' := by
  have hcb := hv.cb hk hn
  obtain ⟨⟨p1, p2⟩, ⟨p3, p4⟩, ⟨p5, p6⟩, p7, p8⟩ := hcb.prods
  obtain ⟨r1, r2⟩ := hcb.cross
  have r3 := hcb.dot
  dsimp only at p1 p2 p3 p4 p5 p6 p7 p8 r1 r2 r3
  rw [hC] at r1 r2
  rw [hD] at r3
  obtain ⟨hb1, hb2⟩ := hv.bias_bd hk
  obtain ⟨m1, m2⟩ := mul_bd hb1 r3
  obtain ⟨m3, m4⟩ := mul_bd hb2 r3
  obtain ⟨r3, r4⟩ := r3
  obtain ⟨⟨d1, d2⟩, d3, d4⟩ := hv.diff hn
  obtain ⟨x, hx, e1, e2, e3⟩ := hv.cat hk
  obtain ⟨i, hi1, hi2⟩ := cat_at hx
  obtain ⟨_, _, ⟨e4, e5⟩, _⟩ := hv.dir hk
  have hlo : biasLo s ⟨kind, st, cat, tick, dx, dy, er, lo, hi⟩ = x.lo - er := by unfold biasLo; rw [hx]; rfl
  have hhi : biasHi s ⟨kind, st, cat, tick, dx, dy, er, lo, hi⟩ = x.hi + er := by unfold biasHi; rw [hx]; rfl
  rw [hlo] at m1 m2 ⊢
  rw [hhi] at m3 m4 ⊢
  dsimp only at e4 e5 hi1
  obtain ⟨hin, g, off, rfl, hc⟩ := hs.catalogs.get hi2
  have hn3 := hs.catalogs.le
  obtain ⟨hc0, hc1, hc2⟩ := hc
  have HF := Lib.hid fun W (hW : Ext w W) => from_c A1 n1 c1 home A2 n2 c2 _ n3 c3 s kind st cat tick dx dy er lo hi px py W (hs.ext hW) hv hn
  have HK := Lib.hid fun W (hW : Ext w W) => refCatalog_c A1 n1 c1 home A2 n2 c2 _ n3 c3 cat s.catalogs W (hs.ext hW).catalogs
  rw [hi1] at HK
  unfold crossD at hC
  unfold dotD at hD
  generalize orig s ⟨kind, st, cat, tick, dx, dy, er, lo, hi⟩ = o at *
  have HC := Lib.hid hC
  have HD := Lib.hid hD
  clear hC hD hv hn hk hcb hlo hhi hi1 hi2 hb1 hb2 hx
  go_enter Tryz.func186, Tryz.ntmps186
  go_wp2_with fail
  refine (HF.out _ ext_by).mono ?_
  rintro e w1 ⟨rfl, h1⟩; obtain ⟨hc_w1, hf_w1, hz_w1⟩ := bcell h1; (try simp only [szA] at hz_w1); have : w.heap.size < w1.heap.size := (by omega); have : w.heap.size + 1 < w1.heap.size := (by omega); have : w.heap.size + 2 < w1.heap.size := (by omega)
  have hg1 : w1.cell? ⟨g, off + i * 3, none⟩ = some (.int .i64 x.version) := h1.cell ((Ext.alloc ((Ext.alloc0 _ _).alloc _) _).cell hc0)
  have hg2 : w1.cell? ⟨g, off + i * 3 + 1, none⟩ = some (.int .i64 x.lo) := h1.cell ((Ext.alloc ((Ext.alloc0 _ _).alloc _) _).cell hc1)
  have hg3 : w1.cell? ⟨g, off + i * 3 + 1 + 1, none⟩ = some (.int .i64 x.hi) := h1.cell ((Ext.alloc ((Ext.alloc0 _ _).alloc _) _).cell hc2)
  have hgl : g < w1.heap.size := World.block_lt_of_cell? w1 _ hg1
  clear hc0 hc1 hc2
  go_wp2_with fail
  refine wp_region_tail 9 (Ext _) (Ext _) (Stable.ext _) (fun _ h => h) (Ext.drew (Ext.refl _)) (by kernel_rfl) (by kernel_rfl) ?_
  repeat' (first | (refine bl_off (by rfl) ?_; simp only [putX]) | (apply bl_op; rfl; (intro w1 h1; obtain ⟨hc, hf, hz⟩ := bcell h1; go_simp; (try go_bits); (first | exact ⟨rfl, Ext.refl _⟩ | (apply gives_call; first | (go_at_call 219; exact HK.out _ ext_by)) | (go_invoke; go_simp; apply gives_call; first | (go_at_call 219; exact HK.out _ ext_by)))); simp only [putX]) | (refine bl_split rfl rfl (fun hx => ?_) (fun hx => ?_) <;> simp only [hx]))
  refine bl_nil ?_; refine tw_alloc (e := 26) (zs := #[.int .i64 0, .int .i64 0]) rfl (fun w => by go_simp) (fun b hb => ?_); simp only [putX]; refine tw_store (vs := #[.int .i64 x.lo, .int .i64 x.hi]) rfl rfl (fun w2 h2 hB => ?_) ?_; (focus (have hcB := hB.cell; have hfB := hB.frozen; exact ⟨_, (by go_simp), (Ext.set (Ext.set h2 (by dsimp only; omega) _) (by dsimp only; omega) _), ((hB.set_ 0 _).set_ 1 _)⟩)); refine tw_nil ?_; rintro w3 ⟨h_w3, hB_w3⟩; have hcB_w3 := hB_w3.cell; have hfB_w3 := hB_w3.frozen
  obtain ⟨hc_w3, hf_w3, hz_w3⟩ := bcell h_w3; (try simp only [szA] at hz_w3); have : w.heap.size < w3.heap.size := (by omega); have : w.heap.size + 1 < w3.heap.size := (by omega); have : w.heap.size + 2 < w3.heap.size := (by omega)
  have hw13 : w1.heap.size < w3.heap.size := by omega
  have hbw3 : b < w3.heap.size := hB_w3.lt
  go_wp2_with fail
  simp only [HC.out, HD.out]
  refine wp_region_text (by kernel_rfl) (by kernel_rfl) ?_
  repeat' (first | (refine bl_off (by rfl) ?_; simp only [putX]) | (apply bl_op; rfl; (intro w1 h1; obtain ⟨hc, hf, hz⟩ := bcell h1; go_simp; (try go_bits); (first | exact ⟨rfl, Ext.refl _⟩)); simp only [putX]) | (refine bl_split rfl rfl (fun hx => ?_) (fun hx => ?_) <;> simp only [hx]))
  refine bl_nil ?_
  intro w4 h4
  go_wp2_with fail
  go_ret3
  exact ⟨rfl, ext_by⟩

end Go.Proofs.YtfniicgoeljmdaaGreat

namespace Go.Proofs.YtfniicgoeljmdaaGreat
open Go.RowKit

def bigB (b : Body) : Bool := (decide (60 < b.track.length) && decide (b.track.length < 4096)) || decide (4097 < b.track.length)
def bigWld (l : List Body) : Bool := decide (10 < l.length) || l.any bigB
def bigSky (s : Sky) : Bool := bigWld s.world.bodies || decide (18 < s.stations.length) || decide (10 < s.catalogs.length)

set_option maxRecDepth 20000 in
set_option maxHeartbeats 1000000 in
theorem BigWorld_c (A : Option Addr) (n c : Nat) (home : Int) (l : List Body) (w : World) (hl : Bodies w A n l) :
    Calls Tryz.prog 16 #[.agg #[.slice A n c, .int .i64 home]] w fun e w' => e = .returned (.bool (bigWld l)) ∧ Ext w w' := by
  have hn := hl.le
  have hln := Lib.hid hl.len
  by_cases h8 : n ≤ 10
  · have Hb : Hid (bigWld l = l.any bigB) := by
      have h4 := hln.out; unfold bigWld; rw [← h4]; simp [Hid, show ¬ 10 < n by omega]
    go_enter Tryz.func16, Tryz.ntmps16
    go_wp2_with fail
    go_loopw [3] (fun i wr => ∃ k : Nat, k ≤ n ∧ i = .int .i64 k ∧ Hid ((l.drop k).any bigB = l.any bigB) ∧ Ext (w.alloc (.cells #[.slice A n c, .int .i64 home] 24)) wr) (fun i _ => n - (intOf i).toNat)
    case atStart => exact ⟨0, Nat.zero_le _, rfl, rfl, Ext.refl _⟩
    case round =>
      obtain ⟨k, hk, rfl, HI, hb⟩ := hrel
      obtain ⟨hcb, hfb, hzb⟩ := bcell hb
      by_cases hlt : k < n
      · obtain ⟨b, off, x, rfl, HD, hxm, hx⟩ := hl.one hlt
        obtain ⟨hx0, hx1, A', n', c', hx2, hx3⟩ := bodyAt.ext (Ext.trans (Ext.alloc0 _ _) hb) hx
        have hn' := hx3.le
        have hi := HI.out; rw [HD.out, List.any_cons] at hi
        have hl' := hx3.len
        have Hb' : Hid (bigB x = ((decide (60 < n') && decide (n' < 4096)) || decide (4097 < n'))) := by unfold bigB; rw [← hl']; rfl
        cases hp : bigB x
        · rw [hp, Bool.false_or] at hi
          have Hi := Lib.hid hi
          have Hp := Lib.hid hp
          clear hi hp hl' hx3
          go_wp2_with fail
          all_goals (first
            | (go_ret
               exfalso
               have h1 := Hp.out; rw [Hb'.out] at h1
               simp only [Bool.or_eq_false_iff, Bool.and_eq_false_iff, decide_eq_false_iff_not] at h1
               omega)
            | (go_roundw
               case rel => exact ⟨k + 1, by omega, by go_num, Hi, ext_by⟩
               case measure => simp [intOf]; omega))
        · rw [hp, Bool.true_or] at hi
          have Hi := Lib.hid hi
          have Hp := Lib.hid hp
          clear hi hp hl' hx3
          go_wp2_with fail
          all_goals (first
            | (go_ret
               refine ⟨ret_b ?_, ext_by⟩
               rw [Hb.out, ← Hi.out])
            | (exfalso
               have h1 := Hp.out; rw [Hb'.out] at h1
               simp only [Bool.or_eq_true, Bool.and_eq_true, decide_eq_true_eq] at h1
               omega))
      · have : k = n := by omega
        subst this
        have hi := HI.out; rw [hln.out, List.drop_length, List.any_nil] at hi
        have Hi := Lib.hid hi
        clear hi
        go_wp2_with fail
        go_ret
        exact ⟨ret_b (by rw [Hb.out, ← Hi.out]), ext_by⟩
  · have h8' : 10 < n := by omega
    go_enter Tryz.func16, Tryz.ntmps16
    go_wp2_with fail
    go_ret
    refine ⟨ret_b ?_, ext_by⟩
    have h4 := hln.out; unfold bigWld; rw [← h4]; simp [h8']

set_option maxHeartbeats 1000000 in
theorem BigSky_c (A1 : Option Addr) (n1 c1 : Nat) (home : Int) (A2 : Option Addr) (n2 c2 : Nat) (A3 : Option Addr) (n3 c3 : Nat) (s : Sky) (w : World) (hs : IsSky w A1 n1 home A2 n2 A3 n3 s) :
    Calls Tryz.prog 48 #[.agg #[.slice A1 n1 c1, .int .i64 home, .slice A2 n2 c2, .slice A3 n3 c3]] w fun e w' => e = .returned (.bool (bigSky s)) ∧ Ext w w' := by
  have hn2 := hs.stations.le
  have hn3 := hs.catalogs.le
  have h2 := Lib.hid hs.stations.len
  have h3 := Lib.hid hs.catalogs.len
  have HW := Lib.hid fun W (hW : Ext w W) => BigWorld_c A1 n1 c1 home s.world.bodies W (hs.ext hW).bodies
  unfold bigSky
  rw [← h2.out, ← h3.out]
  generalize bigWld s.world.bodies = B at *
  clear hs
  go_enter Tryz.func48, Tryz.ntmps48
  go_wp2_with fail
  refine (HW.out _ ext_by).mono ?_
  rintro e w1 ⟨rfl, h1⟩; obtain ⟨hc_w1, hf_w1, hz_w1⟩ := bcell h1; (try simp only [szA] at hz_w1); have : w.heap.size < w1.heap.size := (by omega)
  go_wp2_with fail
  all_goals go_ret
  all_goals refine ⟨ret_b ?_, ext_by⟩
  all_goals clear hc_w1 hf_w1
  all_goals (first | (simp_all; done) | (simp_all; (try rw [Bool.eq_iff_iff]); (try simp); omega))

theorem Blk.alloc {w : World} {g : Nat} {t : TypeId} {cs : Array Value} (h : Blk w g t cs) (o : Obj) : Blk (w.alloc o) g t cs := Blk.ext h (Ext.alloc0 _ _)
theorem two {α : Type} {a b : α} {P : α → Nat → Prop} (h0 : P a 0) (h1 : P b 1) : ∀ k (h : k < [a, b].length), P ([a, b][k]) k
  | 0, _ => h0
  | 1, _ => h1
end Go.Proofs.YtfniicgoeljmdaaGreat

namespace Go.Proofs.YtfniicgoeljmdaaGreat
open Go.RowKit

def gOK (g : St) : Bool := near ⟨g.x, g.y⟩ 33554432 && near ⟨g.u, g.v⟩ 1048576
structure GB (g : St) (t0 t : Int) : Prop where
  x : -33554432 ≤ g.x ∧ g.x ≤ 33554432
  y : -33554432 ≤ g.y ∧ g.y ≤ 33554432
  n : -1073741824 ≤ t - t0 ∧ t - t0 ≤ 1073741824
  u : -1125899906842624 ≤ g.u * (t - t0) ∧ g.u * (t - t0) ≤ 1125899906842624
  v : -1125899906842624 ≤ g.v * (t - t0) ∧ g.v * (t - t0) ≤ 1125899906842624
set_option maxHeartbeats 400000 in
theorem Guess_c (gx gy gu gv : Int) (w : World) :
    Calls Tryz.prog 94 #[.agg #[.int .i64 gx, .int .i64 gy, .int .i64 gu, .int .i64 gv]] w fun e w' => e = .returned (.bool (gOK ⟨gx, gy, gu, gv⟩)) ∧ Ext w w' := by
  unfold gOK
  have H1 := Lib.hid fun W => Near_c gx gy W
  dsimp only
  generalize near ⟨gx, gy⟩ 33554432 = B1 at *
  go_enter Tryz.func94, Tryz.ntmps94
  go_wp2_with fail
  refine (H1.out _).mono ?_
  rintro e w1 ⟨rfl, h1⟩; obtain ⟨hc_w1, hf_w1, hz_w1⟩ := bcell h1; (try simp only [szA] at hz_w1); have : w.heap.size < w1.heap.size := (by omega)
  cases B1
  · go_wp2_with fail
    go_ret
    exact ⟨ret_b (by simp), ext_by⟩
  · go_wp2_with (go_at_call 133; refine (between_c _ _ _ _).mono ?_; rintro e w' ⟨rfl, rfl⟩)
    all_goals go_ret
    all_goals exact ⟨ret_b (by simp_all [near]), ext_by⟩

end Go.Proofs.YtfniicgoeljmdaaGreat

namespace Go.Proofs.YtfniicgoeljmdaaGreat
open Go.RowKit

set_option maxHeartbeats 400000 in
theorem idxSight_c (A : Option Addr) (n c : Nat) (l : List Sight) (fid : Nat) (cap : Array Value) (p : Sight → Bool) (w : World) (hl : Sights w A n l)
    (hcall : ∀ (xs : Array Value) (W : World), (callFunc fid xs).run Tryz.prog W = .ok (.enter fid xs) W)
    (hf : ∀ x ∈ l, ∀ W, Ext w W → Calls Tryz.prog fid (#[.agg #[.int .i64 x.kind, .int .i64 x.station, .int .i64 x.catalog, .int .i64 x.tick, .int .i64 x.dx, .int .i64 x.dy, .int .i64 x.err, .int .i64 x.lo, .int .i64 x.hi]] ++ cap) W fun e w' => e = .returned (.bool (p x)) ∧ Ext W w') :
    Calls Tryz.prog 173 #[.slice A n c, .func (.func fid) #[] cap] w fun e w' => e = .returned (.int .i64 (idxFrom p l 0)) ∧ Ext w w' := by
  have hn := hl.le
  have Hf := Lib.hid hf
  clear hf
  go_enter Tryz.func173, Tryz.ntmps173
  go_wp2_with fail
  go_loopw [8] (fun i wr => ∃ k : Nat, k ≤ n ∧ i = .int .i64 k ∧ Hid (idxFrom p (l.drop k) k = idxFrom p l 0) ∧ Ext w wr) (fun i _ => n - (intOf i).toNat)
  case atStart => exact ⟨0, Nat.zero_le _, rfl, rfl, Ext.refl _⟩
  case round =>
    obtain ⟨k, hk, rfl, HI, hb⟩ := hrel
    by_cases hlt : k < n
    · obtain ⟨b, off, x, rfl, HD, hxm, hx⟩ := hl.one hlt
      obtain ⟨hx0, hx1, hx2, hx3, hx4, hx5, hx6, hx7, hx8⟩ := sightAt.ext hb hx
      go_wp2_with fail
      refine (Hf.out x hxm _ hb).mono ?_
      rintro e w1 ⟨rfl, h1⟩
      cases hp : p x
      · go_wp2_with fail
        go_roundw
        case rel => exact ⟨k + 1, by omega, by go_num, by have := HI.out; rw [HD.out] at this; simpa [Hid, idxFrom, hp] using this, hb.trans h1⟩
        case measure => simp [intOf]; omega
      · go_wp2_with fail
        go_ret
        exact ⟨ret_i (by have := HI.out; rw [HD.out] at this; simpa [idxFrom, hp] using this), hb.trans h1⟩
    · have : k = l.length := by have := hl.len; omega
      subst this
      go_wp2_with fail
      go_ret
      refine ⟨ret_i ?_, hb⟩
      have := HI.out
      simpa [idxFrom] using this


end Go.Proofs.YtfniicgoeljmdaaGreat

namespace Go.Proofs.YtfniicgoeljmdaaGreat
open Go.RowKit

def trkAt (w : World) (p : List Sight) (b o : Nat) : Prop := ∃ A n c, w.cell? ⟨b, o, none⟩ = some (.slice A n c) ∧ Sights w A n p
abbrev Trks (w : World) (A : Option Addr) (n : Nat) (l : List (List Sight)) : Prop := SlR 1 (trkAt w) A n l
theorem trkAt.ext {w w' : World} (e : Ext w w') {p : List Sight} {b o : Nat} (h : trkAt w p b o) : trkAt w' p b o := by
  obtain ⟨A, n, c, h1, h2⟩ := h
  exact ⟨A, n, c, e.cell h1, Sights.ext e h2⟩
theorem Trks.ext {w w' : World} (e : Ext w w') {A n l} (h : Trks w A n l) : Trks w' A n l := SlR.mono h fun _ _ _ _ => trkAt.ext e
end Go.Proofs.YtfniicgoeljmdaaGreat

namespace Go.Proofs.YtfniicgoeljmdaaGreat
open Go.RowKit

structure Sp where
  lo : Int
  hi : Int
def fitsP (n : Int) : Bool := within n (-1152921504606846976) 1152921504606846976
theorem fitsP_iff {n : Int} : fitsP n = true ↔ -1152921504606846976 ≤ n ∧ n ≤ 1152921504606846976 := by simp [fitsP, within]
def spErr (s : Sp) : Int := if fitsP s.lo && fitsP s.hi then (if s.hi < s.lo then 11 else 0) else 2
theorem spErr_ok {s : Sp} : spErr s = 0 ↔ -1152921504606846976 ≤ s.lo ∧ s.lo ≤ s.hi ∧ s.hi ≤ 1152921504606846976 := by
  unfold spErr
  cases h1 : fitsP s.lo <;> cases h2 : fitsP s.hi
  all_goals simp only [Bool.and_self, Bool.and_true, Bool.and_false, Bool.false_eq_true, if_false, if_true]
  all_goals simp only [fitsP, within, Bool.and_eq_true, Bool.and_eq_false_imp, decide_eq_true_eq, decide_eq_false_iff_not] at h1 h2
  · constructor
    · intro h; cases h
    · omega
  · constructor
    · intro h; cases h
    · omega
  · constructor
    · intro h; cases h
    · omega
  · by_cases h3 : s.hi < s.lo
    · rw [if_pos h3]
      constructor
      · intro h; cases h
      · omega
    · rw [if_neg h3]
      constructor
      · intro _; omega
      · intro _; rfl
def sp2Err (a b : Sp) : Int := if spErr a = 0 then spErr b else spErr a
structure SpR where
  s : Sp
  e : Int
def noSp (e : Int) : SpR := ⟨⟨0, 0⟩, e⟩
def endsM (lo hi : Int) : SpR := if fitsP lo && fitsP hi then ⟨⟨lo, hi⟩, 0⟩ else noSp 14
def addM (a b : Sp) : SpR := if sp2Err a b = 0 then endsM (a.lo + b.lo) (a.hi + b.hi) else noSp (sp2Err a b)
def subM (a b : Sp) : SpR := if sp2Err a b = 0 then endsM (a.lo - b.hi) (a.hi - b.lo) else noSp (sp2Err a b)
abbrev spRV (r : SpR) : Value := .tuple #[.agg #[.int .i64 r.s.lo, .int .i64 r.s.hi], .int .i64 r.e]
theorem ret_v {a b : Value} (h : a = b) : Ending.returned a = .returned b := by rw [h]

set_option maxHeartbeats 400000 in
theorem sp_within_c (a b c : Int) (w : World) :
    Calls Tryz.prog 241 #[.int .i64 a, .int .i64 b, .int .i64 c] w fun e w' => e = .returned (.bool (within a b c)) ∧ w = w' := by
  go_enter Tryz.func241, Tryz.ntmps241
  go_wp2
  all_goals go_ret
  all_goals exact ⟨ret_b (by simp [within, *] <;> omega), rfl⟩
set_option maxHeartbeats 400000 in
theorem spFits_c (a : Int) (w : World) :
    Calls Tryz.prog 261 #[.int .i64 a] w fun e w' => e = .returned (.bool (fitsP a)) ∧ w = w' := by
  go_enter Tryz.func261, Tryz.ntmps261
  go_wp2_with (go_at_call 241; refine (sp_within_c _ _ _ _).mono ?_; rintro e w' ⟨rfl, rfl⟩)
  go_ret
  exact ⟨rfl, rfl⟩
set_option maxHeartbeats 400000 in
theorem spCheck_c (lo hi : Int) (w : World) :
    Calls Tryz.prog 240 #[.agg #[.int .i64 lo, .int .i64 hi]] w fun e w' => e = .returned (.int .i64 (spErr ⟨lo, hi⟩)) ∧ Ext w w' := by
  unfold spErr
  dsimp only
  have H1 := Lib.hid fun W => spFits_c lo W
  have H2 := Lib.hid fun W => spFits_c hi W
  generalize fitsP lo = f1 at *
  generalize fitsP hi = f2 at *
  go_enter Tryz.func240, Tryz.ntmps240
  cases f1 <;> cases f2
  all_goals go_wp2_with fail
  all_goals refine (H1.out _).mono ?_
  all_goals rintro e _ ⟨rfl, rfl⟩
  all_goals go_wp2_with fail
  all_goals try (refine (H2.out _).mono ?_; rintro e _ ⟨rfl, rfl⟩; go_wp2_with fail)
  all_goals go_ret
  all_goals refine ⟨ret_i ?_, ext_by⟩
  all_goals simp <;> omega
set_option maxHeartbeats 400000 in
theorem spValid_c (al ah bl bh : Int) (w : World) :
    Calls Tryz.prog 221 #[.agg #[.int .i64 al, .int .i64 ah], .agg #[.int .i64 bl, .int .i64 bh]] w fun e w' => e = .returned (.int .i64 (sp2Err ⟨al, ah⟩ ⟨bl, bh⟩)) ∧ Ext w w' := by
  unfold sp2Err
  have H1 := Lib.hid fun W => spCheck_c al ah W
  have H2 := Lib.hid fun W => spCheck_c bl bh W
  generalize spErr ⟨al, ah⟩ = f1 at *
  generalize spErr ⟨bl, bh⟩ = f2 at *
  by_cases h : f1 = 0
  · subst h
    go_enter Tryz.func221, Tryz.ntmps221
    go_wp2_with fail
    refine (H1.out _).mono ?_
    rintro e w1 ⟨rfl, h1⟩
    obtain ⟨hc_w1, hf_w1, hz_w1⟩ := bcell h1
    simp only [World.size_alloc] at hz_w1
    go_wp2_with fail
    refine (H2.out _).mono ?_
    rintro e w2 ⟨rfl, h2⟩
    obtain ⟨hc_w2, hf_w2, hz_w2⟩ := bcell h2; (try simp only [szA] at hz_w2); (try have := wz0 w w2); (try have := wz1 w w2); (try have := wz2 w w2); (try have := wz3 w w2); (try have := wz4 w w2)
    go_wp2_with fail
    go_ret
    exact ⟨rfl, ext_by⟩
  · rw [if_neg h]
    go_enter Tryz.func221, Tryz.ntmps221
    go_wp2_with fail
    refine (H1.out _).mono ?_
    rintro e w1 ⟨rfl, h1⟩
    obtain ⟨hc_w1, hf_w1, hz_w1⟩ := bcell h1
    go_wp2_with fail
    go_ret
    exact ⟨rfl, ext_by⟩
set_option maxHeartbeats 400000 in
theorem ends_c (lo hi : Int) (w : World) :
    Calls Tryz.prog 248 #[.int .i64 lo, .int .i64 hi] w fun e w' => e = .returned (spRV (endsM lo hi)) ∧ Ext w w' := by
  unfold endsM noSp
  have H1 := Lib.hid fun W => spFits_c lo W
  have H2 := Lib.hid fun W => spFits_c hi W
  generalize fitsP lo = f1 at *
  generalize fitsP hi = f2 at *
  go_enter Tryz.func248, Tryz.ntmps248
  cases f1 <;> cases f2
  all_goals go_wp2_with fail
  all_goals refine (H1.out _).mono ?_
  all_goals rintro e _ ⟨rfl, rfl⟩
  all_goals go_wp2_with fail
  all_goals try (refine (H2.out _).mono ?_; rintro e _ ⟨rfl, rfl⟩; go_wp2_with fail)
  all_goals ((try simp only [Exit.inBlock, Exit.then]); apply bodyPost_ret; (focus (simp only [results, Tryz.results248]; go_simp; try rfl)); rfl)
  all_goals exact ⟨rfl, ext_by⟩
set_option maxHeartbeats 400000 in
theorem Add_c (al ah bl bh : Int) (w : World) :
    Calls Tryz.prog 227 #[.agg #[.int .i64 al, .int .i64 ah], .agg #[.int .i64 bl, .int .i64 bh]] w fun e w' => e = .returned (spRV (addM ⟨al, ah⟩ ⟨bl, bh⟩)) ∧ Ext w w' := by
  unfold addM
  have H1 := Lib.hid fun W => spValid_c al ah bl bh W
  have H2 := Lib.hid fun W => ends_c (al + bl) (ah + bh) W
  dsimp only
  by_cases h : sp2Err ⟨al, ah⟩ ⟨bl, bh⟩ = 0
  · have hb : (-1152921504606846976 ≤ al ∧ al ≤ ah ∧ ah ≤ 1152921504606846976) ∧ -1152921504606846976 ≤ bl ∧ bl ≤ bh ∧ bh ≤ 1152921504606846976 := by
      unfold sp2Err at h
      by_cases h1 : spErr ⟨al, ah⟩ = 0
      · rw [if_pos h1] at h
        exact ⟨spErr_ok.1 h1, spErr_ok.1 h⟩
      · rw [if_neg h1] at h
        exact absurd h h1
    obtain ⟨⟨h1, h2, h3⟩, h4, h5, h6⟩ := hb
    rw [h] at H1
    rw [if_pos h]
    generalize endsM (al + bl) (ah + bh) = R at *
    obtain ⟨⟨rl, rh⟩, re⟩ := R
    clear h
    go_enter Tryz.func227, Tryz.ntmps227
    go_wp2_with fail
    refine (H1.out _).mono ?_
    rintro e w1 ⟨rfl, h1⟩
    obtain ⟨hc_w1, hf_w1, hz_w1⟩ := bcell h1; (try simp only [szA] at hz_w1); (try have := wz0 w w1); (try have := wz1 w w1); (try have := wz2 w w1); (try have := wz3 w w1); (try have := wz4 w w1)
    go_wp2_with fail
    refine (H2.out _).mono ?_
    rintro e w2 ⟨rfl, h2⟩
    obtain ⟨hc_w2, hf_w2, hz_w2⟩ := bcell h2; (try simp only [szA] at hz_w2); (try have := wz0 w w2); (try have := wz1 w w2); (try have := wz2 w w2); (try have := wz3 w w2); (try have := wz4 w w2)
    go_wp2_with fail
    (try simp only [Exit.inBlock, Exit.then]); apply bodyPost_ret; (focus (simp only [results, Tryz.results227]; go_simp; try rfl)); rfl
    exact ⟨rfl, ext_by⟩
  · rw [if_neg h]
    generalize sp2Err ⟨al, ah⟩ ⟨bl, bh⟩ = f1 at *
    go_enter Tryz.func227, Tryz.ntmps227
    go_wp2_with fail
    refine (H1.out _).mono ?_
    rintro e w1 ⟨rfl, h1⟩
    obtain ⟨hc_w1, hf_w1, hz_w1⟩ := bcell h1; (try simp only [szA] at hz_w1); (try have := wz0 w w1); (try have := wz1 w w1); (try have := wz2 w w1); (try have := wz3 w w1); (try have := wz4 w w1)
    go_wp2_with fail
    (try simp only [Exit.inBlock, Exit.then]); apply bodyPost_ret; (focus (simp only [results, Tryz.results227]; go_simp; try rfl)); rfl
    exact ⟨rfl, ext_by⟩
set_option maxHeartbeats 400000 in
theorem Sub_c (al ah bl bh : Int) (w : World) :
    Calls Tryz.prog 264 #[.agg #[.int .i64 al, .int .i64 ah], .agg #[.int .i64 bl, .int .i64 bh]] w fun e w' => e = .returned (spRV (subM ⟨al, ah⟩ ⟨bl, bh⟩)) ∧ Ext w w' := by
  unfold subM
  have H1 := Lib.hid fun W => spValid_c al ah bl bh W
  have H2 := Lib.hid fun W => ends_c (al - bh) (ah - bl) W
  dsimp only
  by_cases h : sp2Err ⟨al, ah⟩ ⟨bl, bh⟩ = 0
  · have hb : (-1152921504606846976 ≤ al ∧ al ≤ ah ∧ ah ≤ 1152921504606846976) ∧ -1152921504606846976 ≤ bl ∧ bl ≤ bh ∧ bh ≤ 1152921504606846976 := by
      unfold sp2Err at h
      by_cases h1 : spErr ⟨al, ah⟩ = 0
      · rw [if_pos h1] at h
        exact ⟨spErr_ok.1 h1, spErr_ok.1 h⟩
      · rw [if_neg h1] at h
        exact absurd h h1
    obtain ⟨⟨h1, h2, h3⟩, h4, h5, h6⟩ := hb
    rw [h] at H1
    rw [if_pos h]
    generalize endsM (al - bh) (ah - bl) = R at *
    obtain ⟨⟨rl, rh⟩, re⟩ := R
    clear h
    go_enter Tryz.func264, Tryz.ntmps264
    go_wp2_with fail
    refine (H1.out _).mono ?_
    rintro e w1 ⟨rfl, h1⟩
    obtain ⟨hc_w1, hf_w1, hz_w1⟩ := bcell h1; (try simp only [szA] at hz_w1); (try have := wz0 w w1); (try have := wz1 w w1); (try have := wz2 w w1); (try have := wz3 w w1); (try have := wz4 w w1)
    go_wp2_with fail
    refine (H2.out _).mono ?_
    rintro e w2 ⟨rfl, h2⟩
    obtain ⟨hc_w2, hf_w2, hz_w2⟩ := bcell h2; (try simp only [szA] at hz_w2); (try have := wz0 w w2); (try have := wz1 w w2); (try have := wz2 w w2); (try have := wz3 w w2); (try have := wz4 w w2)
    go_wp2_with fail
    (try simp only [Exit.inBlock, Exit.then]); apply bodyPost_ret; (focus (simp only [results, Tryz.results264]; go_simp; try rfl)); rfl
    exact ⟨rfl, ext_by⟩
  · rw [if_neg h]
    generalize sp2Err ⟨al, ah⟩ ⟨bl, bh⟩ = f1 at *
    go_enter Tryz.func264, Tryz.ntmps264
    go_wp2_with fail
    refine (H1.out _).mono ?_
    rintro e w1 ⟨rfl, h1⟩
    obtain ⟨hc_w1, hf_w1, hz_w1⟩ := bcell h1; (try simp only [szA] at hz_w1); (try have := wz0 w w1); (try have := wz1 w w1); (try have := wz2 w w1); (try have := wz3 w w1); (try have := wz4 w w1)
    go_wp2_with fail
    (try simp only [Exit.inBlock, Exit.then]); apply bodyPost_ret; (focus (simp only [results, Tryz.results264]; go_simp; try rfl)); rfl
    exact ⟨rfl, ext_by⟩
end Go.Proofs.YtfniicgoeljmdaaGreat
