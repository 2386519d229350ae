/- Cones, distances and looks: what the program computes within its bounds, where nothing wraps. What looks say, and whether a place agrees with a sight: the program. Whether a place agrees with a sight: the program. The four pairs of ends of two spans, handed out: the program. No condition. -/
import Derived.Test.YtfniicgoeljmdaaGreatWhere
import Derived.Test.YtfniicgoeljmdaaGreatSpanLaw
import Derived.Test.YtfniicgoeljmdaaGreatIter
namespace Go.Proofs.YtfniicgoeljmdaaGreat
open Go.RowKit

theorem mul_bd {a b A B : Int} (ha : -A ≤ a ∧ a ≤ A) (hb : -B ≤ b ∧ b ≤ B) : -(A * B) ≤ a * b ∧ a * b ≤ A * B := by
  have h1 : (a * b).natAbs ≤ A.toNat * B.toNat := by
    rw [Int.natAbs_mul]
    exact Nat.mul_le_mul (by omega) (by omega)
  have h2 : ((A.toNat * B.toNat : Nat) : Int) = A * B := by
    rw [Int.natCast_mul, Int.toNat_of_nonneg (by omega), Int.toNat_of_nonneg (by omega)]
  omega

def crossD (fx fy dx dy x y : Int) : Int := dx * (y - fy) - dy * (x - fx)
def dotD (fx fy dx dy x y : Int) : Int := dx * (x - fx) + dy * (y - fy)
def distD (ax ay bx by_ : Int) : Int := (ax - bx) * (ax - bx) + (ay - by_) * (ay - by_)
def behindB (fx fy dx dy x y : Int) : Bool := decide (dotD fx fy dx dy x y ≤ 0)
def belowB (fx fy dx dy lo x y : Int) : Bool := decide (1000000 * crossD fx fy dx dy x y < lo * dotD fx fy dx dy x y)
def aboveB (fx fy dx dy hi x y : Int) : Bool := decide (hi * dotD fx fy dx dy x y < 1000000 * crossD fx fy dx dy x y)
def inB (fx fy dx dy lo hi x y : Int) : Bool := !behindB fx fy dx dy x y && !belowB fx fy dx dy lo x y && !aboveB fx fy dx dy hi x y

/-- A station, a direction, a place within their bounds. -/
structure CB (fx fy dx dy x y : Int) : Prop where
  fx : -34603008 ≤ fx ∧ fx ≤ 34603008
  fy : -34603008 ≤ fy ∧ fy ≤ 34603008
  dx : -4096 ≤ dx ∧ dx ≤ 4096
  dy : -4096 ≤ dy ∧ dy ≤ 4096
  x : -33554432 ≤ x ∧ x ≤ 33554432
  y : -33554432 ≤ y ∧ y ≤ 33554432
theorem CB.prods {fx fy dx dy x y : Int} (h : CB fx fy dx dy x y) :
    (-279172874240 ≤ dx * (y - fy) ∧ dx * (y - fy) ≤ 279172874240) ∧ (-279172874240 ≤ dy * (x - fx) ∧ dy * (x - fx) ≤ 279172874240) ∧
    (-279172874240 ≤ dx * (x - fx) ∧ dx * (x - fx) ≤ 279172874240) ∧ (-279172874240 ≤ dy * (y - fy) ∧ dy * (y - fy) ≤ 279172874240) := by
  obtain ⟨h1, h2, h3, h4, h5, h6⟩ := h
  have e1 : -68157440 ≤ y - fy ∧ y - fy ≤ 68157440 := by omega
  have e2 : -68157440 ≤ x - fx ∧ x - fx ≤ 68157440 := by omega
  exact ⟨mul_bd h3 e1, mul_bd h4 e2, mul_bd h3 e2, mul_bd h4 e1⟩
theorem CB.cross {fx fy dx dy x y : Int} (h : CB fx fy dx dy x y) : -558345748480 ≤ crossD fx fy dx dy x y ∧ crossD fx fy dx dy x y ≤ 558345748480 := by
  obtain ⟨h1, h2, _, _⟩ := h.prods; unfold crossD; omega
theorem CB.dot {fx fy dx dy x y : Int} (h : CB fx fy dx dy x y) : -558345748480 ≤ dotD fx fy dx dy x y ∧ dotD fx fy dx dy x y ≤ 558345748480 := by
  obtain ⟨_, _, h1, h2⟩ := h.prods; unfold dotD; omega

set_option maxRecDepth 4000 in
set_option maxHeartbeats 1000000 in
theorem turns_c (fx fy dx dy lo hi x y : Int) (w : World) (h : CB fx fy dx dy x y) :
    Calls Tryz.prog 217 #[.agg #[.int .i64 fx, .int .i64 fy, .int .i64 dx, .int .i64 dy, .int .i64 lo, .int .i64 hi], .agg #[.int .i64 x, .int .i64 y]] w fun e w' =>
      e = .returned (.tuple #[.int .i64 (crossD fx fy dx dy x y), .int .i64 (dotD fx fy dx dy x y)]) ∧ Ext w w' := by
  obtain ⟨⟨p1, p2⟩, ⟨p3, p4⟩, ⟨p5, p6⟩, p7, p8⟩ := h.prods
  obtain ⟨⟨h1, h2⟩, ⟨h3, h4⟩, ⟨h5, h6⟩, ⟨h7, h8⟩, ⟨h9, h10⟩, h11, h12⟩ := h
  go_enter Tryz.func217, Tryz.ntmps217
  go_wp2_with fail
  refine wp_region_text (by kernel_rfl) (by kernel_rfl) ?_
  repeat' (first | (refine bl_off (by rfl) ?_; simp only [Act.put, List.setIfInBounds_toArray, List.set_cons_zero, List.set_cons_succ]) | (apply bl_op; rfl; (intro w1 h1; obtain ⟨hc, hf, hz⟩ := bcell h1; go_simp; (try go_bits); (first | exact ⟨rfl, Ext.refl _⟩)); simp only [Act.put, List.setIfInBounds_toArray, List.set_cons_zero, List.set_cons_succ]) | (refine bl_split rfl rfl (fun hx => ?_) (fun hx => ?_) <;> simp only [hx]))
  refine bl_nil ?_
  intro w1 h1
  obtain ⟨hc_w1, hf_w1, hz_w1⟩ := bcell h1; (repeat (first | rw [World.size_alloc] at hz_w1 | rw [World.size_drew] at hz_w1 | rw [World.size_setCell] at hz_w1)); have : w.heap.size < w1.heap.size := (by omega); have : w.heap.size + 1 < w1.heap.size := (by omega)
  go_wp2_with fail
  refine wp_region_text (by kernel_rfl) (by kernel_rfl) ?_
  repeat' (first | (refine bl_off (by rfl) ?_; simp only [Act.put, List.setIfInBounds_toArray, List.set_cons_zero, List.set_cons_succ]) | (apply bl_op; rfl; (intro w1 h1; obtain ⟨hc, hf, hz⟩ := bcell h1; go_simp; (try go_bits); (first | exact ⟨rfl, Ext.refl _⟩)); simp only [Act.put, List.setIfInBounds_toArray, List.set_cons_zero, List.set_cons_succ]) | (refine bl_split rfl rfl (fun hx => ?_) (fun hx => ?_) <;> simp only [hx]))
  refine bl_nil ?_
  intro w2 h2
  go_wp2_with fail
  go_ret2
  exact ⟨rfl, by (repeat' (first | exact Ext.refl _ | assumption | apply Ext.alloc | apply Ext.drew | refine Ext.set ?_ (by dsimp only; omega) _ | refine Ext.trans ?_ (by assumption)))⟩

set_option maxRecDepth 4000 in
set_option maxHeartbeats 1000000 in
theorem sides_c (fx fy dx dy lo hi x y : Int) (w : World) (h : CB fx fy dx dy x y) (hlo : -1000000 ≤ lo ∧ lo ≤ 1000000) (hhi : -1000000 ≤ hi ∧ hi ≤ 1000000) :
    Calls Tryz.prog 176 #[.agg #[.int .i64 fx, .int .i64 fy, .int .i64 dx, .int .i64 dy, .int .i64 lo, .int .i64 hi], .agg #[.int .i64 x, .int .i64 y]] w fun e w' =>
      e = .returned (.tuple #[.bool (behindB fx fy dx dy x y), .bool (belowB fx fy dx dy lo x y), .bool (aboveB fx fy dx dy hi x y)]) ∧ Ext w w' := by
  obtain ⟨c1, c2⟩ := h.cross
  have hd := h.dot
  obtain ⟨q1, q2⟩ := mul_bd hlo hd
  obtain ⟨q3, q4⟩ := mul_bd hhi hd
  obtain ⟨d1, d2⟩ := hd
  unfold behindB belowB aboveB
  have HT := Lib.hid fun W => turns_c fx fy dx dy lo hi x y W h
  generalize crossD fx fy dx dy x y = C at *
  generalize dotD fx fy dx dy x y = D at *
  clear h hlo hhi
  go_enter Tryz.func176, Tryz.ntmps176
  go_wp2_with fail
  refine (HT.out _).mono ?_
  rintro e w1 ⟨rfl, h1⟩; obtain ⟨hc_w1, hf_w1, hz_w1⟩ := bcell h1; (repeat (first | rw [World.size_alloc] at hz_w1 | rw [World.size_drew] at hz_w1 | rw [World.size_setCell] at hz_w1)); have : w.heap.size < w1.heap.size := (by omega); have : w.heap.size + 1 < w1.heap.size := (by omega)
  go_wp2_with fail
  refine wp_region_text (by kernel_rfl) (by kernel_rfl) ?_
  repeat' (first | (refine bl_off (by rfl) ?_; simp only [Act.put, List.setIfInBounds_toArray, List.set_cons_zero, List.set_cons_succ]) | (apply bl_op; rfl; (intro w1 h1; obtain ⟨hc, hf, hz⟩ := bcell h1; go_simp; (try go_bits); (first | exact ⟨rfl, Ext.refl _⟩)); simp only [Act.put, List.setIfInBounds_toArray, List.set_cons_zero, List.set_cons_succ]) | (refine bl_split rfl rfl (fun hx => ?_) (fun hx => ?_) <;> simp only [hx]))
  refine bl_nil ?_
  intro w2 h2
  go_wp2_with fail
  go_ret3
  exact ⟨rfl, by (repeat' (first | exact Ext.refl _ | assumption | apply Ext.alloc | apply Ext.drew | refine Ext.set ?_ (by dsimp only; omega) _ | refine Ext.trans ?_ (by assumption)))⟩

set_option maxHeartbeats 1000000 in
theorem has_c (fx fy dx dy lo hi x y : Int) (w : World) (h : CB fx fy dx dy x y) (hlo : -1000000 ≤ lo ∧ lo ≤ 1000000) (hhi : -1000000 ≤ hi ∧ hi ≤ 1000000) :
    Calls Tryz.prog 182 #[.agg #[.int .i64 fx, .int .i64 fy, .int .i64 dx, .int .i64 dy, .int .i64 lo, .int .i64 hi], .agg #[.int .i64 x, .int .i64 y]] w fun e w' =>
      e = .returned (.bool (inB fx fy dx dy lo hi x y)) ∧ Ext w w' := by
  unfold inB
  have HT := Lib.hid fun W => sides_c fx fy dx dy lo hi x y W h hlo hhi
  generalize behindB fx fy dx dy x y = a at *
  generalize belowB fx fy dx dy lo x y = b at *
  generalize aboveB fx fy dx dy hi x y = c at *
  clear h hlo hhi
  go_enter Tryz.func182, Tryz.ntmps182
  go_wp2_with fail
  refine (HT.out _).mono ?_
  rintro e w1 ⟨rfl, h1⟩; obtain ⟨hc_w1, hf_w1, hz_w1⟩ := bcell h1; (repeat (first | rw [World.size_alloc] at hz_w1 | rw [World.size_drew] at hz_w1 | rw [World.size_setCell] at hz_w1)); have : w.heap.size < w1.heap.size := (by omega); have : w.heap.size + 1 < w1.heap.size := (by omega)
  cases a <;> cases b <;> cases c
  all_goals go_wp2_with fail
  all_goals go_ret
  all_goals exact ⟨rfl, by (repeat' (first | exact Ext.refl _ | assumption | apply Ext.alloc | apply Ext.drew | refine Ext.set ?_ (by dsimp only; omega) _ | refine Ext.trans ?_ (by assumption)))⟩

set_option maxHeartbeats 1000000 in
theorem distance_c (ax ay bx by_ : Int) (w : World) (h1 : -68157440 ≤ ax - bx ∧ ax - bx ≤ 68157440) (h2 : -68157440 ≤ ay - by_ ∧ ay - by_ ≤ 68157440) :
    Calls Tryz.prog 178 #[.agg #[.int .i64 ax, .int .i64 ay], .agg #[.int .i64 bx, .int .i64 by_]] w fun e w' =>
      e = .returned (.int .i64 (distD ax ay bx by_)) ∧ Ext w w' := by
  obtain ⟨q1, q2⟩ := mul_bd h1 h1
  obtain ⟨q3, q4⟩ := mul_bd h2 h2
  obtain ⟨h1, h1'⟩ := h1
  obtain ⟨h2, h2'⟩ := h2
  go_enter Tryz.func178, Tryz.ntmps178
  go_wp2_with fail
  go_ret
  exact ⟨rfl, by (repeat' (first | exact Ext.refl _ | assumption | apply Ext.alloc | apply Ext.drew | refine Ext.set ?_ (by dsimp only; omega) _ | refine Ext.trans ?_ (by assumption)))⟩
end Go.Proofs.YtfniicgoeljmdaaGreat

namespace Go.Proofs.YtfniicgoeljmdaaGreat
open Go.RowKit

/-- What valid sights give, as numbers. -/
structure SightOK (s : Sky) (x : Sight) : Prop where
  sky : skyErr s = 0
  kind : 1 ≤ x.kind ∧ x.kind ≤ 3
  tick : 0 ≤ x.tick ∧ x.tick ≤ 1073741824
  stn : ∃ st, stnOf s.stations x.station = some st
  cat : x.kind ≠ 2 → ∃ c, catOf s.catalogs x.catalog = some c ∧ -500000 ≤ c.lo ∧ c.lo ≤ c.hi ∧ c.hi ≤ 500000
  dir : x.kind ≠ 2 → (-4096 ≤ x.dx ∧ x.dx ≤ 4096) ∧ (-4096 ≤ x.dy ∧ x.dy ≤ 4096) ∧ (0 ≤ x.err ∧ x.err ≤ 500000) ∧ ¬ (x.dx = 0 ∧ x.dy = 0)
  reach : x.kind = 2 → 0 ≤ x.lo ∧ x.lo ≤ x.hi ∧ x.hi ≤ 134217728
  far : x.kind = 3 → 1 ≤ x.hi ∧ x.hi ≤ 134217728

theorem sight_ok {s : Sky} {x : Sight} (h : sightErr2 s x = 0) : SightOK s x := by
  rw [sightErr2] at h
  have h0 : skyErr s = 0 := Decidable.byContradiction fun h0 => by rw [if_pos h0] at h; exact h0 h
  rw [if_neg (by simpa using h0), sightErr] at h
  by_cases h1 : x.kind < 1 ∨ 3 < x.kind
  · rw [if_pos h1] at h; omega
  rw [if_neg h1] at h
  cases h2 : within x.tick 0 1073741824
  · rw [h2] at h; simp at h
  rw [h2] at h
  cases h3 : (stnOf s.stations x.station).isSome
  · rw [h3] at h; simp at h
  rw [h3] at h
  obtain ⟨st, hst⟩ := Option.isSome_iff_exists.1 h3
  simp only [Bool.true_eq_false, if_false] at h
  have ht := (within_iff _ _ _).1 h2
  by_cases h4 : x.kind = 2
  · rw [if_pos h4] at h
    by_cases h5 : x.lo < 0 ∨ x.hi < x.lo ∨ 134217728 < x.hi
    · rw [if_pos h5] at h; omega
    · exact ⟨h0, by omega, ht, ⟨st, hst⟩, fun h => absurd h4 h, fun h => absurd h4 h, fun _ => by omega, fun h => by omega⟩
  · rw [if_neg h4] at h
    cases h5 : (catOf s.catalogs x.catalog).isSome
    · rw [h5] at h; simp at h
    rw [h5] at h
    obtain ⟨c, hc⟩ := Option.isSome_iff_exists.1 h5
    have h6 : dirErr x = false := by
      cases h6 : dirErr x
      · rfl
      · rw [h6] at h; simp at h
    rw [h6] at h
    simp only [Bool.true_eq_false, Bool.false_eq_true, if_false] at h
    have hcb := (sky_ok h0).2.2 c (catOf_mem hc)
    simp only [dirErr, Bool.or_eq_false_iff, Bool.not_eq_false', Bool.and_eq_false_iff, beq_eq_false_iff_ne] at h6
    obtain ⟨⟨h7, h8⟩, h9⟩ := h6
    have h7 := (near_iff _ _).1 h7
    have h9 := (within_iff _ _ _).1 h9
    refine ⟨h0, by omega, ht, ⟨st, hst⟩, fun _ => ⟨c, hc, hcb⟩, fun _ => ⟨h7.1, h7.2, h9, by omega⟩, fun h => absurd h h4, fun hk => ?_⟩
    rw [if_pos hk] at h
    cases h10 : within x.hi 1 134217728
    · rw [h10] at h; simp at h
    · exact (within_iff _ _ _).1 h10

def orig (s : Sky) (x : Sight) : Vec := optV (whereM s x.station x.tick)
def biasLo (s : Sky) (x : Sight) : Int := ((catOf s.catalogs x.catalog).getD ⟨0, 0, 0⟩).lo - x.err
def biasHi (s : Sky) (x : Sight) : Int := ((catOf s.catalogs x.catalog).getD ⟨0, 0, 0⟩).hi + x.err
theorem SightOK.orig_bd {s : Sky} {x : Sight} (h : SightOK s x) : (-34603008 ≤ (orig s x).x ∧ (orig s x).x ≤ 34603008) ∧ (-34603008 ≤ (orig s x).y ∧ (orig s x).y ≤ 34603008) := by
  obtain ⟨st, hst⟩ := h.stn
  have h1 : orig s x = addV (homeAt s x.tick) st.off := by
    unfold orig
    rw [whereM, if_pos ⟨h.sky, (within_iff _ _ _).2 h.tick⟩, hst]
    rfl
  have h2 := (near_iff _ _).1 (home_ok h.sky x.tick)
  have h3 := (near_iff _ _).1 ((sky_ok h.sky).2.1 st (stnOf_mem hst))
  rw [h1, addV]
  dsimp only
  omega
theorem SightOK.bias_bd {s : Sky} {x : Sight} (h : SightOK s x) (hk : x.kind ≠ 2) : (-1000000 ≤ biasLo s x ∧ biasLo s x ≤ 1000000) ∧ (-1000000 ≤ biasHi s x ∧ biasHi s x ≤ 1000000) := by
  obtain ⟨c, hc, h1, h2, h3⟩ := h.cat hk
  obtain ⟨_, _, h4, _⟩ := h.dir hk
  unfold biasLo biasHi
  rw [hc]
  simp only [Option.getD_some]
  omega

def lookV (s : Sky) (x : Sight) : Value :=
  if x.kind = 2 then .iface 183 (.agg #[.int .i64 (orig s x).x, .int .i64 (orig s x).y, .int .i64 x.lo, .int .i64 x.hi])
  else if x.kind = 1 then .iface 187 (.agg #[.int .i64 (orig s x).x, .int .i64 (orig s x).y, .int .i64 x.dx, .int .i64 x.dy, .int .i64 (biasLo s x), .int .i64 (biasHi s x)])
  else .iface 189 (.agg #[.int .i64 (orig s x).x, .int .i64 (orig s x).y, .int .i64 x.dx, .int .i64 x.dy, .int .i64 (biasLo s x), .int .i64 (biasHi s x), .int .i64 x.hi])

set_option maxRecDepth 4000 in
set_option maxHeartbeats 1000000 in
theorem lookOf_c (A1 : Option Addr) (n1 c1 : Nat) (home : Int) (A2 : Option Addr) (n2 c2 : Nat) (A3 : Option Addr) (n3 c3 : Nat) (s : Sky) (kind st cat tick dx dy er lo hi : Int) (w : World) (hs : IsSky w A1 n1 home A2 n2 A3 n3 s)
    (hok : SightOK s ⟨kind, st, cat, tick, dx, dy, er, lo, hi⟩) :
    Calls Tryz.prog 119 #[.agg #[.slice A1 n1 c1, .int .i64 home, .slice A2 n2 c2, .slice A3 n3 c3], .agg #[.int .i64 kind, .int .i64 st, .int .i64 cat, .int .i64 tick, .int .i64 dx, .int .i64 dy, .int .i64 er, .int .i64 lo, .int .i64 hi]] w fun e w' =>
      e = .returned (lookV s ⟨kind, st, cat, tick, dx, dy, er, lo, hi⟩) ∧ Ext w w' := by
  unfold lookV orig biasLo biasHi
  dsimp only
  by_cases h2 : kind = 2
  · have h2' : (kind == 2) = true := by simpa using h2
    rw [if_pos h2]
    clear h2 hok
    go_enter Tryz.func119, Tryz.ntmps119
    go_wp2_with fail
    refine (Where_c _ _ _ _ _ _ _ _ _ _ s _ _ _ (IsSky.ext (by (repeat' (first | exact Ext.refl _ | assumption | apply Ext.alloc | apply Ext.drew | refine Ext.set ?_ (by dsimp only; omega) _ | refine Ext.trans ?_ (by assumption)))) hs)).mono ?_
    rintro e w1 ⟨rfl, h1⟩; obtain ⟨hc_w1, hf_w1, hz_w1⟩ := bcell h1; (repeat (first | rw [World.size_alloc] at hz_w1 | rw [World.size_drew] at hz_w1 | rw [World.size_setCell] at hz_w1)); have : w.heap.size < w1.heap.size := (by omega); have : w.heap.size + 1 < w1.heap.size := (by omega)
    go_wp2_with fail
    go_ret
    exact ⟨rfl, by (repeat' (first | exact Ext.refl _ | assumption | apply Ext.alloc | apply Ext.drew | refine Ext.set ?_ (by dsimp only; omega) _ | refine Ext.trans ?_ (by assumption)))⟩
  · have h2' : (kind == 2) = false := by simpa using h2
    rw [if_neg h2]
    obtain ⟨c, hc, hc1, hc2, hc3⟩ := hok.cat h2
    obtain ⟨_, _, ⟨he1, he2⟩, _⟩ := hok.dir h2
    dsimp only at hc he1 he2
    rw [hc]
    simp only [Option.getD_some]
    have Hc := Lib.hid hc
    clear hc hok
    by_cases h1 : kind = 1
    · have h1' : (kind == 1) = true := by simpa using h1
      rw [if_pos h1]
      clear h1 h2
      go_enter Tryz.func119, Tryz.ntmps119
      go_wp2_with fail
      refine (Where_c _ _ _ _ _ _ _ _ _ _ s _ _ _ (IsSky.ext (by (repeat' (first | exact Ext.refl _ | assumption | apply Ext.alloc | apply Ext.drew | refine Ext.set ?_ (by dsimp only; omega) _ | refine Ext.trans ?_ (by assumption)))) hs)).mono ?_
      rintro e w1 ⟨rfl, h1⟩; obtain ⟨hc_w1, hf_w1, hz_w1⟩ := bcell h1; (repeat (first | rw [World.size_alloc] at hz_w1 | rw [World.size_drew] at hz_w1 | rw [World.size_setCell] at hz_w1)); have : w.heap.size < w1.heap.size := (by omega); have : w.heap.size + 1 < w1.heap.size := (by omega)
      go_wp2_with fail
      refine (catalog_c _ _ _ _ _ _ _ _ _ _ _ s.catalogs _ (IsSky.ext (by (repeat' (first | exact Ext.refl _ | assumption | apply Ext.alloc | apply Ext.drew | refine Ext.set ?_ (by dsimp only; omega) _ | refine Ext.trans ?_ (by assumption)))) hs).catalogs).mono ?_
      rw [Hc.out]
      rintro e w2 ⟨rfl, h2⟩; obtain ⟨hc_w2, hf_w2, hz_w2⟩ := bcell h2; (repeat (first | rw [World.size_alloc] at hz_w2 | rw [World.size_drew] at hz_w2 | rw [World.size_setCell] at hz_w2)); have : w.heap.size < w2.heap.size := (by omega); have : w.heap.size + 1 < w2.heap.size := (by omega)
      have hw1 : w1.heap.size < w2.heap.size := by omega
      go_wp2_with fail
      go_ret
      exact ⟨rfl, by (repeat' (first | exact Ext.refl _ | assumption | apply Ext.alloc | apply Ext.drew | refine Ext.set ?_ (by dsimp only; omega) _ | refine Ext.trans ?_ (by assumption)))⟩
    · have h1' : (kind == 1) = false := by simpa using h1
      rw [if_neg h1]
      clear h1 h2
      go_enter Tryz.func119, Tryz.ntmps119
      go_wp2_with fail
      refine (Where_c _ _ _ _ _ _ _ _ _ _ s _ _ _ (IsSky.ext (by (repeat' (first | exact Ext.refl _ | assumption | apply Ext.alloc | apply Ext.drew | refine Ext.set ?_ (by dsimp only; omega) _ | refine Ext.trans ?_ (by assumption)))) hs)).mono ?_
      rintro e w1 ⟨rfl, h1⟩; obtain ⟨hc_w1, hf_w1, hz_w1⟩ := bcell h1; (repeat (first | rw [World.size_alloc] at hz_w1 | rw [World.size_drew] at hz_w1 | rw [World.size_setCell] at hz_w1)); have : w.heap.size < w1.heap.size := (by omega); have : w.heap.size + 1 < w1.heap.size := (by omega)
      go_wp2_with fail
      refine (catalog_c _ _ _ _ _ _ _ _ _ _ _ s.catalogs _ (IsSky.ext (by (repeat' (first | exact Ext.refl _ | assumption | apply Ext.alloc | apply Ext.drew | refine Ext.set ?_ (by dsimp only; omega) _ | refine Ext.trans ?_ (by assumption)))) hs).catalogs).mono ?_
      rw [Hc.out]
      rintro e w2 ⟨rfl, h2⟩; obtain ⟨hc_w2, hf_w2, hz_w2⟩ := bcell h2; (repeat (first | rw [World.size_alloc] at hz_w2 | rw [World.size_drew] at hz_w2 | rw [World.size_setCell] at hz_w2)); have : w.heap.size < w2.heap.size := (by omega); have : w.heap.size + 1 < w2.heap.size := (by omega)
      have hw1 : w1.heap.size < w2.heap.size := by omega
      go_wp2_with fail
      go_ret
      exact ⟨rfl, by (repeat' (first | exact Ext.refl _ | assumption | apply Ext.alloc | apply Ext.drew | refine Ext.set ?_ (by dsimp only; omega) _ | refine Ext.trans ?_ (by assumption)))⟩
end Go.Proofs.YtfniicgoeljmdaaGreat

namespace Go.Proofs.YtfniicgoeljmdaaGreat
open Go.RowKit

theorem SightOK.cb {s : Sky} {x : Sight} (h : SightOK s x) (hk : x.kind ≠ 2) {px py : Int} (hp : near ⟨px, py⟩ 33554432 = true) : CB (orig s x).x (orig s x).y x.dx x.dy px py := by
  have h1 := h.orig_bd
  obtain ⟨h2, h3, _, _⟩ := h.dir hk
  have h4 := (near_iff _ _).1 hp
  exact ⟨h1.1, h1.2, h2, h3, h4.1, h4.2⟩
theorem SightOK.diff {s : Sky} {x : Sight} (h : SightOK s x) {px py : Int} (hp : near ⟨px, py⟩ 33554432 = true) :
    (-68157440 ≤ px - (orig s x).x ∧ px - (orig s x).x ≤ 68157440) ∧ (-68157440 ≤ py - (orig s x).y ∧ py - (orig s x).y ≤ 68157440) := by
  have h1 := h.orig_bd
  have h4 := (near_iff _ _).1 hp
  dsimp only at h4
  omega

end Go.Proofs.YtfniicgoeljmdaaGreat

namespace Go.Proofs.YtfniicgoeljmdaaGreat
open Go.RowKit Go.Shelf
attribute [local go_sem] Oper.semAt_some

def pairE (p : Int × Int) : Array Value := #[.int .i64 p.1, .int .i64 p.2]
abbrev pairsV (al ah bl bh : Int) : List (Int × Int) := [(al, bl), (al, bh), (ah, bl), (ah, bh)]

set_option maxHeartbeats 1000000 in
theorem spPairs_c (al ah bl bh : Int) (w : World) :
    Calls Tryz.prog 277 #[.agg #[.int .i64 al, .int .i64 ah], .agg #[.int .i64 bl, .int .i64 bh]] w fun e w' => ∃ b, e = .returned (.func (.func 279) #[] #[.pointer (some ⟨b, 0, none⟩)]) ∧ Ext w w' ∧ w.heap.size ≤ b ∧ Blk w' b 287 #[.int .i64 al, .int .i64 ah, .int .i64 bl, .int .i64 bh] := by
  go_enter Tryz.func277, Tryz.ntmps277
  go_wp2_with fail
  go_ret
  exact ⟨_, rfl, by (repeat' (first | exact Ext.refl _ | assumption | apply Ext.alloc | apply Ext.drew | refine Ext.set ?_ (by dsimp only; omega) _ | refine Ext.trans ?_ (by assumption))), by omega, Blk.newAt (by simp)⟩

set_option maxRecDepth 100000 in
set_option maxHeartbeats 2000000 in
theorem spPairs_iter (g : Nat) (t : TypeId) (al ah bl bh : Int) (nb : Nat) (w : World) (hB : Blk w g t #[.int .i64 al, .int .i64 ah, .int .i64 bl, .int .i64 bh]) :
    IterOf Tryz.prog 279 #[.pointer (some ⟨g, 0, none⟩)] pairE nb [g] (pairsV al ah bl bh) w := by
  intro n l J Jx W hW hJ hJx hY h0
  have hBW := hB.ext hW
  have hY' : ∀ (pre : List { x // x ∈ pairsV al ah bl bh }) (x : { x // x ∈ pairsV al ah bl bh }) W1, J pre W1 → pre.length < 4 → YieldAt Fence.wide (n - 1) Tryz.prog l #[.int .i64 x.1.1, .int .i64 x.1.2] W1 fun e W' =>
      (e = .returned (.bool true) ∧ J (pre ++ [x]) W' ∧ KpX nb [g] W1 W') ∨ (e = .returned (.bool false) ∧ Jx (pre ++ [x]) W') := fun pre x W1 h1 h2 => hY pre x W1 h1 h2
  have HY := Lib.hid hY'
  clear hY hY' hB
  refine callsIn_of_wp Tryz.func279 rfl trivial ?_
  simp only [Tryz.ntmps279, List.size_toArray, List.length_cons, List.length_nil, Nat.reduceAdd, Nat.reduceSub, Array.replicate_succ, Array.replicate_zero, List.push_toArray, List.append_toArray, List.nil_append, List.cons_append]
  have hc := hBW.cell
  have hl := hBW.lt
  have HB := Lib.hid hBW
  have H0 := Lib.hid h0
  clear hBW h0
  gi_wp2
  gi_loopw [9] (fun i wr => ∃ (k : Nat) (pre : List { x // x ∈ pairsV al ah bl bh }), k ≤ 2 ∧ i = .int .i64 k ∧ Hid (pre.map Subtype.val = (pairsV al ah bl bh).take (2 * k)) ∧ Hid (J pre wr) ∧ Hid (Blk wr g t #[.int .i64 al, .int .i64 ah, .int .i64 bl, .int .i64 bh])) (fun i _ => 2 - (intOf i).toNat)
  case atStart => exact ⟨0, [], Nat.zero_le _, rfl, rfl, H0.out, HB.out⟩
  case round =>
    obtain ⟨k, pre, hk, rfl, HP, HJ1, HB1⟩ := hrel
    have hc1 := HB1.out.cell
    have hl1 := HB1.out.lt
    by_cases hk2 : k < 2
    · obtain ⟨X, hX⟩ : ∃ X, (k = 0 ∧ X = al) ∨ (k = 1 ∧ X = ah) := by
        by_cases h : k = 0
        · exact ⟨al, .inl ⟨h, rfl⟩⟩
        · exact ⟨ah, .inr ⟨by omega, rfl⟩⟩
      have ixk : ∀ W, (Instr.index 239 (.agg #[.int .i64 al, .int .i64 ah]) (.int .i64 (k : Int))).run Tryz.prog W = .ok (.int .i64 X) W := by
        rcases hX with ⟨rfl, rfl⟩ | ⟨rfl, rfl⟩ <;> intro W <;> kernel_rfl
      have HX := Lib.hid hX
      have hkb : decide ((k : Int) < 2) = true := by simp; omega
      clear hX
      gi_wp2
      gi_loopw [14] (fun j wr => ∃ (m : Nat) (pr : List { x // x ∈ pairsV al ah bl bh }), m ≤ 2 ∧ j = .int .i64 m ∧ Hid (pr.map Subtype.val = (pairsV al ah bl bh).take (2 * k + m)) ∧ Hid (J pr wr) ∧ Hid (Blk wr g t #[.int .i64 al, .int .i64 ah, .int .i64 bl, .int .i64 bh])) (fun j _ => 2 - (intOf j).toNat)
      case atStart => exact ⟨0, pre, Nat.zero_le _, rfl, HP.out, HJ1.out, HB1.out⟩
      case round =>
        obtain ⟨m, pr, hm, rfl, HP2, HJ2, HB2⟩ := hrel
        have hc2 := HB2.out.cell
        have hl2 := HB2.out.lt
        by_cases hm2 : m < 2
        · obtain ⟨Y, hYy⟩ : ∃ Y, (m = 0 ∧ Y = bl) ∨ (m = 1 ∧ Y = bh) := by
            by_cases h : m = 0
            · exact ⟨bl, .inl ⟨h, rfl⟩⟩
            · exact ⟨bh, .inr ⟨by omega, rfl⟩⟩
          have iym : ∀ W, (Instr.index 239 (.agg #[.int .i64 bl, .int .i64 bh]) (.int .i64 (m : Int))).run Tryz.prog W = .ok (.int .i64 Y) W := by
            rcases hYy with ⟨rfl, rfl⟩ | ⟨rfl, rfl⟩ <;> intro W <;> kernel_rfl
          have hmem : (X, Y) ∈ pairsV al ah bl bh := by
            rcases HX.out with ⟨_, rfl⟩ | ⟨_, rfl⟩ <;> rcases hYy with ⟨_, rfl⟩ | ⟨_, rfl⟩ <;> simp [pairsV]
          have hstep : (pairsV al ah bl bh).take (2 * k + (m + 1)) = (pairsV al ah bl bh).take (2 * k + m) ++ [(X, Y)] := by
            rcases HX.out with ⟨rfl, rfl⟩ | ⟨rfl, rfl⟩ <;> rcases hYy with ⟨rfl, rfl⟩ | ⟨rfl, rfl⟩ <;> rfl
          have Hstep := Lib.hid hstep
          clear hstep hYy
          obtain ⟨fn, tmps, assign, body, hy, hR⟩ := HY.out pr ⟨(X, Y), hmem⟩ wr HJ2.out (by have h3 := congrArg List.length HP2.out; rw [List.length_map, List.length_take] at h3; omega)
          dsimp only at hy
          gi_wp2
          refine ⟨fun h => (by cases h), hR.mono ?_⟩
          rintro e W3 (⟨rfl, hJ3, hk3⟩ | ⟨rfl, hJx3⟩)
          · have HB3 := Lib.hid (hk3.2 g (by simp) _ _ HB2.out)
            have HJ3 := Lib.hid hJ3
            clear hk3 hJ3
            gi_wp2
            go_roundw
            case rel => exact ⟨m + 1, pr ++ [⟨(X, Y), hmem⟩], by omega, by go_num, Lib.hid (by rw [List.map_append, HP2.out, Hstep.out]; rfl), HJ3, HB3⟩
            case measure => simp [intOf]; omega
          · gi_wp2
            refine bodyPost_ret (results_none rfl _ _ _) rfl ?_
            exact ⟨⟨_, rfl⟩, .inr ⟨pr ++ [⟨(X, Y), hmem⟩], by rw [List.map_append, HP2.out]; exact (Hstep.out ▸ List.take_prefix (2 * k + (m + 1)) (pairsV al ah bl bh)), hJx3⟩⟩
        · obtain rfl : m = 2 := by omega
          gi_wp2
          go_roundw
          case rel => exact ⟨k + 1, pr, by omega, by go_num, HP2.out, HJ2.out, HB2.out⟩
          case measure => simp [intOf]; omega
    · obtain rfl : k = 2 := by omega
      gi_wp2
      go_end0
      exact ⟨⟨_, rfl⟩, .inl ⟨pre, HP.out, HJ1.out⟩⟩
end Go.Proofs.YtfniicgoeljmdaaGreat
