/- Whether a place agrees with a sight: the reference. -/
import Derived.Test.YtmgjjgmadiabfaaAgree
namespace Go.Proofs.Ytmgjjgmadiabfaa
open Go.RowKit

theorem stn_at {l : List Stn} {id : Int} {x : Stn} (h : stnOf l id = some x) : ∃ i : Nat, idxFrom (fun x : Stn => x.id == id) l 0 = i ∧ l[i]? = some x := by
  rcases idx_cases (fun x : Stn => x.id == id) l with ⟨_, h2⟩ | ⟨i, y, _, h1, h3, h2⟩
  · rw [stnOf, h2] at h; cases h
  · rw [stnOf, h2] at h; cases h; exact ⟨i, h1, h3⟩
theorem cat_at {l : List Cat} {id : Int} {x : Cat} (h : catOf l id = some x) : ∃ i : Nat, idxFrom (fun x : Cat => x.version == id) l 0 = i ∧ l[i]? = some x := by
  rcases idx_cases (fun x : Cat => x.version == id) l with ⟨_, h2⟩ | ⟨i, y, _, h1, h3, h2⟩
  · rw [catOf, h2] at h; cases h
  · rw [catOf, h2] at h; cases h; exact ⟨i, h1, h3⟩

set_option maxRecDepth 4000 in
set_option maxHeartbeats 1000000 in
theorem from_c (A1 : Option Addr) (n1 c1 : Nat) (home : Int) (A2 : Option Addr) (n2 c2 : Nat) (A3 : Option Addr) (n3 c3 : Nat) (s : Sky) (kind st cat tick dx dy er lo hi px py : Int) (w : World) (hs : IsSky w A1 n1 home A2 n2 A3 n3 s)
    (hv : SightOK s ⟨kind, st, cat, tick, dx, dy, er, lo, hi⟩) (hn : near ⟨px, py⟩ 33554432 = true) :
    Calls Try.prog 118 #[.agg #[.slice A1 n1 c1, .int .i64 home, .slice A2 n2 c2, .slice A3 n3 c3], .agg #[.int .i64 kind, .int .i64 st, .int .i64 cat, .int .i64 tick, .int .i64 dx, .int .i64 dy, .int .i64 er, .int .i64 lo, .int .i64 hi], .agg #[.int .i64 px, .int .i64 py]] w fun e w' =>
      e = .returned (.agg #[.int .i64 (px - (orig s ⟨kind, st, cat, tick, dx, dy, er, lo, hi⟩).x), .int .i64 (py - (orig s ⟨kind, st, cat, tick, dx, dy, er, lo, hi⟩).y)]) ∧ Ext w w' := by
  obtain ⟨⟨d1, d2⟩, d3, d4⟩ := hv.diff hn
  obtain ⟨x, hx⟩ := hv.stn
  obtain ⟨i, hi1, hi2⟩ := stn_at hx
  have ho : orig s ⟨kind, st, cat, tick, dx, dy, er, lo, hi⟩ = addV (homeAt s tick) x.off := by
    unfold orig
    rw [whereM, if_pos ⟨hv.sky, (within_iff _ _ _).2 hv.tick⟩, hx]
    rfl
  have HS := Lib.hid fun W (hW : Ext w W) => refStation_c A1 n1 c1 home A2 n2 c2 A3 n3 c3 st s.stations W (hs.ext hW).stations
  have HW := Lib.hid fun W (hW : Ext w W) => refwhere_c A1 n1 c1 home A2 n2 c2 A3 n3 c3 s i x tick W (hs.ext hW) hv.sky hi2 hv.tick.1 hv.tick.2
  dsimp only at hi1
  rw [hi1] at HS
  rw [← ho] at HW
  generalize orig s ⟨kind, st, cat, tick, dx, dy, er, lo, hi⟩ = o at *
  clear ho hi1 hi2 hx hv hn
  go_enter Try.func118, Try.ntmps118
  go_wp2_with fail
  refine wp_region_tail 8 (Ext _) (Ext _) (Stable.ext _) (fun _ h => h) (Ext.drew (Ext.refl _)) (by kernel_rfl) (by kernel_rfl) ?_
  repeat' (first | (refine bl_off (by rfl) ?_; simp only [Act.put, List.setIfInBounds_toArray, List.set_cons_zero, List.set_cons_succ]) | (apply bl_op; rfl; (intro w1 h1; obtain ⟨hc, hf, hz⟩ := bcell h1; go_simp; (try go_bits); (first | exact ⟨rfl, Ext.refl _⟩ | (apply gives_call; first | (go_at_call 72; exact HS.out _ (by (repeat' (first | exact Ext.refl _ | assumption | apply Ext.alloc | apply Ext.drew | refine Ext.set ?_ (by dsimp only; omega) _ | refine Ext.trans ?_ (by assumption))))) | (go_at_call 74; exact HW.out _ (by (repeat' (first | exact Ext.refl _ | assumption | apply Ext.alloc | apply Ext.drew | refine Ext.set ?_ (by dsimp only; omega) _ | refine Ext.trans ?_ (by assumption)))))) | (go_invoke; go_simp; apply gives_call; first | (go_at_call 72; exact HS.out _ (by (repeat' (first | exact Ext.refl _ | assumption | apply Ext.alloc | apply Ext.drew | refine Ext.set ?_ (by dsimp only; omega) _ | refine Ext.trans ?_ (by assumption))))) | (go_at_call 74; exact HW.out _ (by (repeat' (first | exact Ext.refl _ | assumption | apply Ext.alloc | apply Ext.drew | refine Ext.set ?_ (by dsimp only; omega) _ | refine Ext.trans ?_ (by assumption)))))))); simp only [Act.put, List.setIfInBounds_toArray, List.set_cons_zero, List.set_cons_succ]) | (refine bl_split rfl rfl (fun hx => ?_) (fun hx => ?_) <;> simp only [hx]))
  refine bl_nil ?_; refine tw_alloc (e := 30) (zs := #[.int .i64 0, .int .i64 0]) rfl (fun w => by go_simp) (fun b hb => ?_); simp only [Act.put, List.setIfInBounds_toArray, List.set_cons_zero, List.set_cons_succ]; refine tw_store (vs := #[.int .i64 o.x, .int .i64 o.y]) rfl rfl (fun w2 h2 hB => ?_) ?_; (focus (have hcB := hB.cell; have hfB := hB.frozen; exact ⟨_, (by go_simp), (Ext.set (Ext.set h2 (by dsimp only; omega) _) (by dsimp only; omega) _), ((hB.set_ 0 _).set_ 1 _)⟩)); refine tw_nil ?_; rintro w3 ⟨h_w3, hB_w3⟩; have hcB_w3 := hB_w3.cell; have hfB_w3 := hB_w3.frozen
  obtain ⟨hc_w3, hf_w3, hz_w3⟩ := bcell h_w3; (repeat (first | rw [World.size_alloc] at hz_w3 | rw [World.size_drew] at hz_w3 | rw [World.size_setCell] at hz_w3)); have : w.heap.size < w3.heap.size := (by omega); have : w.heap.size + 1 < w3.heap.size := (by omega); have : w.heap.size + 2 < w3.heap.size := (by omega); have : w.heap.size + 3 < w3.heap.size := (by omega)
  go_wp2_with fail
  (try simp only [Exit.inBlock, Exit.then]); apply bodyPost_ret; (focus (simp only [results, Try.results118]; go_simp; try rfl)); rfl
  exact ⟨rfl, by (repeat' (first | exact Ext.refl _ | assumption | apply Ext.alloc | apply Ext.drew | refine Ext.set ?_ (by dsimp only; omega) _ | refine Ext.trans ?_ (by assumption)))⟩

set_option maxHeartbeats 1000000 in
theorem far_c (A1 : Option Addr) (n1 c1 : Nat) (home : Int) (A2 : Option Addr) (n2 c2 : Nat) (A3 : Option Addr) (n3 c3 : Nat) (s : Sky) (kind st cat tick dx dy er lo hi px py : Int) (w : World) (hs : IsSky w A1 n1 home A2 n2 A3 n3 s)
    (hv : SightOK s ⟨kind, st, cat, tick, dx, dy, er, lo, hi⟩) (hn : near ⟨px, py⟩ 33554432 = true) :
    Calls Try.prog 94 #[.agg #[.slice A1 n1 c1, .int .i64 home, .slice A2 n2 c2, .slice A3 n3 c3], .agg #[.int .i64 kind, .int .i64 st, .int .i64 cat, .int .i64 tick, .int .i64 dx, .int .i64 dy, .int .i64 er, .int .i64 lo, .int .i64 hi], .agg #[.int .i64 px, .int .i64 py]] w fun e w' =>
      e = .returned (.int .i64 (distD px py (orig s ⟨kind, st, cat, tick, dx, dy, er, lo, hi⟩).x (orig s ⟨kind, st, cat, tick, dx, dy, er, lo, hi⟩).y)) ∧ Ext w w' := by
  obtain ⟨d1, d2⟩ := hv.diff hn
  have HF := Lib.hid fun W (hW : Ext w W) => from_c A1 n1 c1 home A2 n2 c2 A3 n3 c3 s kind st cat tick dx dy er lo hi px py W (hs.ext hW) hv hn
  unfold distD
  generalize orig s ⟨kind, st, cat, tick, dx, dy, er, lo, hi⟩ = o at *
  obtain ⟨q1, q2⟩ := mul_bd d1 d1
  obtain ⟨q3, q4⟩ := mul_bd d2 d2
  obtain ⟨d1, d1'⟩ := d1
  obtain ⟨d2, d2'⟩ := d2
  clear hv hn
  go_enter Try.func94, Try.ntmps94
  go_wp2_with fail
  refine (HF.out _ (by (repeat' (first | exact Ext.refl _ | assumption | apply Ext.alloc | apply Ext.drew | refine Ext.set ?_ (by dsimp only; omega) _ | refine Ext.trans ?_ (by assumption))))).mono ?_
  rintro e w1 ⟨rfl, h1⟩; obtain ⟨hc_w1, hf_w1, hz_w1⟩ := bcell h1; (repeat (first | rw [World.size_alloc] at hz_w1 | rw [World.size_drew] at hz_w1 | rw [World.size_setCell] at hz_w1)); have : w.heap.size < w1.heap.size := (by omega); have : w.heap.size + 1 < w1.heap.size := (by omega); have : w.heap.size + 2 < w1.heap.size := (by omega)
  go_wp2_with fail
  go_ret
  exact ⟨rfl, by (repeat' (first | exact Ext.refl _ | assumption | apply Ext.alloc | apply Ext.drew | refine Ext.set ?_ (by dsimp only; omega) _ | refine Ext.trans ?_ (by assumption)))⟩

set_option maxRecDepth 4000 in
set_option maxHeartbeats 1000000 in
theorem refsides_c (A1 : Option Addr) (n1 c1 : Nat) (home : Int) (A2 : Option Addr) (n2 c2 : Nat) (A3 : Option Addr) (n3 c3 : Nat) (s : Sky) (kind st cat tick dx dy er lo hi px py : Int) (w : World) (hs : IsSky w A1 n1 home A2 n2 A3 n3 s)
    (hv : SightOK s ⟨kind, st, cat, tick, dx, dy, er, lo, hi⟩) (hk : kind ≠ 2) (hn : near ⟨px, py⟩ 33554432 = true) (C D : Int)
    (hC : crossD (orig s ⟨kind, st, cat, tick, dx, dy, er, lo, hi⟩).x (orig s ⟨kind, st, cat, tick, dx, dy, er, lo, hi⟩).y dx dy px py = C) (hD : dotD (orig s ⟨kind, st, cat, tick, dx, dy, er, lo, hi⟩).x (orig s ⟨kind, st, cat, tick, dx, dy, er, lo, hi⟩).y dx dy px py = D) :
    Calls Try.prog 95 #[.agg #[.slice A1 n1 c1, .int .i64 home, .slice A2 n2 c2, .slice A3 n3 c3], .agg #[.int .i64 kind, .int .i64 st, .int .i64 cat, .int .i64 tick, .int .i64 dx, .int .i64 dy, .int .i64 er, .int .i64 lo, .int .i64 hi], .agg #[.int .i64 px, .int .i64 py]] w fun e w' =>
      e = .returned (.tuple #[.int .i64 D, .int .i64 (1000000 * C - biasLo s ⟨kind, st, cat, tick, dx, dy, er, lo, hi⟩ * D), .int .i64 (biasHi s ⟨kind, st, cat, tick, dx, dy, er, lo, hi⟩ * D - 1000000 * C)]) ∧ Ext w w' := by
  have hcb := hv.cb hk hn
  obtain ⟨⟨p1, p2⟩, ⟨p3, p4⟩, ⟨p5, p6⟩, p7, p8⟩ := hcb.prods
  obtain ⟨r1, r2⟩ := hcb.cross
  have r3 := hcb.dot
  dsimp only at p1 p2 p3 p4 p5 p6 p7 p8 r1 r2 r3
  rw [hC] at r1 r2
  rw [hD] at r3
  obtain ⟨hb1, hb2⟩ := hv.bias_bd hk
  obtain ⟨m1, m2⟩ := mul_bd hb1 r3
  obtain ⟨m3, m4⟩ := mul_bd hb2 r3
  obtain ⟨r3, r4⟩ := r3
  obtain ⟨⟨d1, d2⟩, d3, d4⟩ := hv.diff hn
  obtain ⟨x, hx, e1, e2, e3⟩ := hv.cat hk
  obtain ⟨i, hi1, hi2⟩ := cat_at hx
  obtain ⟨_, _, ⟨e4, e5⟩, _⟩ := hv.dir hk
  have hlo : biasLo s ⟨kind, st, cat, tick, dx, dy, er, lo, hi⟩ = x.lo - er := by unfold biasLo; rw [hx]; rfl
  have hhi : biasHi s ⟨kind, st, cat, tick, dx, dy, er, lo, hi⟩ = x.hi + er := by unfold biasHi; rw [hx]; rfl
  rw [hlo] at m1 m2 ⊢
  rw [hhi] at m3 m4 ⊢
  dsimp only at e4 e5 hi1
  obtain ⟨hin, g, off, rfl, hc⟩ := hs.catalogs.get hi2
  have hn3 := hs.catalogs.le
  obtain ⟨hc0, hc1, hc2⟩ := hc
  have HF := Lib.hid fun W (hW : Ext w W) => from_c A1 n1 c1 home A2 n2 c2 _ n3 c3 s kind st cat tick dx dy er lo hi px py W (hs.ext hW) hv hn
  have HK := Lib.hid fun W (hW : Ext w W) => refCatalog_c A1 n1 c1 home A2 n2 c2 _ n3 c3 cat s.catalogs W (hs.ext hW).catalogs
  rw [hi1] at HK
  unfold crossD at hC
  unfold dotD at hD
  generalize orig s ⟨kind, st, cat, tick, dx, dy, er, lo, hi⟩ = o at *
  have HC := Lib.hid hC
  have HD := Lib.hid hD
  clear hC hD hv hn hk hcb hlo hhi hi1 hi2 hb1 hb2 hx
  go_enter Try.func95, Try.ntmps95
  go_wp2_with fail
  refine (HF.out _ (by (repeat' (first | exact Ext.refl _ | assumption | apply Ext.alloc | apply Ext.drew | refine Ext.set ?_ (by dsimp only; omega) _ | refine Ext.trans ?_ (by assumption))))).mono ?_
  rintro e w1 ⟨rfl, h1⟩; obtain ⟨hc_w1, hf_w1, hz_w1⟩ := bcell h1; (repeat (first | rw [World.size_alloc] at hz_w1 | rw [World.size_drew] at hz_w1 | rw [World.size_setCell] at hz_w1)); have : w.heap.size < w1.heap.size := (by omega); have : w.heap.size + 1 < w1.heap.size := (by omega); have : w.heap.size + 2 < w1.heap.size := (by omega)
  have hg1 : w1.cell? ⟨g, off + i * 3, none⟩ = some (.int .i64 x.version) := h1.cell ((Ext.alloc ((Ext.alloc0 _ _).alloc _) _).cell hc0)
  have hg2 : w1.cell? ⟨g, off + i * 3 + 1, none⟩ = some (.int .i64 x.lo) := h1.cell ((Ext.alloc ((Ext.alloc0 _ _).alloc _) _).cell hc1)
  have hg3 : w1.cell? ⟨g, off + i * 3 + 1 + 1, none⟩ = some (.int .i64 x.hi) := h1.cell ((Ext.alloc ((Ext.alloc0 _ _).alloc _) _).cell hc2)
  have hgl : g < w1.heap.size := World.block_lt_of_cell? w1 _ hg1
  clear hc0 hc1 hc2
  go_wp2_with fail
  refine wp_region_tail 9 (Ext _) (Ext _) (Stable.ext _) (fun _ h => h) (Ext.drew (Ext.refl _)) (by kernel_rfl) (by kernel_rfl) ?_
  repeat' (first | (refine bl_off (by rfl) ?_; simp only [Act.put, List.setIfInBounds_toArray, List.set_cons_zero, List.set_cons_succ]) | (apply bl_op; rfl; (intro w1 h1; obtain ⟨hc, hf, hz⟩ := bcell h1; go_simp; (try go_bits); (first | exact ⟨rfl, Ext.refl _⟩ | (apply gives_call; first | (go_at_call 110; exact HK.out _ (by (repeat' (first | exact Ext.refl _ | assumption | apply Ext.alloc | apply Ext.drew | refine Ext.set ?_ (by dsimp only; omega) _ | refine Ext.trans ?_ (by assumption)))))) | (go_invoke; go_simp; apply gives_call; first | (go_at_call 110; exact HK.out _ (by (repeat' (first | exact Ext.refl _ | assumption | apply Ext.alloc | apply Ext.drew | refine Ext.set ?_ (by dsimp only; omega) _ | refine Ext.trans ?_ (by assumption)))))))); simp only [Act.put, List.setIfInBounds_toArray, List.set_cons_zero, List.set_cons_succ]) | (refine bl_split rfl rfl (fun hx => ?_) (fun hx => ?_) <;> simp only [hx]))
  refine bl_nil ?_; refine tw_alloc (e := 59) (zs := #[.int .i64 0, .int .i64 0]) rfl (fun w => by go_simp) (fun b hb => ?_); simp only [Act.put, List.setIfInBounds_toArray, List.set_cons_zero, List.set_cons_succ]; refine tw_store (vs := #[.int .i64 x.lo, .int .i64 x.hi]) rfl rfl (fun w2 h2 hB => ?_) ?_; (focus (have hcB := hB.cell; have hfB := hB.frozen; exact ⟨_, (by go_simp), (Ext.set (Ext.set h2 (by dsimp only; omega) _) (by dsimp only; omega) _), ((hB.set_ 0 _).set_ 1 _)⟩)); refine tw_nil ?_; rintro w3 ⟨h_w3, hB_w3⟩; have hcB_w3 := hB_w3.cell; have hfB_w3 := hB_w3.frozen
  obtain ⟨hc_w3, hf_w3, hz_w3⟩ := bcell h_w3; (repeat (first | rw [World.size_alloc] at hz_w3 | rw [World.size_drew] at hz_w3 | rw [World.size_setCell] at hz_w3)); have : w.heap.size < w3.heap.size := (by omega); have : w.heap.size + 1 < w3.heap.size := (by omega); have : w.heap.size + 2 < w3.heap.size := (by omega)
  have hw13 : w1.heap.size < w3.heap.size := by omega
  have hbw3 : b < w3.heap.size := hB_w3.lt
  go_wp2_with fail
  simp only [HC.out, HD.out]
  refine wp_region_text (by kernel_rfl) (by kernel_rfl) ?_
  repeat' (first | (refine bl_off (by rfl) ?_; simp only [Act.put, List.setIfInBounds_toArray, List.set_cons_zero, List.set_cons_succ]) | (apply bl_op; rfl; (intro w1 h1; obtain ⟨hc, hf, hz⟩ := bcell h1; go_simp; (try go_bits); (first | exact ⟨rfl, Ext.refl _⟩)); simp only [Act.put, List.setIfInBounds_toArray, List.set_cons_zero, List.set_cons_succ]) | (refine bl_split rfl rfl (fun hx => ?_) (fun hx => ?_) <;> simp only [hx]))
  refine bl_nil ?_
  intro w4 h4
  go_wp2_with fail
  go_ret3
  exact ⟨rfl, by (repeat' (first | exact Ext.refl _ | assumption | apply Ext.alloc | apply Ext.drew | refine Ext.set ?_ (by dsimp only; omega) _ | refine Ext.trans ?_ (by assumption)))⟩

set_option maxHeartbeats 1000000 in
theorem inside_c (A1 : Option Addr) (n1 c1 : Nat) (home : Int) (A2 : Option Addr) (n2 c2 : Nat) (A3 : Option Addr) (n3 c3 : Nat) (s : Sky) (kind st cat tick dx dy er lo hi px py : Int) (w : World) (hs : IsSky w A1 n1 home A2 n2 A3 n3 s)
    (hv : SightOK s ⟨kind, st, cat, tick, dx, dy, er, lo, hi⟩) (hk : kind ≠ 2) (hn : near ⟨px, py⟩ 33554432 = true) :
    Calls Try.prog 111 #[.agg #[.slice A1 n1 c1, .int .i64 home, .slice A2 n2 c2, .slice A3 n3 c3], .agg #[.int .i64 kind, .int .i64 st, .int .i64 cat, .int .i64 tick, .int .i64 dx, .int .i64 dy, .int .i64 er, .int .i64 lo, .int .i64 hi], .agg #[.int .i64 px, .int .i64 py]] w fun e w' =>
      e = .returned (.bool (inB (orig s ⟨kind, st, cat, tick, dx, dy, er, lo, hi⟩).x (orig s ⟨kind, st, cat, tick, dx, dy, er, lo, hi⟩).y dx dy (biasLo s ⟨kind, st, cat, tick, dx, dy, er, lo, hi⟩) (biasHi s ⟨kind, st, cat, tick, dx, dy, er, lo, hi⟩) px py)) ∧ Ext w w' := by
  obtain ⟨C, hC⟩ : ∃ C, crossD (orig s ⟨kind, st, cat, tick, dx, dy, er, lo, hi⟩).x (orig s ⟨kind, st, cat, tick, dx, dy, er, lo, hi⟩).y dx dy px py = C := ⟨_, rfl⟩
  obtain ⟨D, hD⟩ : ∃ D, dotD (orig s ⟨kind, st, cat, tick, dx, dy, er, lo, hi⟩).x (orig s ⟨kind, st, cat, tick, dx, dy, er, lo, hi⟩).y dx dy px py = D := ⟨_, rfl⟩
  have HF := Lib.hid fun W (hW : Ext w W) => refsides_c A1 n1 c1 home A2 n2 c2 A3 n3 c3 s kind st cat tick dx dy er lo hi px py W (hs.ext hW) hv hk hn C D hC hD
  unfold inB behindB belowB aboveB
  rw [hC, hD]
  generalize biasLo s ⟨kind, st, cat, tick, dx, dy, er, lo, hi⟩ * D = L at *
  generalize biasHi s ⟨kind, st, cat, tick, dx, dy, er, lo, hi⟩ * D = H at *
  clear hC hD hv hn hk
  go_enter Try.func111, Try.ntmps111
  go_wp2_with fail
  refine (HF.out _ (by (repeat' (first | exact Ext.refl _ | assumption | apply Ext.alloc | apply Ext.drew | refine Ext.set ?_ (by dsimp only; omega) _ | refine Ext.trans ?_ (by assumption))))).mono ?_
  rintro e w1 ⟨rfl, h1⟩; obtain ⟨hc_w1, hf_w1, hz_w1⟩ := bcell h1; (repeat (first | rw [World.size_alloc] at hz_w1 | rw [World.size_drew] at hz_w1 | rw [World.size_setCell] at hz_w1)); have : w.heap.size < w1.heap.size := (by omega); have : w.heap.size + 1 < w1.heap.size := (by omega); have : w.heap.size + 2 < w1.heap.size := (by omega)
  go_wp2_with fail
  all_goals go_ret
  all_goals refine ⟨ret_b ?_, by (repeat' (first | exact Ext.refl _ | assumption | apply Ext.alloc | apply Ext.drew | refine Ext.set ?_ (by dsimp only; omega) _ | refine Ext.trans ?_ (by assumption)))⟩
  all_goals (clear hs; first | (simp_all; done) | (rw [Bool.eq_iff_iff]; simp; omega))

set_option maxRecDepth 4000 in
set_option maxHeartbeats 1000000 in
theorem refagrees_c (A1 : Option Addr) (n1 c1 : Nat) (home : Int) (A2 : Option Addr) (n2 c2 : Nat) (A3 : Option Addr) (n3 c3 : Nat) (s : Sky) (kind st cat tick dx dy er lo hi px py : Int) (w : World) (hs : IsSky w A1 n1 home A2 n2 A3 n3 s)
    (hv : SightOK s ⟨kind, st, cat, tick, dx, dy, er, lo, hi⟩) (hn : near ⟨px, py⟩ 33554432 = true) :
    Calls Try.prog 64 #[.agg #[.slice A1 n1 c1, .int .i64 home, .slice A2 n2 c2, .slice A3 n3 c3], .agg #[.int .i64 kind, .int .i64 st, .int .i64 cat, .int .i64 tick, .int .i64 dx, .int .i64 dy, .int .i64 er, .int .i64 lo, .int .i64 hi], .agg #[.int .i64 px, .int .i64 py]] w fun e w' =>
      e = .returned (.bool (agreesM s ⟨kind, st, cat, tick, dx, dy, er, lo, hi⟩ px py)) ∧ Ext w w' := by
  unfold agreesM
  dsimp only
  have HD := Lib.hid fun W (hW : Ext w W) => far_c A1 n1 c1 home A2 n2 c2 A3 n3 c3 s kind st cat tick dx dy er lo hi px py W (hs.ext hW) hv hn
  by_cases hk2 : kind = 2
  · obtain ⟨hr1, hr2, hr3⟩ := hv.reach hk2
    dsimp only at hr1 hr2 hr3
    obtain ⟨q1, q2⟩ := mul_bd (a := lo) (b := lo) (A := 134217728) (B := 134217728) (by omega) (by omega)
    obtain ⟨q3, q4⟩ := mul_bd (a := hi) (b := hi) (A := 134217728) (B := 134217728) (by omega) (by omega)
    rw [if_pos hk2]
    generalize distD px py (orig s ⟨kind, st, cat, tick, dx, dy, er, lo, hi⟩).x (orig s ⟨kind, st, cat, tick, dx, dy, er, lo, hi⟩).y = d at *
    have e1 : (kind == 1) = false := by simp; omega
    have e2 : (kind == 2) = true := by simpa using hk2
    clear hv hn hk2 hr1 hr2 hr3
    go_enter Try.func64, Try.ntmps64
    go_wp2_with fail
    refine (HD.out _ (by (repeat' (first | exact Ext.refl _ | assumption | apply Ext.alloc | apply Ext.drew | refine Ext.set ?_ (by dsimp only; omega) _ | refine Ext.trans ?_ (by assumption))))).mono ?_
    rintro e w1 ⟨rfl, h1⟩; obtain ⟨hc_w1, hf_w1, hz_w1⟩ := bcell h1; (repeat (first | rw [World.size_alloc] at hz_w1 | rw [World.size_drew] at hz_w1 | rw [World.size_setCell] at hz_w1)); have : w.heap.size < w1.heap.size := (by omega); have : w.heap.size + 1 < w1.heap.size := (by omega); have : w.heap.size + 2 < w1.heap.size := (by omega)
    go_wp2_with fail
    all_goals go_ret
    all_goals refine ⟨ret_b ?_, by (repeat' (first | exact Ext.refl _ | assumption | apply Ext.alloc | apply Ext.drew | refine Ext.set ?_ (by dsimp only; omega) _ | refine Ext.trans ?_ (by assumption)))⟩
    all_goals (simp [within, *]; try omega)
  · have HI := Lib.hid fun W (hW : Ext w W) => inside_c A1 n1 c1 home A2 n2 c2 A3 n3 c3 s kind st cat tick dx dy er lo hi px py W (hs.ext hW) hv hk2 hn
    rw [if_neg hk2]
    by_cases hk1 : kind = 1
    · rw [if_pos hk1]
      generalize inB (orig s ⟨kind, st, cat, tick, dx, dy, er, lo, hi⟩).x (orig s ⟨kind, st, cat, tick, dx, dy, er, lo, hi⟩).y dx dy (biasLo s ⟨kind, st, cat, tick, dx, dy, er, lo, hi⟩) (biasHi s ⟨kind, st, cat, tick, dx, dy, er, lo, hi⟩) px py = B at *
      have e1 : (kind == 1) = true := by simpa using hk1
      clear hv hn hk2 hk1 HD
      go_enter Try.func64, Try.ntmps64
      go_wp2_with fail
      refine (HI.out _ (by (repeat' (first | exact Ext.refl _ | assumption | apply Ext.alloc | apply Ext.drew | refine Ext.set ?_ (by dsimp only; omega) _ | refine Ext.trans ?_ (by assumption))))).mono ?_
      rintro e w1 ⟨rfl, h1⟩; obtain ⟨hc_w1, hf_w1, hz_w1⟩ := bcell h1; (repeat (first | rw [World.size_alloc] at hz_w1 | rw [World.size_drew] at hz_w1 | rw [World.size_setCell] at hz_w1)); have : w.heap.size < w1.heap.size := (by omega); have : w.heap.size + 1 < w1.heap.size := (by omega); have : w.heap.size + 2 < w1.heap.size := (by omega)
      go_wp2_with fail
      go_ret
      exact ⟨rfl, by (repeat' (first | exact Ext.refl _ | assumption | apply Ext.alloc | apply Ext.drew | refine Ext.set ?_ (by dsimp only; omega) _ | refine Ext.trans ?_ (by assumption)))⟩
    · rw [if_neg hk1]
      have hk3 : kind = 3 := by have := hv.kind; dsimp only at this; omega
      obtain ⟨f1, f2⟩ := hv.far hk3
      dsimp only at f1 f2
      obtain ⟨q3, q4⟩ := mul_bd (a := hi) (b := hi) (A := 134217728) (B := 134217728) (by omega) (by omega)
      generalize inB (orig s ⟨kind, st, cat, tick, dx, dy, er, lo, hi⟩).x (orig s ⟨kind, st, cat, tick, dx, dy, er, lo, hi⟩).y dx dy (biasLo s ⟨kind, st, cat, tick, dx, dy, er, lo, hi⟩) (biasHi s ⟨kind, st, cat, tick, dx, dy, er, lo, hi⟩) px py = B at *
      generalize distD px py (orig s ⟨kind, st, cat, tick, dx, dy, er, lo, hi⟩).x (orig s ⟨kind, st, cat, tick, dx, dy, er, lo, hi⟩).y = d at *
      have e1 : (kind == 1) = false := by simpa using hk1
      have e2 : (kind == 2) = false := by simpa using hk2
      clear hv hn hk2 hk1 hk3 f1 f2
      go_enter Try.func64, Try.ntmps64
      go_wp2_with fail
      refine wp_region_text (by kernel_rfl) (by kernel_rfl) ?_
      repeat' (first | (refine bl_off (by rfl) ?_; simp only [Act.put, List.setIfInBounds_toArray, List.set_cons_zero, List.set_cons_succ]) | (apply bl_op; rfl; (intro w1 h1; obtain ⟨hc, hf, hz⟩ := bcell h1; go_simp; (try go_bits); (first | exact ⟨rfl, Ext.refl _⟩ | (apply gives_call; first | (go_at_call 111; exact HI.out _ (by (repeat' (first | exact Ext.refl _ | assumption | apply Ext.alloc | apply Ext.drew | refine Ext.set ?_ (by dsimp only; omega) _ | refine Ext.trans ?_ (by assumption))))) | (go_at_call 94; exact HD.out _ (by (repeat' (first | exact Ext.refl _ | assumption | apply Ext.alloc | apply Ext.drew | refine Ext.set ?_ (by dsimp only; omega) _ | refine Ext.trans ?_ (by assumption)))))) | (go_invoke; go_simp; apply gives_call; first | (go_at_call 111; exact HI.out _ (by (repeat' (first | exact Ext.refl _ | assumption | apply Ext.alloc | apply Ext.drew | refine Ext.set ?_ (by dsimp only; omega) _ | refine Ext.trans ?_ (by assumption))))) | (go_at_call 94; exact HD.out _ (by (repeat' (first | exact Ext.refl _ | assumption | apply Ext.alloc | apply Ext.drew | refine Ext.set ?_ (by dsimp only; omega) _ | refine Ext.trans ?_ (by assumption)))))))); simp only [Act.put, List.setIfInBounds_toArray, List.set_cons_zero, List.set_cons_succ]) | (refine bl_split rfl rfl (fun hx => ?_) (fun hx => ?_) <;> simp only [hx]))
      all_goals refine bl_nil ?_
      all_goals intro w2 h2
      all_goals go_wp2_with fail
      all_goals go_ret
      all_goals refine ⟨?_, by (repeat' (first | exact Ext.refl _ | assumption | apply Ext.alloc | apply Ext.drew | refine Ext.set ?_ (by dsimp only; omega) _ | refine Ext.trans ?_ (by assumption)))⟩
      all_goals (clear hs; simp_all)

set_option maxRecDepth 4000 in
set_option maxHeartbeats 1000000 in
theorem refAgrees_c (A1 : Option Addr) (n1 c1 : Nat) (home : Int) (A2 : Option Addr) (n2 c2 : Nat) (A3 : Option Addr) (n3 c3 : Nat) (s : Sky) (kind st cat tick dx dy er lo hi px py : Int) (w : World) (hs : IsSky w A1 n1 home A2 n2 A3 n3 s) :
    Calls Try.prog 22 #[.agg #[.slice A1 n1 c1, .int .i64 home, .slice A2 n2 c2, .slice A3 n3 c3], .agg #[.int .i64 kind, .int .i64 st, .int .i64 cat, .int .i64 tick, .int .i64 dx, .int .i64 dy, .int .i64 er, .int .i64 lo, .int .i64 hi], .agg #[.int .i64 px, .int .i64 py]] w fun e w' =>
      e = .returned (.bool (agreesAll s ⟨kind, st, cat, tick, dx, dy, er, lo, hi⟩ px py)) ∧ Ext w w' := by
  unfold agreesAll
  have HC := Lib.hid fun W (hW : Ext w W) => refCheckSight_c A1 n1 c1 home A2 n2 c2 A3 n3 c3 s kind st cat tick dx dy er lo hi W (hs.ext hW)
  have HN := Lib.hid fun W => Near_c px py W
  by_cases hok : sightErr2 s ⟨kind, st, cat, tick, dx, dy, er, lo, hi⟩ = 0
  · have hv := sight_ok hok
    rw [hok] at HC ⊢
    cases hn : near ⟨px, py⟩ 33554432
    · rw [hn] at HN
      clear hok hv hn
      go_enter Try.func22, Try.ntmps22
      go_wp2_with fail
      refine (HC.out _ (by (repeat' (first | exact Ext.refl _ | assumption | apply Ext.alloc | apply Ext.drew | refine Ext.set ?_ (by dsimp only; omega) _ | refine Ext.trans ?_ (by assumption))))).mono ?_
      rintro e w1 ⟨rfl, h1⟩; obtain ⟨hc_w1, hf_w1, hz_w1⟩ := bcell h1; (repeat (first | rw [World.size_alloc] at hz_w1 | rw [World.size_drew] at hz_w1 | rw [World.size_setCell] at hz_w1)); have : w.heap.size < w1.heap.size := (by omega); have : w.heap.size + 1 < w1.heap.size := (by omega); have : w.heap.size + 2 < w1.heap.size := (by omega)
      go_wp2_with fail
      refine (HN.out _).mono ?_
      rintro e w2 ⟨rfl, h2⟩; obtain ⟨hc_w2, hf_w2, hz_w2⟩ := bcell h2; (repeat (first | rw [World.size_alloc] at hz_w2 | rw [World.size_drew] at hz_w2 | rw [World.size_setCell] at hz_w2)); have : w.heap.size < w2.heap.size := (by omega); have : w.heap.size + 1 < w2.heap.size := (by omega); have : w.heap.size + 2 < w2.heap.size := (by omega)
      go_wp2_with fail
      go_ret
      exact ⟨ret_b (by simp), by (repeat' (first | exact Ext.refl _ | assumption | apply Ext.alloc | apply Ext.drew | refine Ext.set ?_ (by dsimp only; omega) _ | refine Ext.trans ?_ (by assumption)))⟩
    · have HA := Lib.hid fun W (hW : Ext w W) => refagrees_c A1 n1 c1 home A2 n2 c2 A3 n3 c3 s kind st cat tick dx dy er lo hi px py W (hs.ext hW) hv hn
      rw [hn] at HN
      generalize agreesM s ⟨kind, st, cat, tick, dx, dy, er, lo, hi⟩ px py = G at *
      clear hok hv hn
      go_enter Try.func22, Try.ntmps22
      go_wp2_with fail
      refine (HC.out _ (by (repeat' (first | exact Ext.refl _ | assumption | apply Ext.alloc | apply Ext.drew | refine Ext.set ?_ (by dsimp only; omega) _ | refine Ext.trans ?_ (by assumption))))).mono ?_
      rintro e w1 ⟨rfl, h1⟩; obtain ⟨hc_w1, hf_w1, hz_w1⟩ := bcell h1; (repeat (first | rw [World.size_alloc] at hz_w1 | rw [World.size_drew] at hz_w1 | rw [World.size_setCell] at hz_w1)); have : w.heap.size < w1.heap.size := (by omega); have : w.heap.size + 1 < w1.heap.size := (by omega); have : w.heap.size + 2 < w1.heap.size := (by omega)
      go_wp2_with fail
      refine (HN.out _).mono ?_
      rintro e w2 ⟨rfl, h2⟩; obtain ⟨hc_w2, hf_w2, hz_w2⟩ := bcell h2; (repeat (first | rw [World.size_alloc] at hz_w2 | rw [World.size_drew] at hz_w2 | rw [World.size_setCell] at hz_w2)); have : w.heap.size < w2.heap.size := (by omega); have : w.heap.size + 1 < w2.heap.size := (by omega); have : w.heap.size + 2 < w2.heap.size := (by omega)
      go_wp2_with fail
      refine (HA.out _ (by (repeat' (first | exact Ext.refl _ | assumption | apply Ext.alloc | apply Ext.drew | refine Ext.set ?_ (by dsimp only; omega) _ | refine Ext.trans ?_ (by assumption))))).mono ?_
      rintro e w3 ⟨rfl, h3⟩; obtain ⟨hc_w3, hf_w3, hz_w3⟩ := bcell h3; (repeat (first | rw [World.size_alloc] at hz_w3 | rw [World.size_drew] at hz_w3 | rw [World.size_setCell] at hz_w3)); have : w.heap.size < w3.heap.size := (by omega); have : w.heap.size + 1 < w3.heap.size := (by omega); have : w.heap.size + 2 < w3.heap.size := (by omega)
      go_wp2_with fail
      go_ret
      exact ⟨ret_b (by simp), by (repeat' (first | exact Ext.refl _ | assumption | apply Ext.alloc | apply Ext.drew | refine Ext.set ?_ (by dsimp only; omega) _ | refine Ext.trans ?_ (by assumption)))⟩
  · have hok' : (sightErr2 s ⟨kind, st, cat, tick, dx, dy, er, lo, hi⟩ == 0) = false := by simpa using hok
    go_enter Try.func22, Try.ntmps22
    go_wp2_with fail
    refine (HC.out _ (by (repeat' (first | exact Ext.refl _ | assumption | apply Ext.alloc | apply Ext.drew | refine Ext.set ?_ (by dsimp only; omega) _ | refine Ext.trans ?_ (by assumption))))).mono ?_
    rintro e w1 ⟨rfl, h1⟩; obtain ⟨hc_w1, hf_w1, hz_w1⟩ := bcell h1; (repeat (first | rw [World.size_alloc] at hz_w1 | rw [World.size_drew] at hz_w1 | rw [World.size_setCell] at hz_w1)); have : w.heap.size < w1.heap.size := (by omega); have : w.heap.size + 1 < w1.heap.size := (by omega); have : w.heap.size + 2 < w1.heap.size := (by omega)
    go_wp2_with fail
    go_ret
    exact ⟨ret_b (by simp [hok]), by (repeat' (first | exact Ext.refl _ | assumption | apply Ext.alloc | apply Ext.drew | refine Ext.set ?_ (by dsimp only; omega) _ | refine Ext.trans ?_ (by assumption)))⟩
end Go.Proofs.Ytmgjjgmadiabfaa
