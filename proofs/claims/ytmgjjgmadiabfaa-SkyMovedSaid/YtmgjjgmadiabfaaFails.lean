/- Whether a guess misses a sight: the program and the reference. No condition. -/
import Derived.Test.YtmgjjgmadiabfaaGuess
namespace Go.Proofs.Ytmgjjgmadiabfaa
open Go.RowKit

set_option maxRecDepth 4000 in
set_option maxHeartbeats 2000000 in
theorem fails_c (A1 : Option Addr) (n1 c1 : Nat) (home : Int) (A2 : Option Addr) (n2 c2 : Nat) (A3 : Option Addr) (n3 c3 : Nat) (s : Sky) (kind st cat tick dx dy er lo hi : Int) (gx gy gu gv : Int) (t0 : Int) (w : World) (hs : IsSky w A1 n1 home A2 n2 A3 n3 s) (hok : sightErr2 s ⟨kind, st, cat, tick, dx, dy, er, lo, hi⟩ = 0) (hg : gOK ⟨gx, gy, gu, gv⟩ = true) (ht : within t0 0 1073741824 = true) :
    Calls Try.prog 98 #[.agg #[.int .i64 gx, .int .i64 gy, .int .i64 gu, .int .i64 gv, .int .i64 t0], .agg #[.slice A1 n1 c1, .int .i64 home, .slice A2 n2 c2, .slice A3 n3 c3], .agg #[.int .i64 kind, .int .i64 st, .int .i64 cat, .int .i64 tick, .int .i64 dx, .int .i64 dy, .int .i64 er, .int .i64 lo, .int .i64 hi]] w fun e w' => e = .returned (.bool (!fitsM s ⟨kind, st, cat, tick, dx, dy, er, lo, hi⟩ ⟨gx, gy, gu, gv⟩ t0)) ∧ Ext w w' := by
  unfold fitsM
  have hv := sight_ok hok
  have hb := gb_of hg ht hv.tick
  have HG := Lib.hid fun W => goes_c gx gy gu gv t0 tick W hb
  have HL := Lib.hid fun W (hW : Ext w W) => lookOf_c A1 n1 c1 home A2 n2 c2 A3 n3 c3 s kind st cat tick dx dy er lo hi W (hs.ext hW) hv
  dsimp only
  clear hb hg ht hok
  generalize goes ⟨gx, gy, gu, gv⟩ t0 tick = p at *
  obtain ⟨px, py⟩ := p
  dsimp only at *
  have HN := Lib.hid fun W => near_c px py 33554432 W (by omega) (by omega)
  cases hn : near ⟨px, py⟩ 33554432
  · rw [hn] at HN
    clear hv hn HL hs
    go_enter Try.func98, Try.ntmps98
    go_wp2_with fail
    refine (HG.out _).mono ?_
    rintro e w1 ⟨rfl, h1⟩; obtain ⟨hc_w1, hf_w1, hz_w1⟩ := bcell h1; (repeat (first | rw [World.size_alloc] at hz_w1 | rw [World.size_drew] at hz_w1 | rw [World.size_setCell] at hz_w1)); have : w.heap.size < w1.heap.size := (by omega); have : w.heap.size + 1 < w1.heap.size := (by omega); have : w.heap.size + 2 < w1.heap.size := (by omega)
    go_wp2_with fail
    refine wp_region_text (by kernel_rfl) (by kernel_rfl) ?_
    repeat' (first | (refine bl_off (by rfl) ?_; simp only [Act.put, List.setIfInBounds_toArray, List.set_cons_zero, List.set_cons_succ]) | (apply bl_op; rfl; (intro w1 h1; obtain ⟨hc, hf, hz⟩ := bcell h1; go_simp; (try go_bits); (first | exact ⟨rfl, Ext.refl _⟩ | (apply gives_call; first | (go_at_call 60; exact HN.out _)) | (go_invoke; go_simp; apply gives_call; first | (go_at_call 60; exact HN.out _)))); simp only [Act.put, List.setIfInBounds_toArray, List.set_cons_zero, List.set_cons_succ]) | (refine bl_split rfl rfl (fun hx => ?_) (fun hx => ?_) <;> simp only [hx]))
    all_goals refine bl_nil ?_
    all_goals intro w2 h2
    all_goals go_wp2_with fail
    all_goals go_ret
    all_goals refine ⟨?_, by (repeat' (first | exact Ext.refl _ | assumption | apply Ext.alloc | apply Ext.drew | refine Ext.set ?_ (by dsimp only; omega) _ | refine Ext.trans ?_ (by assumption)))⟩
    all_goals simp
  · rw [hn] at HN
    rw [Bool.true_and]
    unfold agreesM
    dsimp only
    by_cases hk2 : kind = 2
    · have hd := hv.diff hn
      have hr := hv.reach hk2
      have HA := Lib.hid fun W => reachAgrees_c (orig s ⟨kind, st, cat, tick, dx, dy, er, lo, hi⟩).x (orig s ⟨kind, st, cat, tick, dx, dy, er, lo, hi⟩).y lo hi px py W hd.1 hd.2 (by dsimp only at hr; omega) (by dsimp only at hr; omega)
      rw [lookV, if_pos hk2] at HL
      rw [if_pos hk2]
      dsimp only at HL
      generalize orig s ⟨kind, st, cat, tick, dx, dy, er, lo, hi⟩ = o at *
      clear hv hd hr hk2 hn
      go_enter Try.func98, Try.ntmps98
      go_wp2_with fail
      refine (HG.out _).mono ?_
      rintro e w1 ⟨rfl, h1⟩; obtain ⟨hc_w1, hf_w1, hz_w1⟩ := bcell h1; (repeat (first | rw [World.size_alloc] at hz_w1 | rw [World.size_drew] at hz_w1 | rw [World.size_setCell] at hz_w1)); have : w.heap.size < w1.heap.size := (by omega); have : w.heap.size + 1 < w1.heap.size := (by omega); have : w.heap.size + 2 < w1.heap.size := (by omega)
      go_wp2_with fail
      refine wp_region_text (by kernel_rfl) (by kernel_rfl) ?_
      repeat' (first | (refine bl_off (by rfl) ?_; simp only [Act.put, List.setIfInBounds_toArray, List.set_cons_zero, List.set_cons_succ]) | (apply bl_op; rfl; (intro w1 h1; obtain ⟨hc, hf, hz⟩ := bcell h1; go_simp; (try go_bits); (first | exact ⟨rfl, Ext.refl _⟩ | (apply gives_call; first | (go_at_call 60; exact HN.out _) | (go_at_call 62; exact HL.out _ (by (repeat' (first | exact Ext.refl _ | assumption | apply Ext.alloc | apply Ext.drew | refine Ext.set ?_ (by dsimp only; omega) _ | refine Ext.trans ?_ (by assumption))))) | (go_at_call 142; exact HA.out _)) | (go_invoke; go_simp; apply gives_call; first | (go_at_call 60; exact HN.out _) | (go_at_call 62; exact HL.out _ (by (repeat' (first | exact Ext.refl _ | assumption | apply Ext.alloc | apply Ext.drew | refine Ext.set ?_ (by dsimp only; omega) _ | refine Ext.trans ?_ (by assumption))))) | (go_at_call 142; exact HA.out _)))); simp only [Act.put, List.setIfInBounds_toArray, List.set_cons_zero, List.set_cons_succ]) | (refine bl_split rfl rfl (fun hx => ?_) (fun hx => ?_) <;> simp only [hx]))
      all_goals refine bl_nil ?_
      all_goals intro w2 h2
      all_goals go_wp2_with fail
      all_goals go_ret
      all_goals refine ⟨?_, by (repeat' (first | exact Ext.refl _ | assumption | apply Ext.alloc | apply Ext.drew | refine Ext.set ?_ (by dsimp only; omega) _ | refine Ext.trans ?_ (by assumption)))⟩
      all_goals (first | (simp; done) | (simp_all; done))
    · have hcb := hv.cb hk2 hn
      have hb := hv.bias_bd hk2
      have hf := hv.far
      rw [lookV, if_neg hk2] at HL
      rw [if_neg hk2]
      by_cases hk1 : kind = 1
      · have HA := Lib.hid fun W => angleAgrees_c (orig s ⟨kind, st, cat, tick, dx, dy, er, lo, hi⟩).x (orig s ⟨kind, st, cat, tick, dx, dy, er, lo, hi⟩).y dx dy (biasLo s ⟨kind, st, cat, tick, dx, dy, er, lo, hi⟩) (biasHi s ⟨kind, st, cat, tick, dx, dy, er, lo, hi⟩) px py W hcb hb.1 hb.2
        rw [if_pos hk1] at HL
        rw [if_pos hk1]
        dsimp only at HL
        generalize orig s ⟨kind, st, cat, tick, dx, dy, er, lo, hi⟩ = o at *
        generalize biasLo s ⟨kind, st, cat, tick, dx, dy, er, lo, hi⟩ = bl at *
        generalize biasHi s ⟨kind, st, cat, tick, dx, dy, er, lo, hi⟩ = bh at *
        clear hv hcb hb hn hk2 hk1 hf
        go_enter Try.func98, Try.ntmps98
        go_wp2_with fail
        refine (HG.out _).mono ?_
        rintro e w1 ⟨rfl, h1⟩; obtain ⟨hc_w1, hf_w1, hz_w1⟩ := bcell h1; (repeat (first | rw [World.size_alloc] at hz_w1 | rw [World.size_drew] at hz_w1 | rw [World.size_setCell] at hz_w1)); have : w.heap.size < w1.heap.size := (by omega); have : w.heap.size + 1 < w1.heap.size := (by omega); have : w.heap.size + 2 < w1.heap.size := (by omega)
        go_wp2_with fail
        refine wp_region_text (by kernel_rfl) (by kernel_rfl) ?_
        repeat' (first | (refine bl_off (by rfl) ?_; simp only [Act.put, List.setIfInBounds_toArray, List.set_cons_zero, List.set_cons_succ]) | (apply bl_op; rfl; (intro w1 h1; obtain ⟨hc, hf, hz⟩ := bcell h1; go_simp; (try go_bits); (first | exact ⟨rfl, Ext.refl _⟩ | (apply gives_call; first | (go_at_call 60; exact HN.out _) | (go_at_call 62; exact HL.out _ (by (repeat' (first | exact Ext.refl _ | assumption | apply Ext.alloc | apply Ext.drew | refine Ext.set ?_ (by dsimp only; omega) _ | refine Ext.trans ?_ (by assumption))))) | (go_at_call 141; exact HA.out _)) | (go_invoke; go_simp; apply gives_call; first | (go_at_call 60; exact HN.out _) | (go_at_call 62; exact HL.out _ (by (repeat' (first | exact Ext.refl _ | assumption | apply Ext.alloc | apply Ext.drew | refine Ext.set ?_ (by dsimp only; omega) _ | refine Ext.trans ?_ (by assumption))))) | (go_at_call 141; exact HA.out _)))); simp only [Act.put, List.setIfInBounds_toArray, List.set_cons_zero, List.set_cons_succ]) | (refine bl_split rfl rfl (fun hx => ?_) (fun hx => ?_) <;> simp only [hx]))
        all_goals refine bl_nil ?_
        all_goals intro w2 h2
        all_goals go_wp2_with fail
        all_goals go_ret
        all_goals refine ⟨?_, by (repeat' (first | exact Ext.refl _ | assumption | apply Ext.alloc | apply Ext.drew | refine Ext.set ?_ (by dsimp only; omega) _ | refine Ext.trans ?_ (by assumption)))⟩
        all_goals (first | (simp; done) | (simp_all; done))
      · have hk3 : kind = 3 := by have := hv.kind; dsimp only at this; omega
        have HA := Lib.hid fun W => emptyAgrees_c (orig s ⟨kind, st, cat, tick, dx, dy, er, lo, hi⟩).x (orig s ⟨kind, st, cat, tick, dx, dy, er, lo, hi⟩).y dx dy (biasLo s ⟨kind, st, cat, tick, dx, dy, er, lo, hi⟩) (biasHi s ⟨kind, st, cat, tick, dx, dy, er, lo, hi⟩) hi px py W hcb hb.1 hb.2 (by have := hf hk3; dsimp only at this; omega)
        rw [if_neg hk1] at HL
        rw [if_neg hk1]
        clear hk3
        dsimp only at HL
        generalize orig s ⟨kind, st, cat, tick, dx, dy, er, lo, hi⟩ = o at *
        generalize biasLo s ⟨kind, st, cat, tick, dx, dy, er, lo, hi⟩ = bl at *
        generalize biasHi s ⟨kind, st, cat, tick, dx, dy, er, lo, hi⟩ = bh at *
        clear hv hcb hb hn hk2 hk1 hf
        go_enter Try.func98, Try.ntmps98
        go_wp2_with fail
        refine (HG.out _).mono ?_
        rintro e w1 ⟨rfl, h1⟩; obtain ⟨hc_w1, hf_w1, hz_w1⟩ := bcell h1; (repeat (first | rw [World.size_alloc] at hz_w1 | rw [World.size_drew] at hz_w1 | rw [World.size_setCell] at hz_w1)); have : w.heap.size < w1.heap.size := (by omega); have : w.heap.size + 1 < w1.heap.size := (by omega); have : w.heap.size + 2 < w1.heap.size := (by omega)
        go_wp2_with fail
        refine wp_region_text (by kernel_rfl) (by kernel_rfl) ?_
        repeat' (first | (refine bl_off (by rfl) ?_; simp only [Act.put, List.setIfInBounds_toArray, List.set_cons_zero, List.set_cons_succ]) | (apply bl_op; rfl; (intro w1 h1; obtain ⟨hc, hf, hz⟩ := bcell h1; go_simp; (try go_bits); (first | exact ⟨rfl, Ext.refl _⟩ | (apply gives_call; first | (go_at_call 60; exact HN.out _) | (go_at_call 62; exact HL.out _ (by (repeat' (first | exact Ext.refl _ | assumption | apply Ext.alloc | apply Ext.drew | refine Ext.set ?_ (by dsimp only; omega) _ | refine Ext.trans ?_ (by assumption))))) | (go_at_call 143; exact HA.out _)) | (go_invoke; go_simp; apply gives_call; first | (go_at_call 60; exact HN.out _) | (go_at_call 62; exact HL.out _ (by (repeat' (first | exact Ext.refl _ | assumption | apply Ext.alloc | apply Ext.drew | refine Ext.set ?_ (by dsimp only; omega) _ | refine Ext.trans ?_ (by assumption))))) | (go_at_call 143; exact HA.out _)))); simp only [Act.put, List.setIfInBounds_toArray, List.set_cons_zero, List.set_cons_succ]) | (refine bl_split rfl rfl (fun hx => ?_) (fun hx => ?_) <;> simp only [hx]))
        all_goals refine bl_nil ?_
        all_goals intro w2 h2
        all_goals go_wp2_with fail
        all_goals go_ret
        all_goals refine ⟨?_, by (repeat' (first | exact Ext.refl _ | assumption | apply Ext.alloc | apply Ext.drew | refine Ext.set ?_ (by dsimp only; omega) _ | refine Ext.trans ?_ (by assumption)))⟩
        all_goals (first | (simp; done) | (simp_all; done))

set_option maxRecDepth 4000 in
set_option maxHeartbeats 1000000 in
theorem fits_c (A1 : Option Addr) (n1 c1 : Nat) (home : Int) (A2 : Option Addr) (n2 c2 : Nat) (A3 : Option Addr) (n3 c3 : Nat) (s : Sky) (kind st cat tick dx dy er lo hi : Int) (gx gy gu gv : Int) (t0 : Int) (w : World) (hs : IsSky w A1 n1 home A2 n2 A3 n3 s) (hok : sightErr2 s ⟨kind, st, cat, tick, dx, dy, er, lo, hi⟩ = 0) (hg : gOK ⟨gx, gy, gu, gv⟩ = true) (ht : within t0 0 1073741824 = true) :
    Calls Try.prog 102 #[.agg #[.slice A1 n1 c1, .int .i64 home, .slice A2 n2 c2, .slice A3 n3 c3], .agg #[.int .i64 kind, .int .i64 st, .int .i64 cat, .int .i64 tick, .int .i64 dx, .int .i64 dy, .int .i64 er, .int .i64 lo, .int .i64 hi], .agg #[.int .i64 gx, .int .i64 gy, .int .i64 gu, .int .i64 gv], .int .i64 t0] w fun e w' => e = .returned (.bool (fitsM s ⟨kind, st, cat, tick, dx, dy, er, lo, hi⟩ ⟨gx, gy, gu, gv⟩ t0)) ∧ Ext w w' := by
  have hv := sight_ok hok
  have hb := gb_of hg ht hv.tick
  unfold fitsM
  obtain ⟨⟨h1, h2⟩, ⟨h3, h4⟩, ⟨h5, h6⟩, ⟨h7, h8⟩, h9, h10⟩ := hb
  dsimp only at *
  have HN := Lib.hid fun W => Near_c (gx + gu * (tick - t0)) (gy + gv * (tick - t0)) W
  have hgo : goes ⟨gx, gy, gu, gv⟩ t0 tick = ⟨gx + gu * (tick - t0), gy + gv * (tick - t0)⟩ := rfl
  rw [hgo]
  dsimp only
  clear hgo hg ht hok
  cases hn : near ⟨gx + gu * (tick - t0), gy + gv * (tick - t0)⟩ 33554432
  · rw [hn] at HN
    clear hn hv
    go_enter Try.func102, Try.ntmps102
    go_wp2_with fail
    refine (HN.out _).mono ?_
    rintro e w1 ⟨rfl, h1⟩; obtain ⟨hc_w1, hf_w1, hz_w1⟩ := bcell h1; (repeat (first | rw [World.size_alloc] at hz_w1 | rw [World.size_drew] at hz_w1 | rw [World.size_setCell] at hz_w1)); have : w.heap.size < w1.heap.size := (by omega); have : w.heap.size + 1 < w1.heap.size := (by omega); have : w.heap.size + 2 < w1.heap.size := (by omega); have : w.heap.size + 3 < w1.heap.size := (by omega)
    go_wp2_with fail
    go_ret
    exact ⟨ret_b (by simp), by (repeat' (first | exact Ext.refl _ | assumption | apply Ext.alloc | apply Ext.drew | refine Ext.set ?_ (by dsimp only; omega) _ | refine Ext.trans ?_ (by assumption)))⟩
  · have HA := Lib.hid fun W (hW : Ext w W) => refagrees_c A1 n1 c1 home A2 n2 c2 A3 n3 c3 s kind st cat tick dx dy er lo hi _ _ W (hs.ext hW) hv hn
    rw [hn] at HN
    generalize agreesM s ⟨kind, st, cat, tick, dx, dy, er, lo, hi⟩ (gx + gu * (tick - t0)) (gy + gv * (tick - t0)) = G at *
    clear hn hv
    go_enter Try.func102, Try.ntmps102
    go_wp2_with fail
    refine (HN.out _).mono ?_
    rintro e w1 ⟨rfl, h1⟩; obtain ⟨hc_w1, hf_w1, hz_w1⟩ := bcell h1; (repeat (first | rw [World.size_alloc] at hz_w1 | rw [World.size_drew] at hz_w1 | rw [World.size_setCell] at hz_w1)); have : w.heap.size < w1.heap.size := (by omega); have : w.heap.size + 1 < w1.heap.size := (by omega); have : w.heap.size + 2 < w1.heap.size := (by omega); have : w.heap.size + 3 < w1.heap.size := (by omega)
    go_wp2_with fail
    refine (HA.out _ (by (repeat' (first | exact Ext.refl _ | assumption | apply Ext.alloc | apply Ext.drew | refine Ext.set ?_ (by dsimp only; omega) _ | refine Ext.trans ?_ (by assumption))))).mono ?_
    rintro e w2 ⟨rfl, h2⟩; obtain ⟨hc_w2, hf_w2, hz_w2⟩ := bcell h2; (repeat (first | rw [World.size_alloc] at hz_w2 | rw [World.size_drew] at hz_w2 | rw [World.size_setCell] at hz_w2)); have : w.heap.size < w2.heap.size := (by omega); have : w.heap.size + 1 < w2.heap.size := (by omega); have : w.heap.size + 2 < w2.heap.size := (by omega); have : w.heap.size + 3 < w2.heap.size := (by omega)
    go_wp2_with fail
    go_ret
    exact ⟨ret_b (by simp), by (repeat' (first | exact Ext.refl _ | assumption | apply Ext.alloc | apply Ext.drew | refine Ext.set ?_ (by dsimp only; omega) _ | refine Ext.trans ?_ (by assumption)))⟩
end Go.Proofs.Ytmgjjgmadiabfaa
