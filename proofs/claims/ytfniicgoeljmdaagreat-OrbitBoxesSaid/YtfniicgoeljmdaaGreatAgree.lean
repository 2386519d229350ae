/- Whether a place agrees with a sight: the program. -/
import Derived.Test.YtfniicgoeljmdaaGreatLook
namespace Go.Proofs.YtfniicgoeljmdaaGreat
open Go.RowKit

theorem toExt {P : Program} {f : FuncId} {args : Array Value} {w : World} {v : Value} (h : Calls P f args w fun e w' => e = .returned v ∧ w = w') : Calls P f args w fun e w' => e = .returned v ∧ Ext w w' :=
  h.mono fun _ _ ⟨he, hw⟩ => ⟨he, hw ▸ Ext.refl _⟩

/-- Does a place within the limits agree with a valid sight? -/
def agreesM (s : Sky) (x : Sight) (px py : Int) : Bool :=
  if x.kind = 2 then within (distD px py (orig s x).x (orig s x).y) (x.lo * x.lo) (x.hi * x.hi)
  else if x.kind = 1 then inB (orig s x).x (orig s x).y x.dx x.dy (biasLo s x) (biasHi s x) px py
  else !inB (orig s x).x (orig s x).y x.dx x.dy (biasLo s x) (biasHi s x) px py || decide (x.hi * x.hi < distD px py (orig s x).x (orig s x).y)
def agreesAll (s : Sky) (x : Sight) (px py : Int) : Bool := decide (sightErr2 s x = 0) && near ⟨px, py⟩ 33554432 && agreesM s x px py

theorem SightOK.cb {s : Sky} {x : Sight} (h : SightOK s x) (hk : x.kind ≠ 2) {px py : Int} (hp : near ⟨px, py⟩ 33554432 = true) : CB (orig s x).x (orig s x).y x.dx x.dy px py := by
  have h1 := h.orig_bd
  obtain ⟨h2, h3, _, _⟩ := h.dir hk
  have h4 := (near_iff _ _).1 hp
  exact ⟨h1.1, h1.2, h2, h3, h4.1, h4.2⟩
theorem SightOK.diff {s : Sky} {x : Sight} (h : SightOK s x) {px py : Int} (hp : near ⟨px, py⟩ 33554432 = true) :
    (-68157440 ≤ px - (orig s x).x ∧ px - (orig s x).x ≤ 68157440) ∧ (-68157440 ≤ py - (orig s x).y ∧ py - (orig s x).y ≤ 68157440) := by
  have h1 := h.orig_bd
  have h4 := (near_iff _ _).1 hp
  dsimp only at h4
  omega

set_option maxRecDepth 4000 in
set_option maxHeartbeats 2000000 in
theorem Agrees_c (A1 : Option Addr) (n1 c1 : Nat) (home : Int) (A2 : Option Addr) (n2 c2 : Nat) (A3 : Option Addr) (n3 c3 : Nat) (s : Sky) (kind st cat tick dx dy er lo hi px py : Int) (w : World) (hs : IsSky w A1 n1 home A2 n2 A3 n3 s) :
    Calls Tryz.prog 64 #[.agg #[.slice A1 n1 c1, .int .i64 home, .slice A2 n2 c2, .slice A3 n3 c3], .agg #[.int .i64 kind, .int .i64 st, .int .i64 cat, .int .i64 tick, .int .i64 dx, .int .i64 dy, .int .i64 er, .int .i64 lo, .int .i64 hi], .agg #[.int .i64 px, .int .i64 py]] w fun e w' =>
      e = .returned (.bool (agreesAll s ⟨kind, st, cat, tick, dx, dy, er, lo, hi⟩ px py)) ∧ Ext w w' := by
  unfold agreesAll agreesM
  dsimp only
  have HC := Lib.hid fun W (hW : Ext w W) => CheckSight_c A1 n1 c1 home A2 n2 c2 A3 n3 c3 s kind st cat tick dx dy er lo hi W (hs.ext hW)
  have HL := Lib.hid fun W (hW : Ext w W) => lookOf_c A1 n1 c1 home A2 n2 c2 A3 n3 c3 s kind st cat tick dx dy er lo hi W (hs.ext hW)
  have HN := Lib.hid fun W => near_c px py 33554432 W (by omega) (by omega)
  by_cases hok : sightErr2 s ⟨kind, st, cat, tick, dx, dy, er, lo, hi⟩ = 0
  · have hv := sight_ok hok
    cases hn : near ⟨px, py⟩ 33554432
    · rw [hok] at HC
      rw [hn] at HN
      have Hok := Lib.hid hok
      clear hok hv hn HL
      go_enter Tryz.func64, Tryz.ntmps64
      go_wp2_with fail
      refine wp_region_text (by kernel_rfl) (by kernel_rfl) ?_
      repeat' (first | (refine bl_off (by rfl) ?_; simp only [Act.put, List.setIfInBounds_toArray, List.set_cons_zero, List.set_cons_succ]) | (apply bl_op; rfl; (intro w1 h1; obtain ⟨hc, hf, hz⟩ := bcell h1; go_simp; (try go_bits); (first | exact ⟨rfl, Ext.refl _⟩ | (apply gives_call; first | (go_at_call 117; exact HC.out _ (by (repeat' (first | exact Ext.refl _ | assumption | apply Ext.alloc | apply Ext.drew | refine Ext.set ?_ (by dsimp only; omega) _ | refine Ext.trans ?_ (by assumption))))) | (go_at_call 118; exact HN.out _)) | (go_invoke; go_simp; apply gives_call; first | (go_at_call 117; exact HC.out _ (by (repeat' (first | exact Ext.refl _ | assumption | apply Ext.alloc | apply Ext.drew | refine Ext.set ?_ (by dsimp only; omega) _ | refine Ext.trans ?_ (by assumption))))) | (go_at_call 118; exact HN.out _)))); simp only [Act.put, List.setIfInBounds_toArray, List.set_cons_zero, List.set_cons_succ]) | (refine bl_split rfl rfl (fun hx => ?_) (fun hx => ?_) <;> simp only [hx]))
      all_goals refine bl_nil ?_
      all_goals intro w2 h2
      all_goals go_wp2_with fail
      all_goals go_ret
      all_goals refine ⟨?_, by (repeat' (first | exact Ext.refl _ | assumption | apply Ext.alloc | apply Ext.drew | refine Ext.set ?_ (by dsimp only; omega) _ | refine Ext.trans ?_ (by assumption)))⟩
      all_goals simp_all
    · rw [hok] at HC
      rw [hn] at HN
      have HLv := Lib.hid fun W hW => HL.out W hW hv
      clear HL
      by_cases hk2 : kind = 2
      · have hd := hv.diff hn
        have hr := hv.reach hk2
        have HA := Lib.hid fun W => reachAgrees_c (orig s ⟨kind, st, cat, tick, dx, dy, er, lo, hi⟩).x (orig s ⟨kind, st, cat, tick, dx, dy, er, lo, hi⟩).y lo hi px py W hd.1 hd.2 (by dsimp only at hr; omega) (by dsimp only at hr; omega)
        rw [lookV, if_pos hk2] at HLv
        rw [if_pos hk2, hok]
        dsimp only at HLv
        generalize orig s ⟨kind, st, cat, tick, dx, dy, er, lo, hi⟩ = o at *
        clear hok hv hd hr hk2 hn
        go_enter Tryz.func64, Tryz.ntmps64
        go_wp2_with fail
        refine wp_region_text (by kernel_rfl) (by kernel_rfl) ?_
        repeat' (first | (refine bl_off (by rfl) ?_; simp only [Act.put, List.setIfInBounds_toArray, List.set_cons_zero, List.set_cons_succ]) | (apply bl_op; rfl; (intro w1 h1; obtain ⟨hc, hf, hz⟩ := bcell h1; go_simp; (try go_bits); (first | exact ⟨rfl, Ext.refl _⟩ | (apply gives_call; first | (go_at_call 117; exact HC.out _ (by (repeat' (first | exact Ext.refl _ | assumption | apply Ext.alloc | apply Ext.drew | refine Ext.set ?_ (by dsimp only; omega) _ | refine Ext.trans ?_ (by assumption))))) | (go_at_call 118; exact HN.out _) | (go_at_call 119; exact HLv.out _ (by (repeat' (first | exact Ext.refl _ | assumption | apply Ext.alloc | apply Ext.drew | refine Ext.set ?_ (by dsimp only; omega) _ | refine Ext.trans ?_ (by assumption))))) | (go_at_call 297; exact HA.out _)) | (go_invoke; go_simp; apply gives_call; first | (go_at_call 117; exact HC.out _ (by (repeat' (first | exact Ext.refl _ | assumption | apply Ext.alloc | apply Ext.drew | refine Ext.set ?_ (by dsimp only; omega) _ | refine Ext.trans ?_ (by assumption))))) | (go_at_call 118; exact HN.out _) | (go_at_call 119; exact HLv.out _ (by (repeat' (first | exact Ext.refl _ | assumption | apply Ext.alloc | apply Ext.drew | refine Ext.set ?_ (by dsimp only; omega) _ | refine Ext.trans ?_ (by assumption))))) | (go_at_call 297; exact HA.out _)))); simp only [Act.put, List.setIfInBounds_toArray, List.set_cons_zero, List.set_cons_succ]) | (refine bl_split rfl rfl (fun hx => ?_) (fun hx => ?_) <;> simp only [hx]))
        all_goals refine bl_nil ?_
        all_goals intro w2 h2
        all_goals go_wp2_with fail
        all_goals go_ret
        all_goals refine ⟨?_, by (repeat' (first | exact Ext.refl _ | assumption | apply Ext.alloc | apply Ext.drew | refine Ext.set ?_ (by dsimp only; omega) _ | refine Ext.trans ?_ (by assumption)))⟩
        all_goals simp_all
      · have hcb := hv.cb hk2 hn
        have hb := hv.bias_bd hk2
        have hf := hv.far
        rw [lookV, if_neg hk2] at HLv
        rw [if_neg hk2, hok]
        by_cases hk1 : kind = 1
        · have HA := Lib.hid fun W => angleAgrees_c (orig s ⟨kind, st, cat, tick, dx, dy, er, lo, hi⟩).x (orig s ⟨kind, st, cat, tick, dx, dy, er, lo, hi⟩).y dx dy (biasLo s ⟨kind, st, cat, tick, dx, dy, er, lo, hi⟩) (biasHi s ⟨kind, st, cat, tick, dx, dy, er, lo, hi⟩) px py W hcb hb.1 hb.2
          rw [if_pos hk1] at HLv
          rw [if_pos hk1]
          dsimp only at HLv
          generalize orig s ⟨kind, st, cat, tick, dx, dy, er, lo, hi⟩ = o at *
          generalize biasLo s ⟨kind, st, cat, tick, dx, dy, er, lo, hi⟩ = bl at *
          generalize biasHi s ⟨kind, st, cat, tick, dx, dy, er, lo, hi⟩ = bh at *
          clear hok hv hcb hb hn hk2 hk1 hf
          go_enter Tryz.func64, Tryz.ntmps64
          go_wp2_with fail
          refine wp_region_text (by kernel_rfl) (by kernel_rfl) ?_
          repeat' (first | (refine bl_off (by rfl) ?_; simp only [Act.put, List.setIfInBounds_toArray, List.set_cons_zero, List.set_cons_succ]) | (apply bl_op; rfl; (intro w1 h1; obtain ⟨hc, hf, hz⟩ := bcell h1; go_simp; (try go_bits); (first | exact ⟨rfl, Ext.refl _⟩ | (apply gives_call; first | (go_at_call 117; exact HC.out _ (by (repeat' (first | exact Ext.refl _ | assumption | apply Ext.alloc | apply Ext.drew | refine Ext.set ?_ (by dsimp only; omega) _ | refine Ext.trans ?_ (by assumption))))) | (go_at_call 118; exact HN.out _) | (go_at_call 119; exact HLv.out _ (by (repeat' (first | exact Ext.refl _ | assumption | apply Ext.alloc | apply Ext.drew | refine Ext.set ?_ (by dsimp only; omega) _ | refine Ext.trans ?_ (by assumption))))) | (go_at_call 298; exact HA.out _)) | (go_invoke; go_simp; apply gives_call; first | (go_at_call 117; exact HC.out _ (by (repeat' (first | exact Ext.refl _ | assumption | apply Ext.alloc | apply Ext.drew | refine Ext.set ?_ (by dsimp only; omega) _ | refine Ext.trans ?_ (by assumption))))) | (go_at_call 118; exact HN.out _) | (go_at_call 119; exact HLv.out _ (by (repeat' (first | exact Ext.refl _ | assumption | apply Ext.alloc | apply Ext.drew | refine Ext.set ?_ (by dsimp only; omega) _ | refine Ext.trans ?_ (by assumption))))) | (go_at_call 298; exact HA.out _)))); simp only [Act.put, List.setIfInBounds_toArray, List.set_cons_zero, List.set_cons_succ]) | (refine bl_split rfl rfl (fun hx => ?_) (fun hx => ?_) <;> simp only [hx]))
          all_goals refine bl_nil ?_
          all_goals intro w2 h2
          all_goals go_wp2_with fail
          all_goals go_ret
          all_goals refine ⟨?_, by (repeat' (first | exact Ext.refl _ | assumption | apply Ext.alloc | apply Ext.drew | refine Ext.set ?_ (by dsimp only; omega) _ | refine Ext.trans ?_ (by assumption)))⟩
          all_goals simp_all
        · have hk3 : kind = 3 := by have := hv.kind; dsimp only at this; omega
          have HA := Lib.hid fun W => emptyAgrees_c (orig s ⟨kind, st, cat, tick, dx, dy, er, lo, hi⟩).x (orig s ⟨kind, st, cat, tick, dx, dy, er, lo, hi⟩).y dx dy (biasLo s ⟨kind, st, cat, tick, dx, dy, er, lo, hi⟩) (biasHi s ⟨kind, st, cat, tick, dx, dy, er, lo, hi⟩) hi px py W hcb hb.1 hb.2 (by have := hf hk3; dsimp only at this; omega)
          rw [if_neg hk1] at HLv
          rw [if_neg hk1]
          clear hk3
          dsimp only at HLv
          generalize orig s ⟨kind, st, cat, tick, dx, dy, er, lo, hi⟩ = o at *
          generalize biasLo s ⟨kind, st, cat, tick, dx, dy, er, lo, hi⟩ = bl at *
          generalize biasHi s ⟨kind, st, cat, tick, dx, dy, er, lo, hi⟩ = bh at *
          clear hok hv hcb hb hn hk2 hk1 hf
          go_enter Tryz.func64, Tryz.ntmps64
          go_wp2_with fail
          refine wp_region_text (by kernel_rfl) (by kernel_rfl) ?_
          repeat' (first | (refine bl_off (by rfl) ?_; simp only [Act.put, List.setIfInBounds_toArray, List.set_cons_zero, List.set_cons_succ]) | (apply bl_op; rfl; (intro w1 h1; obtain ⟨hc, hf, hz⟩ := bcell h1; go_simp; (try go_bits); (first | exact ⟨rfl, Ext.refl _⟩ | (apply gives_call; first | (go_at_call 117; exact HC.out _ (by (repeat' (first | exact Ext.refl _ | assumption | apply Ext.alloc | apply Ext.drew | refine Ext.set ?_ (by dsimp only; omega) _ | refine Ext.trans ?_ (by assumption))))) | (go_at_call 118; exact HN.out _) | (go_at_call 119; exact HLv.out _ (by (repeat' (first | exact Ext.refl _ | assumption | apply Ext.alloc | apply Ext.drew | refine Ext.set ?_ (by dsimp only; omega) _ | refine Ext.trans ?_ (by assumption))))) | (go_at_call 299; exact HA.out _)) | (go_invoke; go_simp; apply gives_call; first | (go_at_call 117; exact HC.out _ (by (repeat' (first | exact Ext.refl _ | assumption | apply Ext.alloc | apply Ext.drew | refine Ext.set ?_ (by dsimp only; omega) _ | refine Ext.trans ?_ (by assumption))))) | (go_at_call 118; exact HN.out _) | (go_at_call 119; exact HLv.out _ (by (repeat' (first | exact Ext.refl _ | assumption | apply Ext.alloc | apply Ext.drew | refine Ext.set ?_ (by dsimp only; omega) _ | refine Ext.trans ?_ (by assumption))))) | (go_at_call 299; exact HA.out _)))); simp only [Act.put, List.setIfInBounds_toArray, List.set_cons_zero, List.set_cons_succ]) | (refine bl_split rfl rfl (fun hx => ?_) (fun hx => ?_) <;> simp only [hx]))
          all_goals refine bl_nil ?_
          all_goals intro w2 h2
          all_goals go_wp2_with fail
          all_goals go_ret
          all_goals refine ⟨?_, by (repeat' (first | exact Ext.refl _ | assumption | apply Ext.alloc | apply Ext.drew | refine Ext.set ?_ (by dsimp only; omega) _ | refine Ext.trans ?_ (by assumption)))⟩
          all_goals simp_all
  · have hok' : (sightErr2 s ⟨kind, st, cat, tick, dx, dy, er, lo, hi⟩ == 0) = false := by simpa using hok
    go_enter Tryz.func64, Tryz.ntmps64
    go_wp2_with fail
    refine wp_region_text (by kernel_rfl) (by kernel_rfl) ?_
    repeat' (first | (refine bl_off (by rfl) ?_; simp only [Act.put, List.setIfInBounds_toArray, List.set_cons_zero, List.set_cons_succ]) | (apply bl_op; rfl; (intro w1 h1; obtain ⟨hc, hf, hz⟩ := bcell h1; go_simp; (try go_bits); (first | exact ⟨rfl, Ext.refl _⟩ | (apply gives_call; first | (go_at_call 117; exact HC.out _ (by (repeat' (first | exact Ext.refl _ | assumption | apply Ext.alloc | apply Ext.drew | refine Ext.set ?_ (by dsimp only; omega) _ | refine Ext.trans ?_ (by assumption)))))) | (go_invoke; go_simp; apply gives_call; first | (go_at_call 117; exact HC.out _ (by (repeat' (first | exact Ext.refl _ | assumption | apply Ext.alloc | apply Ext.drew | refine Ext.set ?_ (by dsimp only; omega) _ | refine Ext.trans ?_ (by assumption)))))))); simp only [Act.put, List.setIfInBounds_toArray, List.set_cons_zero, List.set_cons_succ]) | (refine bl_split rfl rfl (fun hx => ?_) (fun hx => ?_) <;> simp only [hx]))
    all_goals refine bl_nil ?_
    all_goals intro w2 h2
    all_goals go_wp2_with fail
    all_goals go_ret
    all_goals refine ⟨?_, by (repeat' (first | exact Ext.refl _ | assumption | apply Ext.alloc | apply Ext.drew | refine Ext.set ?_ (by dsimp only; omega) _ | refine Ext.trans ?_ (by assumption)))⟩
    all_goals simp_all
end Go.Proofs.YtfniicgoeljmdaaGreat
