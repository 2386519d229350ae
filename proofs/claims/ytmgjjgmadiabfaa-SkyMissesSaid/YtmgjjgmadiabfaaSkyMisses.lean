/- The law SkyMisses: for every input it returns true. No condition. -/
import Derived.Test.YtmgjjgmadiabfaaBig
namespace Go.Proofs.Ytmgjjgmadiabfaa
open Go.RowKit

set_option maxRecDepth 4000 in
set_option maxHeartbeats 2000000 in
theorem SkyMisses_c (A1 : Option Addr) (n1 c1 : Nat) (home : Int) (A2 : Option Addr) (n2 c2 : Nat) (A3 : Option Addr) (n3 c3 : Nat) (s : Sky) (A : Option Addr) (n c : Nat) (l : List Sight) (gx gy gu gv : Int) (t0 : Int) (w : World) (hs : IsSky w A1 n1 home A2 n2 A3 n3 s) (hl : Sights w A n l) :
    Calls Try.prog 6 #[.agg #[.slice A1 n1 c1, .int .i64 home, .slice A2 n2 c2, .slice A3 n3 c3], .slice A n c, .agg #[.int .i64 gx, .int .i64 gy, .int .i64 gu, .int .i64 gv], .int .i64 t0] w fun e w' => e = .returned (.bool true) ∧ Ext w w' := by
  have HT := Lib.hid fun W (hW : Ext w W) => CheckTracklet_c A1 n1 c1 home A2 n2 c2 A3 n3 c3 s A n c l W (hs.ext hW) (Sights.ext hW hl)
  have HR := Lib.hid fun W (hW : Ext w W) => refCheckTracklet_c A1 n1 c1 home A2 n2 c2 A3 n3 c3 s A n c l W (hs.ext hW) (Sights.ext hW hl)
  have HM := Lib.hid fun W (hW : Ext w W) => Miss_c A1 n1 c1 home A2 n2 c2 A3 n3 c3 s gx gy gu gv t0 A n c l W (hs.ext hW) (Sights.ext hW hl)
  have HN := Lib.hid fun W (hW : Ext w W) => refMiss_c A1 n1 c1 home A2 n2 c2 A3 n3 c3 s gx gy gu gv t0 A n c l W (hs.ext hW) (Sights.ext hW hl)
  have HB := Lib.hid fun A' c' W (hW : Ext w W) h => big_c A1 n1 c1 home A2 n2 c2 A3 n3 c3 s none 0 0 A' 1 c' [l] W (hs.ext hW) (by omega) h
  have HH := Lib.hid fun W (hW : Ext w W) => Sights.ext hW hl
  have hln := hl.le
  generalize trkErr s l = T at *
  generalize missM s l ⟨gx, gy, gu, gv⟩ t0 = M at *
  generalize bigM s 0 [l] = B at *
  clear hs hl
  go_enter Try.func6, Try.ntmps6
  go_wp2_with fail
  refine (HB.out _ _ _ (by (repeat' (first | exact Ext.refl _ | assumption | apply Ext.alloc | apply Ext.drew | refine Ext.set ?_ (by dsimp only; omega) _ | refine Ext.trans ?_ (by assumption)))) ?_).mono ?_
  · refine ⟨rfl, by decide, .inr ⟨_, 0, rfl, one_ (P := fun x k => trkAt _ x _ (0 + k * 1)) ⟨A, n, c, by exact (Blk.newAt (by simp)).cell 0, HH.out _ (by (repeat' (first | exact Ext.refl _ | assumption | apply Ext.alloc | apply Ext.drew | refine Ext.set ?_ (by dsimp only; omega) _ | refine Ext.trans ?_ (by assumption))))⟩⟩⟩
  rintro e w1 ⟨rfl, h1⟩; obtain ⟨hc_w1, hf_w1, hz_w1⟩ := bcell h1; (repeat (first | rw [World.size_alloc] at hz_w1 | rw [World.size_drew] at hz_w1 | rw [World.size_setCell] at hz_w1)); have : w.heap.size < w1.heap.size := (by omega); have : w.heap.size + 1 < w1.heap.size := (by omega); have : w.heap.size + 2 < w1.heap.size := (by omega)
  cases B
  · go_wp2_with fail
    refine wp_region_text (by kernel_rfl) (by kernel_rfl) ?_
    repeat' (first | (refine bl_off (by rfl) ?_; simp only [Act.put, List.setIfInBounds_toArray, List.set_cons_zero, List.set_cons_succ]) | (apply bl_op; rfl; (intro w1 h1; obtain ⟨hc, hf, hz⟩ := bcell h1; go_simp; (try go_bits); (first | exact ⟨rfl, Ext.refl _⟩ | (apply gives_call; first | (go_at_call 36; exact HT.out _ (by (repeat' (first | exact Ext.refl _ | assumption | apply Ext.alloc | apply Ext.drew | refine Ext.set ?_ (by dsimp only; omega) _ | refine Ext.trans ?_ (by assumption))))) | (go_at_call 37; exact HR.out _ (by (repeat' (first | exact Ext.refl _ | assumption | apply Ext.alloc | apply Ext.drew | refine Ext.set ?_ (by dsimp only; omega) _ | refine Ext.trans ?_ (by assumption))))) | (go_at_call 38; exact HM.out _ (by (repeat' (first | exact Ext.refl _ | assumption | apply Ext.alloc | apply Ext.drew | refine Ext.set ?_ (by dsimp only; omega) _ | refine Ext.trans ?_ (by assumption))))) | (go_at_call 39; exact HN.out _ (by (repeat' (first | exact Ext.refl _ | assumption | apply Ext.alloc | apply Ext.drew | refine Ext.set ?_ (by dsimp only; omega) _ | refine Ext.trans ?_ (by assumption))))) | (go_at_call 18; exact awake_c _)) | (go_invoke; go_simp; apply gives_call; first | (go_at_call 36; exact HT.out _ (by (repeat' (first | exact Ext.refl _ | assumption | apply Ext.alloc | apply Ext.drew | refine Ext.set ?_ (by dsimp only; omega) _ | refine Ext.trans ?_ (by assumption))))) | (go_at_call 37; exact HR.out _ (by (repeat' (first | exact Ext.refl _ | assumption | apply Ext.alloc | apply Ext.drew | refine Ext.set ?_ (by dsimp only; omega) _ | refine Ext.trans ?_ (by assumption))))) | (go_at_call 38; exact HM.out _ (by (repeat' (first | exact Ext.refl _ | assumption | apply Ext.alloc | apply Ext.drew | refine Ext.set ?_ (by dsimp only; omega) _ | refine Ext.trans ?_ (by assumption))))) | (go_at_call 39; exact HN.out _ (by (repeat' (first | exact Ext.refl _ | assumption | apply Ext.alloc | apply Ext.drew | refine Ext.set ?_ (by dsimp only; omega) _ | refine Ext.trans ?_ (by assumption))))) | (go_at_call 18; exact awake_c _)))); simp only [Act.put, List.setIfInBounds_toArray, List.set_cons_zero, List.set_cons_succ]) | (refine bl_split rfl rfl (fun hx => ?_) (fun hx => ?_) <;> simp only [hx]))
    all_goals refine bl_nil ?_
    all_goals intro w2 h2
    all_goals go_wp2_with fail
    all_goals go_ret
    all_goals exact ⟨rfl, by (repeat' (first | exact Ext.refl _ | assumption | apply Ext.alloc | apply Ext.drew | refine Ext.set ?_ (by dsimp only; omega) _ | refine Ext.trans ?_ (by assumption)))⟩
  · go_wp2_with fail
    refine (awake_c _).mono ?_
    rintro e w2 ⟨rfl, h2⟩; obtain ⟨hc_w2, hf_w2, hz_w2⟩ := bcell h2; (repeat (first | rw [World.size_alloc] at hz_w2 | rw [World.size_drew] at hz_w2 | rw [World.size_setCell] at hz_w2))
    go_wp2_with fail
    go_ret
    exact ⟨rfl, by (repeat' (first | exact Ext.refl _ | assumption | apply Ext.alloc | apply Ext.drew | refine Ext.set ?_ (by dsimp only; omega) _ | refine Ext.trans ?_ (by assumption)))⟩
end Go.Proofs.Ytmgjjgmadiabfaa
