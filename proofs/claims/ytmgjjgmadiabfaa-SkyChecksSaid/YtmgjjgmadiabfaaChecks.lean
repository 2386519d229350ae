/- The law SkyChecks: for every input it returns true. No condition. -/
import Derived.Test.YtmgjjgmadiabfaaSame
namespace Go.Proofs.Ytmgjjgmadiabfaa
open Go.RowKit

set_option maxRecDepth 4000 in
set_option maxHeartbeats 4000000 in
theorem SkyChecks_c (A1 : Option Addr) (n1 c1 : Nat) (home : Int) (A2 : Option Addr) (n2 c2 : Nat) (A3 : Option Addr) (n3 c3 : Nat) (s : Sky) (body st tick : Int) (w : World) (hs : IsSky w A1 n1 home A2 n2 A3 n3 s) :
    Calls Try.prog 5 #[.agg #[.slice A1 n1 c1, .int .i64 home, .slice A2 n2 c2, .slice A3 n3 c3], .int .i64 body, .int .i64 st, .int .i64 tick] w fun e w' => e = .returned (.bool true) ∧ Ext w w' := by
  have HB := Lib.hid fun W (hW : Ext w W) => BigSky_c A1 n1 c1 home A2 n2 c2 A3 n3 c3 s W (hs.ext hW)
  cases hb : bigSky s
  · rw [hb] at HB
    have HO := Lib.hid fun W (hW : Ext w W) => OwnSky_c A1 n1 c1 home A2 n2 c2 A3 n3 c3 s W (hs.ext hW) hb
    clear hb
    go_enter Try.func5, Try.ntmps5
    go_wp2_with fail
    refine (HB.out _ (by (repeat' (first | exact Ext.refl _ | assumption | apply Ext.alloc | apply Ext.drew | refine Ext.set ?_ (by dsimp only; omega) _ | refine Ext.trans ?_ (by assumption))))).mono ?_
    rintro e w1 ⟨rfl, h1⟩; obtain ⟨hc_w1, hf_w1, hz_w1⟩ := bcell h1; (repeat (first | rw [World.size_alloc] at hz_w1 | rw [World.size_drew] at hz_w1 | rw [World.size_setCell] at hz_w1)); have : w.heap.size < w1.heap.size := (by omega)
    go_wp2_with fail
    refine (HO.out _ (by (repeat' (first | exact Ext.refl _ | assumption | apply Ext.alloc | apply Ext.drew | refine Ext.set ?_ (by dsimp only; omega) _ | refine Ext.trans ?_ (by assumption))))).mono ?_
    rintro e w2 ⟨v1, v2, v3, bs, rfl, hO, h2⟩
    obtain ⟨hc2, hf2, hz2⟩ := bcell h2
    have : w.heap.size < w2.heap.size := by omega
    obtain ⟨B1, d1, B2, d2, B3, d3, rfl, rfl, rfl, ht⟩ := hO.sky
    have e2 : Ext w w2 := by (repeat' (first | exact Ext.refl _ | assumption | apply Ext.alloc | apply Ext.drew | refine Ext.set ?_ (by dsimp only; omega) _ | refine Ext.trans ?_ (by assumption)))
    have HWa := Lib.hid fun W (hW : Ext w2 W) => Where_c B1 _ d1 s.world.home B2 _ d2 B3 _ d3 s st tick W (ht.ext hW)
    have HWb := Lib.hid fun W (hW : Ext w2 W) => refWhere_c A1 n1 c1 home A2 n2 c2 A3 n3 c3 s st tick W (hs.ext (e2.trans hW))
    have HCa := Lib.hid fun W (hW : Ext w2 W) => CheckWorld_c B1 _ d1 s.world.home s.world.bodies W (ht.ext hW).bodies
    have HCb := Lib.hid fun W (hW : Ext w2 W) => refWorld_c A1 n1 c1 home s.world.bodies W (hs.ext (e2.trans hW)).bodies
    have HDa := Lib.hid fun W (hW : Ext w2 W) => Check_c B1 _ d1 s.world.home B2 _ d2 B3 _ d3 s W (ht.ext hW)
    have HDb := Lib.hid fun W (hW : Ext w2 W) => refCheck_c A1 n1 c1 home A2 n2 c2 A3 n3 c3 s W (hs.ext (e2.trans hW))
    have HAa := Lib.hid fun W (hW : Ext w2 W) => At_c B1 _ d1 s.world.home body tick s.world.bodies W (ht.ext hW).bodies
    have HAb := Lib.hid fun W (hW : Ext w2 W) => refAt_c A1 n1 c1 home body tick s.world.bodies W (hs.ext (e2.trans hW)).bodies
    obtain rfl := hs.home
    have HS := Lib.hid fun W (hW : Ext w2 W) => SameSky_c B1 _ d1 s.world.home B2 _ d2 B3 _ d3 s A1 n1 c1 A2 n2 c2 A3 n3 c3 W (ht.ext hW) (hs.ext (e2.trans hW))
    clear HB HO hO hs ht
    generalize optV (whereM s st tick) = p at *
    generalize (whereM s st tick).isSome = q at *
    generalize wldErr ⟨s.world.bodies, s.world.home⟩ = M1 at *
    generalize skyErr s = M2 at *
    generalize atM s.world.bodies s.world.home body tick = r at *
    go_wp2_with fail
    refine (HWa.out _ (by (repeat' (first | exact Ext.refl _ | assumption | apply Ext.alloc | apply Ext.drew | refine Ext.set ?_ (by dsimp only; omega) _ | refine Ext.trans ?_ (by assumption))))).mono ?_
    rintro e w3 ⟨rfl, h3⟩; obtain ⟨hc_w3, hf_w3, hz_w3⟩ := bcell h3; (repeat (first | rw [World.size_alloc] at hz_w3 | rw [World.size_drew] at hz_w3 | rw [World.size_setCell] at hz_w3))
    have : w.heap.size < w3.heap.size := by omega
    have : w2.heap.size < w3.heap.size := by omega
    go_wp2_with fail
    refine (HWb.out _ (by (repeat' (first | exact Ext.refl _ | assumption | apply Ext.alloc | apply Ext.drew | refine Ext.set ?_ (by dsimp only; omega) _ | refine Ext.trans ?_ (by assumption))))).mono ?_
    rintro e w4 ⟨rfl, h4⟩; obtain ⟨hc_w4, hf_w4, hz_w4⟩ := bcell h4; (repeat (first | rw [World.size_alloc] at hz_w4 | rw [World.size_drew] at hz_w4 | rw [World.size_setCell] at hz_w4))
    have : w.heap.size < w4.heap.size := by omega
    have : w2.heap.size < w4.heap.size := by omega
    have : w3.heap.size < w4.heap.size := by omega
    go_wp2_with fail
    refine wp_region_text (by kernel_rfl) (by kernel_rfl) ?_
    repeat' (first | (refine bl_off (by rfl) ?_; simp only [Act.put, List.setIfInBounds_toArray, List.set_cons_zero, List.set_cons_succ]) | (apply bl_op; rfl; (intro w1 h1; obtain ⟨hc, hf, hz⟩ := bcell h1; go_simp; (try go_bits); (first | exact ⟨rfl, Ext.refl _⟩ | (apply gives_call; first | (go_at_call 28; exact HCa.out _ (by (repeat' (first | exact Ext.refl _ | assumption | apply Ext.alloc | apply Ext.drew | refine Ext.set ?_ (by dsimp only; omega) _ | refine Ext.trans ?_ (by assumption))))) | (go_at_call 29; exact HCb.out _ (by (repeat' (first | exact Ext.refl _ | assumption | apply Ext.alloc | apply Ext.drew | refine Ext.set ?_ (by dsimp only; omega) _ | refine Ext.trans ?_ (by assumption))))) | (go_at_call 30; exact HDa.out _ (by (repeat' (first | exact Ext.refl _ | assumption | apply Ext.alloc | apply Ext.drew | refine Ext.set ?_ (by dsimp only; omega) _ | refine Ext.trans ?_ (by assumption))))) | (go_at_call 31; exact HDb.out _ (by (repeat' (first | exact Ext.refl _ | assumption | apply Ext.alloc | apply Ext.drew | refine Ext.set ?_ (by dsimp only; omega) _ | refine Ext.trans ?_ (by assumption))))) | (go_at_call 32; exact HAa.out _ (by (repeat' (first | exact Ext.refl _ | assumption | apply Ext.alloc | apply Ext.drew | refine Ext.set ?_ (by dsimp only; omega) _ | refine Ext.trans ?_ (by assumption))))) | (go_at_call 33; exact HAb.out _ (by (repeat' (first | exact Ext.refl _ | assumption | apply Ext.alloc | apply Ext.drew | refine Ext.set ?_ (by dsimp only; omega) _ | refine Ext.trans ?_ (by assumption))))) | (go_at_call 34; exact HS.out _ (by (repeat' (first | exact Ext.refl _ | assumption | apply Ext.alloc | apply Ext.drew | refine Ext.set ?_ (by dsimp only; omega) _ | refine Ext.trans ?_ (by assumption))))) | (go_at_call 18; exact awake_c _)) | (go_invoke; go_simp; apply gives_call; first | (go_at_call 28; exact HCa.out _ (by (repeat' (first | exact Ext.refl _ | assumption | apply Ext.alloc | apply Ext.drew | refine Ext.set ?_ (by dsimp only; omega) _ | refine Ext.trans ?_ (by assumption))))) | (go_at_call 29; exact HCb.out _ (by (repeat' (first | exact Ext.refl _ | assumption | apply Ext.alloc | apply Ext.drew | refine Ext.set ?_ (by dsimp only; omega) _ | refine Ext.trans ?_ (by assumption))))) | (go_at_call 30; exact HDa.out _ (by (repeat' (first | exact Ext.refl _ | assumption | apply Ext.alloc | apply Ext.drew | refine Ext.set ?_ (by dsimp only; omega) _ | refine Ext.trans ?_ (by assumption))))) | (go_at_call 31; exact HDb.out _ (by (repeat' (first | exact Ext.refl _ | assumption | apply Ext.alloc | apply Ext.drew | refine Ext.set ?_ (by dsimp only; omega) _ | refine Ext.trans ?_ (by assumption))))) | (go_at_call 32; exact HAa.out _ (by (repeat' (first | exact Ext.refl _ | assumption | apply Ext.alloc | apply Ext.drew | refine Ext.set ?_ (by dsimp only; omega) _ | refine Ext.trans ?_ (by assumption))))) | (go_at_call 33; exact HAb.out _ (by (repeat' (first | exact Ext.refl _ | assumption | apply Ext.alloc | apply Ext.drew | refine Ext.set ?_ (by dsimp only; omega) _ | refine Ext.trans ?_ (by assumption))))) | (go_at_call 34; exact HS.out _ (by (repeat' (first | exact Ext.refl _ | assumption | apply Ext.alloc | apply Ext.drew | refine Ext.set ?_ (by dsimp only; omega) _ | refine Ext.trans ?_ (by assumption))))) | (go_at_call 18; exact awake_c _)))); simp only [Act.put, List.setIfInBounds_toArray, List.set_cons_zero, List.set_cons_succ]) | (refine bl_split rfl rfl (fun hx => ?_) (fun hx => ?_) <;> simp only [hx]))
    all_goals refine bl_nil ?_
    all_goals intro w5 h5
    all_goals go_wp2_with fail
    all_goals go_ret
    all_goals exact ⟨rfl, by (repeat' (first | exact Ext.refl _ | assumption | apply Ext.alloc | apply Ext.drew | refine Ext.set ?_ (by dsimp only; omega) _ | refine Ext.trans ?_ (by assumption)))⟩
  · rw [hb] at HB
    clear hb
    go_enter Try.func5, Try.ntmps5
    go_wp2_with fail
    refine (HB.out _ (by (repeat' (first | exact Ext.refl _ | assumption | apply Ext.alloc | apply Ext.drew | refine Ext.set ?_ (by dsimp only; omega) _ | refine Ext.trans ?_ (by assumption))))).mono ?_
    rintro e w1 ⟨rfl, h1⟩; obtain ⟨hc_w1, hf_w1, hz_w1⟩ := bcell h1; (repeat (first | rw [World.size_alloc] at hz_w1 | rw [World.size_drew] at hz_w1 | rw [World.size_setCell] at hz_w1)); have : w.heap.size < w1.heap.size := (by omega)
    go_wp2_with fail
    refine (awake_c _).mono ?_
    rintro e w2 ⟨rfl, h2⟩; obtain ⟨hc_w2, hf_w2, hz_w2⟩ := bcell h2; (repeat (first | rw [World.size_alloc] at hz_w2 | rw [World.size_drew] at hz_w2 | rw [World.size_setCell] at hz_w2))
    go_wp2_with fail
    go_ret
    exact ⟨rfl, by (repeat' (first | exact Ext.refl _ | assumption | apply Ext.alloc | apply Ext.drew | refine Ext.set ?_ (by dsimp only; omega) _ | refine Ext.trans ?_ (by assumption)))⟩
end Go.Proofs.Ytmgjjgmadiabfaa
