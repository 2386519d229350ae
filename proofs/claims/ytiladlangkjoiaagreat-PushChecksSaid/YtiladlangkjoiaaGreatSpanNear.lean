/- Segments near the origin: the program. No condition. -/
import Derived.Test.YtiladlangkjoiaaGreatSpanRoot
import Derived.Test.YtiladlangkjoiaaGreatSlices
import Derived.Test.YtiladlangkjoiaaGreatWideLaw
namespace Go.Proofs.YtiladlangkjoiaaGreat
open Go.RowKit

theorem spSquareV_c (x y : Int) (w : World) (hx : -536870912 ≤ x ∧ x ≤ 536870912) (hy : -536870912 ≤ y ∧ y ≤ 536870912) :
    Calls Tryz.prog 277 #[.agg #[.int .i64 x, .int .i64 y]] w fun e w' => e = .returned (.int .i64 (x * x + y * y)) ∧ Ext w w' := by
  have b1 := mul_bd2 (n := 536870912) (m := 536870912) (x := x) (y := x) (by omega) hx hx
  have b2 := mul_bd2 (n := 536870912) (m := 536870912) (x := y) (y := y) (by omega) hy hy
  obtain ⟨b1a, b1b⟩ := b1
  obtain ⟨b2a, b2b⟩ := b2
  go_enter Tryz.func277, Tryz.ntmps277
  go_wp2_with fail
  go_ret
  exact ⟨rfl, ext_by⟩
def lessHL (h1 l1 h2 l2 : Nat) : Bool := decide (h1 < h2) || (decide (h1 = h2) && decide (l1 < l2))
theorem spLess_c (h1 l1 h2 l2 : Nat) (w : World) :
    Calls Tryz.prog 280 #[.agg #[.int .u64 (h1 : Int), .int .u64 (l1 : Int)], .agg #[.int .u64 (h2 : Int), .int .u64 (l2 : Int)]] w fun e w' => e = .returned (.bool (lessHL h1 l1 h2 l2)) ∧ Ext w w' := by
  unfold lessHL
  rcases (show h1 < h2 ∨ (h1 = h2 ∧ l1 < l2) ∨ (h1 = h2 ∧ l2 ≤ l1) ∨ h2 < h1 by omega) with h | ⟨rfl, h⟩ | ⟨rfl, h⟩ | h
  all_goals go_enter Tryz.func280, Tryz.ntmps280
  all_goals go_wp2_with fail
  all_goals go_ret
  · exact ⟨ret_b (by simp [h]), ext_by⟩
  · exact ⟨ret_b (by simp [h]), ext_by⟩
  · exact ⟨ret_b (by simp [*] <;> omega), ext_by⟩
  · exact ⟨ret_b (by simp [*] <;> omega), ext_by⟩
def signHL (h l : Nat) (neg : Bool) : Int := if h = 0 ∧ l = 0 then 0 else if neg then -1 else 1
theorem signHL_eq (n : Nat) (neg : Bool) : signHL (n / 18446744073709551616) (n % 18446744073709551616) neg = signM n neg := by
  unfold signHL signM
  by_cases h : n = 0
  · rw [if_pos ((wide_zero n).2 h), if_pos h]
  · rw [if_neg (fun k => h ((wide_zero n).1 k)), if_neg h]
theorem signHL_three (h l : Nat) (neg : Bool) : -1 ≤ signHL h l neg ∧ signHL h l neg ≤ 1 := by
  unfold signHL
  split
  · omega
  · split <;> omega
theorem spSign_c (h l : Nat) (neg : Bool) (w : World) :
    Calls Tryz.prog 364 #[.agg #[.int .u64 (h : Int), .int .u64 (l : Int), .bool neg]] w fun e w' => e = .returned (.int .i64 (signHL h l neg)) ∧ Ext w w' := by
  unfold signHL
  rcases (show (h = 0 ∧ l = 0) ∨ (h = 0 ∧ l ≠ 0) ∨ h ≠ 0 by omega) with ⟨rfl, rfl⟩ | ⟨rfl, h2⟩ | h2
  · rw [if_pos (by simp)]
    go_enter Tryz.func364, Tryz.ntmps364
    go_wp2_with fail
    go_ret
    exact ⟨rfl, ext_by⟩
  all_goals
    rw [if_neg (by omega)]
    cases neg
    all_goals
      go_enter Tryz.func364, Tryz.ntmps364
      go_wp2_with fail
      go_ret
      exact ⟨rfl, ext_by⟩
def cmpG (a b : Int) (E L : Bool) : Int := if a ≠ b then min (max (a - b) (-1)) 1 else if E then 0 else if L then -a else a
set_option maxRecDepth 20000 in
set_option maxHeartbeats 2000000 in
theorem spCompare_c (h1 l1 : Nat) (s : Bool) (h2 l2 : Nat) (t : Bool) (w : World) :
    Calls Tryz.prog 357 #[.agg #[.int .u64 (h1 : Int), .int .u64 (l1 : Int), .bool s], .agg #[.int .u64 (h2 : Int), .int .u64 (l2 : Int), .bool t]] w fun e w' => e = .returned (.int .i64 (cmpG (signHL h1 l1 s) (signHL h2 l2 t) (decide (h1 = h2) && decide (l1 = l2)) (lessHL h1 l1 h2 l2))) ∧ Ext w w' := by
  have HS := Lib.hid fun h l s W => spSign_c h l s W
  have HL := Lib.hid fun W => spLess_c h1 l1 h2 l2 W
  have ha := signHL_three h1 l1 s
  have hb := signHL_three h2 l2 t
  obtain ⟨R, hR⟩ : ∃ R, cmpG (signHL h1 l1 s) (signHL h2 l2 t) (decide (h1 = h2) && decide (l1 = l2)) (lessHL h1 l1 h2 l2) = R := ⟨_, rfl⟩
  rw [hR]
  have HR := Lib.hid hR
  clear hR
  generalize lessHL h1 l1 h2 l2 = L at *
  go_enter Tryz.func357, Tryz.ntmps357
  go_wp2_with fail
  refine wp_region_text (by kernel_rfl) (by kernel_rfl) ?_
  (repeat' (first | (refine bl_off (by rfl) ?_; simp only [putX]) | (apply bl_op; rfl; (intro w1 h1; obtain ⟨hc, hf, hz⟩ := bcell h1; go_simp; (try go_bits); (first | exact ⟨rfl, Ext.refl _⟩ | (apply gives_call; first | (go_at_call 364; exact HS.out _ _ _ _)) | (go_invoke; go_simp; apply gives_call; first | (go_at_call 364; exact HS.out _ _ _ _)))); simp only [putX]) | (refine bl_split rfl rfl (fun hx => ?_) (fun hx => ?_) <;> simp only [hx])))
  refine bl_nil ?_
  intro w1 h1'
  obtain ⟨hc_w1, hf_w1, hz_w1⟩ := bcell h1'; (try simp only [szA] at hz_w1); (try have := wz0 w w1); (try have := wz1 w w1); (try have := wz2 w w1); (try have := wz3 w w1); (try have := wz4 w w1)
  generalize signHL h1 l1 s = a at *
  generalize signHL h2 l2 t = b at *
  clear HS
  by_cases hab : a = b
  · subst hab
    rcases (show (h1 = h2 ∧ l1 = l2) ∨ (h1 = h2 ∧ l1 ≠ l2) ∨ h1 ≠ h2 by omega) with ⟨rfl, rfl⟩ | ⟨rfl, hh⟩ | hh
    · go_wp2_with fail
      go_ret
      exact ⟨ret_i (by rw [← HR.out]; simp [cmpG]), ext_by⟩
    all_goals cases L
    all_goals go_wp2_with fail
    all_goals refine (HL.out _).mono ?_
    all_goals rintro e w2 ⟨rfl, h2'⟩
    all_goals obtain ⟨hc_w2, hf_w2, hz_w2⟩ := bcell h2'; (try simp only [szA] at hz_w2); (try have := wz0 w w2); (try have := wz1 w w2); (try have := wz2 w w2); (try have := wz3 w w2); (try have := wz4 w w2)
    all_goals go_wp2_with fail
    all_goals go_ret
    all_goals exact ⟨ret_i (by rw [← HR.out]; simp [cmpG, hh]), ext_by⟩
  · go_wp2
    all_goals go_ret
    all_goals exact ⟨ret_i (by rw [← HR.out, cmpG, if_pos hab] <;> omega), ext_by⟩
theorem cmpG_eq (n m : Nat) (s t : Bool) : cmpG (signHL (n / 18446744073709551616) (n % 18446744073709551616) s) (signHL (m / 18446744073709551616) (m % 18446744073709551616) t) (decide (n / 18446744073709551616 = m / 18446744073709551616) && decide (n % 18446744073709551616 = m % 18446744073709551616)) (lessHL (n / 18446744073709551616) (n % 18446744073709551616) (m / 18446744073709551616) (m % 18446744073709551616)) = cmpM n m (signM n s) (signM m t) := by
  rw [signHL_eq, signHL_eq, ← Bool.decide_and]
  unfold cmpG cmpM lessHL
  rw [wide_less]
  by_cases h : n = m
  · rw [decide_eq_true ((wide_eq n m).2 h)]
    simp only [if_true, if_pos h]
  · rw [decide_eq_false (fun k => h ((wide_eq n m).1 k))]
    simp only [Bool.false_eq_true, if_false, if_neg h, decide_eq_true_eq]
set_option maxRecDepth 20000 in
set_option maxHeartbeats 4000000 in
theorem spCross_c (ax ay bx by' : Int) (w : World) (h : isI64 ax ∧ isI64 ay ∧ isI64 bx ∧ isI64 by') :
    Calls Tryz.prog 347 #[.agg #[.int .i64 ax, .int .i64 ay], .agg #[.int .i64 bx, .int .i64 by']] w fun e w' => e = .returned (.int .i64 (sgn (ax * by' - ay * bx))) ∧ Ext w w' := by
  have HP := Lib.hid fun a b W (ha : isI64 a) (hb : isI64 b) => spProduct_c a b W ha hb
  have HC := Lib.hid fun h1 l1 s h2 l2 t W => spCompare_c h1 l1 s h2 l2 t W
  have hr := cmp_mul ax by' ay bx
  rw [← sign_mul ax by', ← sign_mul ay bx, ← cmpG_eq] at hr
  rw [← hr]
  obtain ⟨k1, k2, k3, k4⟩ := h
  clear hr
  go_enter Tryz.func347, Tryz.ntmps347
  go_wp2_with fail
  refine wp_region_text (by kernel_rfl) (by kernel_rfl) ?_
  (repeat' (first | (refine bl_off (by rfl) ?_; simp only [putX]) | (apply bl_op; rfl; (intro w1 h1; obtain ⟨hc, hf, hz⟩ := bcell h1; go_simp; (try go_bits); (first | exact ⟨rfl, Ext.refl _⟩ | (apply gives_call; first | (go_at_call 236; exact HP.out _ _ _ (by assumption) (by assumption)) | (go_at_call 357; exact HC.out _ _ _ _ _ _ _)) | (go_invoke; go_simp; apply gives_call; first | (go_at_call 236; exact HP.out _ _ _ (by assumption) (by assumption)) | (go_at_call 357; exact HC.out _ _ _ _ _ _ _)))); simp only [putX]) | (refine bl_split rfl rfl (fun hx => ?_) (fun hx => ?_) <;> simp only [hx])))
  refine bl_nil ?_
  intro w1 h1
  obtain ⟨hc_w1, hf_w1, hz_w1⟩ := bcell h1; (try simp only [szA] at hz_w1); (try have := wz0 w w1); (try have := wz1 w w1); (try have := wz2 w w1); (try have := wz3 w w1); (try have := wz4 w w1)
  go_wp2_with fail
  (try simp only [Exit.inBlock, Exit.then]); apply bodyPost_ret; (focus (simp only [results, Tryz.results347]; go_simp; try rfl)); rfl
  exact ⟨rfl, ext_by⟩
set_option maxRecDepth 20000 in
set_option maxHeartbeats 4000000 in
theorem spComes_c (px py qx qy r : Int) (w : World) (h1 : -268435456 ≤ px ∧ px ≤ 268435456) (h2 : -268435456 ≤ py ∧ py ≤ 268435456) (h3 : -268435456 ≤ qx ∧ qx ≤ 268435456) (h4 : -268435456 ≤ qy ∧ qy ≤ 268435456) (hr : 0 ≤ r ∧ r ≤ 268435456) :
    Calls Tryz.prog 228 #[.agg #[.int .i64 px, .int .i64 py], .agg #[.int .i64 qx, .int .i64 qy], .int .i64 r] w fun e w' => e = .returned (.bool (comesB ⟨px, py⟩ ⟨qx, qy⟩ r)) ∧ Ext w w' := by
  obtain ⟨R, hR⟩ : ∃ R, comesB ⟨px, py⟩ ⟨qx, qy⟩ r = R := ⟨_, rfl⟩
  rw [hR]
  unfold comesB alongM longM sqP crossP at hR
  dsimp only at hR
  have a1 := mul_bd2 (n := 268435456) (m := 536870912) (x := px) (y := qx - px) (by omega) h1 (by omega)
  have a2 := mul_bd2 (n := 268435456) (m := 536870912) (x := py) (y := qy - py) (by omega) h2 (by omega)
  have a3 := mul_bd2 (n := 268435456) (m := 268435456) (x := px) (y := qy) (by omega) h1 h4
  have a4 := mul_bd2 (n := 268435456) (m := 268435456) (x := py) (y := qx) (by omega) h2 h3
  have a5 := mul_bd2 (n := 268435456) (m := 268435456) (x := r) (y := r) (by omega) (by omega) (by omega)
  have a6 := mul_bd2 (n := 536870912) (m := 536870912) (x := qx - px) (y := qx - px) (by omega) (by omega) (by omega)
  have a7 := mul_bd2 (n := 536870912) (m := 536870912) (x := qy - py) (y := qy - py) (by omega) (by omega) (by omega)
  have n1 := sq_nonneg r
  have n2 := sq_nonneg (qx - px)
  have n3 := sq_nonneg (qy - py)
  have HQ := Lib.hid fun x y W hx hy => spSquareV_c x y W hx hy
  have HD := HQ.out (qx - px) (qy - py)
  have HP := HQ.out px py
  have HQ' := HQ.out qx qy
  obtain ⟨x1, e1⟩ : ∃ k, px * (qx - px) = k := ⟨_, rfl⟩
  obtain ⟨x2, e2⟩ : ∃ k, py * (qy - py) = k := ⟨_, rfl⟩
  obtain ⟨x3, e3⟩ : ∃ k, px * qy = k := ⟨_, rfl⟩
  obtain ⟨x4, e4⟩ : ∃ k, py * qx = k := ⟨_, rfl⟩
  obtain ⟨L, e6⟩ : ∃ L : Nat, (qx - px) * (qx - px) + (qy - py) * (qy - py) = (L : Int) := Int.eq_ofNat_of_zero_le (by omega)
  obtain ⟨Q, e5⟩ : ∃ Q : Nat, r * r = (Q : Int) := Int.eq_ofNat_of_zero_le n1
  obtain ⟨sp, f1⟩ : ∃ k, px * px + py * py = k := ⟨_, rfl⟩
  obtain ⟨sq, f2⟩ : ∃ k, qx * qx + qy * qy = k := ⟨_, rfl⟩
  have bL : L ≤ 576460752303423488 := by omega
  have bQ : Q ≤ 72057594037927936 := by omega
  rw [e1] at a1
  rw [e2] at a2
  rw [e3] at a3
  rw [e4] at a4
  rw [e1, e2, e3, e4, e5, e6, f1, f2] at hR
  rw [e6] at HD
  rw [f1] at HP
  rw [f2] at HQ'
  have HD' := Lib.hid fun W => HD W (by omega) (by omega)
  have HP'' := Lib.hid fun W => HP W (by omega) (by omega)
  have HQ'' := Lib.hid fun W => HQ' W (by omega) (by omega)
  have HS := Lib.hid fun W => spSize_c (x3 - x4) W ⟨by omega, by omega⟩
  obtain ⟨c, hc⟩ : ∃ c : Nat, (x3 - x4).natAbs = c := ⟨_, rfl⟩
  have hcc : (x3 - x4) * (x3 - x4) = ((c * c : Nat) : Int) := by
    rw [← hc, ← Int.natAbs_mul_self]
  have hc' : c < 18446744073709551616 := by omega
  rw [hc] at HS
  have HT := Lib.hid fun (x y : Nat) (hx : x < 18446744073709551616) (hy : y < 18446744073709551616) W => spTimes_c x y hx hy W
  have HL := Lib.hid fun a b c d W => spLess_c a b c d W
  have bL' : L < 18446744073709551616 := by omega
  have bQ' : Q < 18446744073709551616 := by omega
  rw [hcc] at hR
  have HR := Lib.hid hR
  clear a5 a6 a7 n1 n2 n3 HQ HD HP HQ' hR f1 f2 hc hcc
  clear e6
  by_cases k1 : -(x1 + x2) ≤ 0
  · have hR2 : decide (sp ≤ (Q : Int)) = R := by have := HR.out; rwa [if_pos k1] at this
    go_enter Tryz.func228, Tryz.ntmps228
    go_wp2_with fail
    refine wp_region_text (by kernel_rfl) (by kernel_rfl) ?_
    (repeat' (first | (refine bl_off (by rfl) ?_; simp only [putX]) | (apply bl_op; rfl; (intro w1 h1; obtain ⟨hc, hf, hz⟩ := bcell h1; go_simp; (try go_bits); (first | exact ⟨rfl, Ext.refl _⟩ | (apply gives_call; first | (go_at_call 277; exact HD'.out _)) | (go_invoke; go_simp; apply gives_call; first | (go_at_call 277; exact HD'.out _)))); simp only [putX]) | (refine bl_split rfl rfl (fun hx => ?_) (fun hx => ?_) <;> simp only [hx])))
    refine bl_nil ?_
    intro w1 h1
    obtain ⟨hc_w1, hf_w1, hz_w1⟩ := bcell h1; (try simp only [szA] at hz_w1); (try have := wz0 w w1); (try have := wz1 w w1); (try have := wz2 w w1); (try have := wz3 w w1); (try have := wz4 w w1)
    go_wp2_with fail
    refine (HP''.out _).mono ?_
    rintro e w2 ⟨rfl, h2'⟩
    obtain ⟨hc_w2, hf_w2, hz_w2⟩ := bcell h2'; (try simp only [szA] at hz_w2); (try have := wz0 w w2); (try have := wz1 w w2); (try have := wz2 w w2); (try have := wz3 w w2); (try have := wz4 w w2)
    go_wp2_with fail
    go_ret
    exact ⟨ret_b (by rw [← hR2]), ext_by⟩
  · by_cases k2 : (L : Int) ≤ -(x1 + x2)
    · have hR2 : decide (sq ≤ (Q : Int)) = R := by have := HR.out; rwa [if_neg k1, if_pos k2] at this
      have k1' : 0 < -(x1 + x2) := by omega
      go_enter Tryz.func228, Tryz.ntmps228
      go_wp2_with fail
      refine wp_region_text (by kernel_rfl) (by kernel_rfl) ?_
      (repeat' (first | (refine bl_off (by rfl) ?_; simp only [putX]) | (apply bl_op; rfl; (intro w1 h1; obtain ⟨hc, hf, hz⟩ := bcell h1; go_simp; (try go_bits); (first | exact ⟨rfl, Ext.refl _⟩ | (apply gives_call; first | (go_at_call 277; exact HD'.out _)) | (go_invoke; go_simp; apply gives_call; first | (go_at_call 277; exact HD'.out _)))); simp only [putX]) | (refine bl_split rfl rfl (fun hx => ?_) (fun hx => ?_) <;> simp only [hx])))
      refine bl_nil ?_
      intro w1 h1
      obtain ⟨hc_w1, hf_w1, hz_w1⟩ := bcell h1; (try simp only [szA] at hz_w1); (try have := wz0 w w1); (try have := wz1 w w1); (try have := wz2 w w1); (try have := wz3 w w1); (try have := wz4 w w1)
      go_wp2_with fail
      refine (HQ''.out _).mono ?_
      rintro e w2 ⟨rfl, h2'⟩
      obtain ⟨hc_w2, hf_w2, hz_w2⟩ := bcell h2'; (try simp only [szA] at hz_w2); (try have := wz0 w w2); (try have := wz1 w w2); (try have := wz2 w w2); (try have := wz3 w w2); (try have := wz4 w w2)
      go_wp2_with fail
      go_ret
      exact ⟨ret_b (by rw [← hR2]), ext_by⟩
    · have hR2 : decide (((c * c : Nat) : Int) ≤ (Q : Int) * (L : Int)) = R := by have := HR.out; rwa [if_neg k1, if_neg k2] at this
      have HR2 : Hid ((!lessHL (Q * L / 18446744073709551616) (Q * L % 18446744073709551616) (c * c / 18446744073709551616) (c * c % 18446744073709551616)) = R) := by
        unfold lessHL
        show _ = R
        rw [wide_less, ← hR2]
        by_cases hh : Q * L < c * c
        · rw [decide_eq_true hh, decide_eq_false (by rw [← Int.natCast_mul]; omega)]; rfl
        · rw [decide_eq_false hh, decide_eq_true (by rw [← Int.natCast_mul]; omega)]; rfl
      have k1' : 0 < -(x1 + x2) := by omega
      have k2' : -(x1 + x2) < (L : Int) := by omega
      clear hR2
      go_enter Tryz.func228, Tryz.ntmps228
      go_wp2_with fail
      refine wp_region_text (by kernel_rfl) (by kernel_rfl) ?_
      (repeat' (first | (refine bl_off (by rfl) ?_; simp only [putX]) | (apply bl_op; rfl; (intro w1 h1; obtain ⟨hc, hf, hz⟩ := bcell h1; go_simp; (try go_bits); (first | exact ⟨rfl, Ext.refl _⟩ | (apply gives_call; first | (go_at_call 277; exact HD'.out _)) | (go_invoke; go_simp; apply gives_call; first | (go_at_call 277; exact HD'.out _)))); simp only [putX]) | (refine bl_split rfl rfl (fun hx => ?_) (fun hx => ?_) <;> simp only [hx])))
      refine bl_nil ?_
      intro w1 h1
      obtain ⟨hc_w1, hf_w1, hz_w1⟩ := bcell h1; (try simp only [szA] at hz_w1); (try have := wz0 w w1); (try have := wz1 w w1); (try have := wz2 w w1); (try have := wz3 w w1); (try have := wz4 w w1)
      go_wp2_with fail
      refine (HS.out _).mono ?_
      rintro e w2 ⟨rfl, h2'⟩
      obtain ⟨hc_w2, hf_w2, hz_w2⟩ := bcell h2'; (try simp only [szA] at hz_w2); (try have := wz0 w w2); (try have := wz1 w w2); (try have := wz2 w w2); (try have := wz3 w w2); (try have := wz4 w w2)
      go_wp2_with fail
      refine (HT.out Q L bQ' bL' _).mono ?_
      rintro e w3 ⟨rfl, h3'⟩
      obtain ⟨hc_w3, hf_w3, hz_w3⟩ := bcell h3'; (try simp only [szA] at hz_w3); (try have := wz0 w w3); (try have := wz1 w w3); (try have := wz2 w w3); (try have := wz3 w w3); (try have := wz4 w w3)
      go_wp2_with fail
      refine (HT.out c c hc' hc' _).mono ?_
      rintro e w4 ⟨rfl, h4'⟩
      obtain ⟨hc_w4, hf_w4, hz_w4⟩ := bcell h4'; (try simp only [szA] at hz_w4); (try have := wz0 w w4); (try have := wz1 w w4); (try have := wz2 w w4); (try have := wz3 w w4); (try have := wz4 w w4)
      go_wp2_with fail
      refine (HL.out _ _ _ _ _).mono ?_
      rintro e w5 ⟨rfl, h5'⟩
      obtain ⟨hc_w5, hf_w5, hz_w5⟩ := bcell h5'; (try simp only [szA] at hz_w5); (try have := wz0 w w5); (try have := wz1 w w5); (try have := wz2 w w5); (try have := wz3 w w5); (try have := wz4 w w5)
      go_wp2_with fail
      go_ret
      exact ⟨ret_b (by rw [← HR2.out]), ext_by⟩
end Go.Proofs.YtiladlangkjoiaaGreat
