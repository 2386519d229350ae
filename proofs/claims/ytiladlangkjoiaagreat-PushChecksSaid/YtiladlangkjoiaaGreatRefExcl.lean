/- Whether a sight excludes an area: pieces of the reference. No condition. -/
import Derived.Test.YtiladlangkjoiaaGreatExcludes3
namespace Go.Proofs.YtiladlangkjoiaaGreat
open Go.RowKit

set_option maxRecDepth 4000 in
set_option maxHeartbeats 1000000 in
theorem refCheckArea_c (xl xh yl yh : Int) (w : World) :
    Calls Tryz.prog 88 #[.agg #[.int .i64 xl, .int .i64 xh, .int .i64 yl, .int .i64 yh]] w fun e w' => e = .returned (.bool (rightA xl xh yl yh)) ∧ Ext w w' := by
  have H1 := Lib.hid fun W => Near_c xl yl W
  have H2 := Lib.hid fun W => Near_c xh yh W
  have HM : Hid (rightA xl xh yl yh = (decide (xl ≤ xh) && decide (yl ≤ yh) && near ⟨xl, yl⟩ 33554432 && near ⟨xh, yh⟩ 33554432)) := by
    show _ = _
    rw [Bool.eq_iff_iff, rightA_iff]
    simp only [Bool.and_eq_true, decide_eq_true_eq, near_iff]
    omega
  generalize rightA xl xh yl yh = R at *
  generalize near ⟨xl, yl⟩ 33554432 = n1 at *
  generalize near ⟨xh, yh⟩ 33554432 = n2 at *
  by_cases hx : xl ≤ xh
  · by_cases hy : yl ≤ yh
    · go_enter Tryz.func88, Tryz.ntmps88
      go_wp2_with fail
      refine (H1.out _).mono ?_
      rintro e w1 ⟨rfl, h1⟩; obtain ⟨hc_w1, hf_w1, hz_w1⟩ := bcell h1; (try simp only [szA] at hz_w1); have : w.heap.size < w1.heap.size := (by omega)
      cases n1
      · go_wp2_with fail
        go_ret
        exact ⟨ret_b (by rw [HM.out]; simp), ext_by⟩
      · go_wp2_with fail
        refine (H2.out _).mono ?_
        rintro e w2 ⟨rfl, h2⟩; obtain ⟨hc_w2, hf_w2, hz_w2⟩ := bcell h2; (try simp only [szA] at hz_w2); have : w.heap.size < w2.heap.size := (by omega)
        go_wp2_with fail
        go_ret
        exact ⟨ret_b (by rw [HM.out]; simp [hx, hy]), ext_by⟩
    · have hy' : yh < yl := by omega
      go_enter Tryz.func88, Tryz.ntmps88
      go_wp2_with fail
      go_ret
      exact ⟨ret_b (by rw [HM.out]; simp; intro _ h; omega), ext_by⟩
  · have hx' : xh < xl := by omega
    go_enter Tryz.func88, Tryz.ntmps88
    go_wp2_with fail
    go_ret
    exact ⟨ret_b (by rw [HM.out]; simp; intro h; omega), ext_by⟩

end Go.Proofs.YtiladlangkjoiaaGreat
