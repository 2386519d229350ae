/- Roots of spans, and which areas are valid: the program. No condition. -/
import Derived.Test.YtfniicgoeljmdaaGreatSlices
namespace Go.Proofs.YtfniicgoeljmdaaGreat
open Go.RowKit

set_option maxHeartbeats 1000000 in
theorem spRoots_c (lo hi : Int) (w : World) :
    Calls Tryz.prog 244 #[.agg #[.int .i64 lo, .int .i64 hi]] w fun e w' => e = .returned (spRV (rootsM ⟨lo, hi⟩)) ∧ Ext w w' := by
  have HV := Lib.hid fun W => spCheck_c lo hi W
  unfold rootsM
  by_cases h0 : spErr ⟨lo, hi⟩ = 0
  · obtain ⟨h1, h2, h3⟩ := spErr_ok.1 h0
    dsimp only at h1 h2 h3
    rw [if_pos h0]
    rw [h0] at HV
    dsimp only
    by_cases hn : lo < 0
    · rw [if_pos hn]
      clear h0
      go_enter Tryz.func244, Tryz.ntmps244
      go_wp2_with fail
      refine (HV.out _).mono ?_
      rintro e w1 ⟨rfl, h1⟩
      obtain ⟨hc_w1, hf_w1, hz_w1⟩ := bcell h1; (repeat (first | rw [World.size_alloc] at hz_w1 | rw [World.size_drew] at hz_w1 | rw [World.size_setCell] at hz_w1)); (try (have : w.heap.size < w1.heap.size := (by omega))); (try (have : w.heap.size + 1 < w1.heap.size := (by omega))); (try (have : w.heap.size + 1 + 1 < w1.heap.size := (by omega))); (try (have : w.heap.size + 1 + 1 + 1 < w1.heap.size := (by omega))); (try (have : w.heap.size + 1 + 1 + 1 + 1 < w1.heap.size := (by omega)))
      go_wp2_with fail
      (try simp only [Exit.inBlock, Exit.then]); apply bodyPost_ret; (focus (simp only [results, Tryz.results244]; go_simp; try rfl)); rfl
      exact ⟨rfl, by (repeat' (first | exact Ext.refl _ | assumption | apply Ext.alloc | apply Ext.drew | refine Ext.set ?_ (by dsimp only; omega) _ | refine Ext.trans ?_ (by assumption)))⟩
    · rw [if_neg hn]
      have R1 := Lib.hid fun W => spRoot_c hi W (by omega) (by omega)
      have R2 := Lib.hid fun W => spRoot_c lo W (by omega) (by omega)
      have b := rootI_mono (a := lo) (b := hi) (by omega) (by omega) (by omega)
      have e1 : (rootN hi.toNat : Int) = rootI hi := by unfold rootI; rw [if_neg (by omega)]
      have e2 : (rootN lo.toNat : Int) = rootI lo := by unfold rootI; rw [if_neg (by omega)]
      rw [e1] at R1
      rw [e2] at R2
      unfold upM at b ⊢
      generalize rootI lo = r2 at *
      generalize rootI hi = r1 at *
      obtain ⟨b1, b2, b3, b4, b5, b6⟩ := b
      have m0 : 0 ≤ r1 * r1 := Int.mul_nonneg (by omega) (by omega)
      have m1 : r1 * r1 ≤ 1152921504606846976 := by
        have := Int.mul_le_mul b6 b6 (by omega) (by omega)
        omega
      have hn' : 0 ≤ lo := by omega
      clear h0 b3 b4 b5 e1 e2 hn
      by_cases hu : r1 * r1 < hi
      · rw [if_pos hu]
        go_enter Tryz.func244, Tryz.ntmps244
        go_wp2_with fail
        refine (HV.out _).mono ?_
        rintro e w1 ⟨rfl, h1⟩
        obtain ⟨hc_w1, hf_w1, hz_w1⟩ := bcell h1; (repeat (first | rw [World.size_alloc] at hz_w1 | rw [World.size_drew] at hz_w1 | rw [World.size_setCell] at hz_w1)); (try (have : w.heap.size < w1.heap.size := (by omega))); (try (have : w.heap.size + 1 < w1.heap.size := (by omega))); (try (have : w.heap.size + 1 + 1 < w1.heap.size := (by omega))); (try (have : w.heap.size + 1 + 1 + 1 < w1.heap.size := (by omega))); (try (have : w.heap.size + 1 + 1 + 1 + 1 < w1.heap.size := (by omega)))
        go_wp2_with fail
        refine (R1.out _).mono ?_
        rintro e _ ⟨rfl, rfl⟩
        go_wp2_with fail
        refine (R2.out _).mono ?_
        rintro e _ ⟨rfl, rfl⟩
        go_wp2_with fail
        (try simp only [Exit.inBlock, Exit.then]); apply bodyPost_ret; (focus (simp only [results, Tryz.results244]; go_simp; try rfl)); rfl
        exact ⟨rfl, by (repeat' (first | exact Ext.refl _ | assumption | apply Ext.alloc | apply Ext.drew | refine Ext.set ?_ (by dsimp only; omega) _ | refine Ext.trans ?_ (by assumption)))⟩
      · rw [if_neg hu]
        go_enter Tryz.func244, Tryz.ntmps244
        go_wp2_with fail
        refine (HV.out _).mono ?_
        rintro e w1 ⟨rfl, h1⟩
        obtain ⟨hc_w1, hf_w1, hz_w1⟩ := bcell h1; (repeat (first | rw [World.size_alloc] at hz_w1 | rw [World.size_drew] at hz_w1 | rw [World.size_setCell] at hz_w1)); (try (have : w.heap.size < w1.heap.size := (by omega))); (try (have : w.heap.size + 1 < w1.heap.size := (by omega))); (try (have : w.heap.size + 1 + 1 < w1.heap.size := (by omega))); (try (have : w.heap.size + 1 + 1 + 1 < w1.heap.size := (by omega))); (try (have : w.heap.size + 1 + 1 + 1 + 1 < w1.heap.size := (by omega)))
        go_wp2_with fail
        refine (R1.out _).mono ?_
        rintro e _ ⟨rfl, rfl⟩
        go_wp2_with fail
        refine (R2.out _).mono ?_
        rintro e _ ⟨rfl, rfl⟩
        go_wp2_with fail
        (try simp only [Exit.inBlock, Exit.then]); apply bodyPost_ret; (focus (simp only [results, Tryz.results244]; go_simp; try rfl)); rfl
        exact ⟨rfl, by (repeat' (first | exact Ext.refl _ | assumption | apply Ext.alloc | apply Ext.drew | refine Ext.set ?_ (by dsimp only; omega) _ | refine Ext.trans ?_ (by assumption)))⟩
  · rw [if_neg h0]
    generalize spErr ⟨lo, hi⟩ = E at *
    go_enter Tryz.func244, Tryz.ntmps244
    go_wp2_with fail
    refine (HV.out _).mono ?_
    rintro e w1 ⟨rfl, h1⟩
    obtain ⟨hc_w1, hf_w1, hz_w1⟩ := bcell h1; (repeat (first | rw [World.size_alloc] at hz_w1 | rw [World.size_drew] at hz_w1 | rw [World.size_setCell] at hz_w1)); (try (have : w.heap.size < w1.heap.size := (by omega))); (try (have : w.heap.size + 1 < w1.heap.size := (by omega))); (try (have : w.heap.size + 1 + 1 < w1.heap.size := (by omega))); (try (have : w.heap.size + 1 + 1 + 1 < w1.heap.size := (by omega))); (try (have : w.heap.size + 1 + 1 + 1 + 1 < w1.heap.size := (by omega)))
    go_wp2_with fail
    (try simp only [Exit.inBlock, Exit.then]); apply bodyPost_ret; (focus (simp only [results, Tryz.results244]; go_simp; try rfl)); rfl
    exact ⟨rfl, by (repeat' (first | exact Ext.refl _ | assumption | apply Ext.alloc | apply Ext.drew | refine Ext.set ?_ (by dsimp only; omega) _ | refine Ext.trans ?_ (by assumption)))⟩
set_option maxRecDepth 4000 in
set_option maxHeartbeats 1000000 in
theorem spFar_c (A : Option Addr) (n c : Nat) (l : List Int) (w : World) (hl : Ints w A n l) :
    Calls Tryz.prog 222 #[.slice A n c] w fun e w' => e = .returned (.bool (l.all fun x => within x (-268435456) 268435456)) ∧ Ext w w' := by
  have hn := hl.le
  have hln := Lib.hid hl.len
  go_enter Tryz.func222, Tryz.ntmps222
  go_wp2_with fail
  go_loopw [7] (fun i wr => ∃ k : Nat, k ≤ n ∧ i = .int .i64 k ∧ Hid (((l.drop k).all fun x => within x (-268435456) 268435456) = l.all fun x => within x (-268435456) 268435456) ∧ Ext w wr) (fun i _ => n - (intOf i).toNat)
  case atStart => exact ⟨0, Nat.zero_le _, rfl, rfl, Ext.refl _⟩
  case round =>
    obtain ⟨k, hk, rfl, HI, hb⟩ := hrel
    obtain ⟨hcb, hfb, hzb⟩ := bcell hb
    by_cases hlt : k < n
    · obtain ⟨b, off, x, rfl, HD, hxm, hx⟩ := hl.one hlt
      have hx := hb.cell hx
      simp only [Nat.mul_one] at hx
      have hbl : b < wr.heap.size := World.block_lt_of_cell? wr _ hx
      have HX := Lib.hid fun W => sp_within_c x (-268435456) 268435456 W
      have hi := HI.out
      rw [HD.out, List.all_cons] at hi
      have Hi := Lib.hid hi
      clear hi
      cases hw : within x (-268435456) 268435456
      · rw [hw] at HX Hi
        go_wp2_with fail
        refine (HX.out _).mono ?_
        rintro e _ ⟨rfl, rfl⟩
        go_wp2_with fail
        go_ret
        exact ⟨ret_b (by rw [← Hi.out]; rfl), hb⟩
      · rw [hw] at HX Hi
        go_wp2_with fail
        refine (HX.out _).mono ?_
        rintro e _ ⟨rfl, rfl⟩
        go_wp2_with fail
        go_roundw
        case rel => exact ⟨k + 1, by omega, by go_num, by have := Hi.out; rwa [Bool.true_and] at this, hb⟩
        case measure => simp [intOf]; omega
    · have hkn : k = n := by omega
      subst hkn
      go_wp2_with fail
      go_ret
      refine ⟨ret_b ?_, hb⟩
      have := HI.out
      rw [hln.out, List.drop_length] at this
      rw [← this]; rfl
set_option maxRecDepth 20000 in
set_option maxHeartbeats 1000000 in
theorem spCheckArea_c (xl xh yl yh : Int) (w : World) :
    Calls Tryz.prog 197 #[.agg #[.int .i64 xl, .int .i64 xh, .int .i64 yl, .int .i64 yh]] w fun e w' => e = .returned (.int .i64 (areaErr ⟨⟨xl, xh⟩, ⟨yl, yh⟩⟩)) ∧ Ext w w' := by
  have HV := Lib.hid fun W => spValid_c xl xh yl yh W
  unfold areaErr
  dsimp only
  by_cases h0 : sp2Err ⟨xl, xh⟩ ⟨yl, yh⟩ = 0
  · rw [if_pos h0]
    rw [h0] at HV
    have hfe : (([xl, xh, yl, yh] : List Int).all fun x => within x (-268435456) 268435456) = far4 ⟨⟨xl, xh⟩, ⟨yl, yh⟩⟩ := by
      simp only [List.all_cons, List.all_nil, Bool.and_true, far4, Bool.and_assoc]
    generalize far4 _ = F at *
    have HF := Lib.hid hfe
    clear h0 hfe
    go_enter Tryz.func197, Tryz.ntmps197
    go_wp2_with fail
    refine (HV.out _).mono ?_
    rintro e w1 ⟨rfl, h1⟩
    have H4 := Lib.hid (spFar_c _ 4 4 [xl, xh, yl, yh] (w1.alloc (.cells #[.int .i64 xl, .int .i64 xh, .int .i64 yl, .int .i64 yh] 2)) (int_slice [xl, xh, yl, yh] (Blk.newAt rfl) (by simp)))
    rw [HF.out] at H4
    obtain ⟨hc_w1, hf_w1, hz_w1⟩ := bcell h1; (repeat (first | rw [World.size_alloc] at hz_w1 | rw [World.size_drew] at hz_w1 | rw [World.size_setCell] at hz_w1)); (try (have : w.heap.size < w1.heap.size := (by omega))); (try (have : w.heap.size + 1 < w1.heap.size := (by omega))); (try (have : w.heap.size + 1 + 1 < w1.heap.size := (by omega))); (try (have : w.heap.size + 1 + 1 + 1 < w1.heap.size := (by omega))); (try (have : w.heap.size + 1 + 1 + 1 + 1 < w1.heap.size := (by omega)))
    go_wp2_with fail
    refine H4.out.mono ?_
    rintro e w2 ⟨rfl, h2⟩
    cases F
    all_goals go_wp2_with fail
    all_goals go_ret
    all_goals exact ⟨ret_i (by simp), by (repeat' (first | exact Ext.refl _ | assumption | apply Ext.alloc | apply Ext.drew | refine Ext.set ?_ (by dsimp only; omega) _ | refine Ext.trans ?_ (by assumption)))⟩
  · rw [if_neg h0]
    generalize sp2Err _ _ = E at *
    go_enter Tryz.func197, Tryz.ntmps197
    go_wp2_with fail
    refine (HV.out _).mono ?_
    rintro e w1 ⟨rfl, h1⟩
    obtain ⟨hc_w1, hf_w1, hz_w1⟩ := bcell h1; (repeat (first | rw [World.size_alloc] at hz_w1 | rw [World.size_drew] at hz_w1 | rw [World.size_setCell] at hz_w1)); (try (have : w.heap.size < w1.heap.size := (by omega))); (try (have : w.heap.size + 1 < w1.heap.size := (by omega))); (try (have : w.heap.size + 1 + 1 < w1.heap.size := (by omega))); (try (have : w.heap.size + 1 + 1 + 1 < w1.heap.size := (by omega))); (try (have : w.heap.size + 1 + 1 + 1 + 1 < w1.heap.size := (by omega)))
    go_wp2_with fail
    go_ret
    exact ⟨rfl, by (repeat' (first | exact Ext.refl _ | assumption | apply Ext.alloc | apply Ext.drew | refine Ext.set ?_ (by dsimp only; omega) _ | refine Ext.trans ?_ (by assumption)))⟩
end Go.Proofs.YtfniicgoeljmdaaGreat
