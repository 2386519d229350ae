/- Quotients, squares and roots of spans: the program. No condition. Roots of spans, and which areas are valid: the program. No condition. -/
import Derived.Test.YtfniicgoeljmdaaCombine
import Derived.Test.YtfniicgoeljmdaaSpanRoot
import Derived.Test.YtfniicgoeljmdaaMonoLaw
import Derived.Test.YtfniicgoeljmdaaSlices
namespace Go.Proofs.Ytfniicgoeljmdaa
open Go.RowKit

set_option maxHeartbeats 1000000 in
theorem spIn_c (lo hi n : Int) (w : World) (h0 : spErr ⟨lo, hi⟩ = 0) :
    Calls Try.prog 83 #[.agg #[.int .i64 lo, .int .i64 hi], .int .i64 n] w fun e w' => e = .returned (.bool (within n lo hi)) ∧ Ext w w' := by
  have H1 := Lib.hid fun W => spCheck_c lo hi W
  rw [h0] at H1
  have H2 := Lib.hid fun W => sp_within_c n lo hi W
  generalize within n lo hi = b at *
  clear h0
  go_enter Try.func83, Try.ntmps83
  go_wp2_with fail
  refine (H1.out _).mono ?_
  rintro e w1 ⟨rfl, h1⟩
  obtain ⟨hc_w1, hf_w1, hz_w1⟩ := bcell h1; (try simp only [szA] at hz_w1); (try have := wz0 w w1); (try have := wz1 w w1); (try have := wz2 w w1); (try have := wz3 w w1); (try have := wz4 w w1)
  go_wp2_with fail
  refine (H2.out _).mono ?_
  rintro e _ ⟨rfl, rfl⟩
  go_wp2_with fail
  go_ret
  exact ⟨rfl, ext_by⟩
set_option maxHeartbeats 1000000 in
theorem spQuot_c (al ah bl bh : Int) (w : World) :
    Calls Try.prog 75 #[.agg #[.int .i64 al, .int .i64 ah], .agg #[.int .i64 bl, .int .i64 bh]] w fun e w' => e = .returned (spRV (quotM ⟨al, ah⟩ ⟨bl, bh⟩)) ∧ Ext w w' := by
  have HV := Lib.hid fun W => spValid_c al ah bl bh W
  by_cases h0 : sp2Err ⟨al, ah⟩ ⟨bl, bh⟩ = 0
  · obtain ⟨hp, h1⟩ := pairs_i64 h0
    have HI := Lib.hid fun W => spIn_c bl bh 0 W (spErr_ok.2 (by dsimp only; omega))
    rw [h0] at HV
    unfold quotM
    rw [if_pos h0]
    by_cases hz : within 0 bl bh = true
    · rw [if_pos hz]
      rw [hz] at HI
      clear h0 hp h1 hz
      go_enter Try.func75, Try.ntmps75
      go_wp2_with fail
      refine (HV.out _).mono ?_
      rintro e w1 ⟨rfl, h1⟩
      obtain ⟨hc_w1, hf_w1, hz_w1⟩ := bcell h1; (try simp only [szA] at hz_w1); (try have := wz0 w w1); (try have := wz1 w w1); (try have := wz2 w w1); (try have := wz3 w w1); (try have := wz4 w w1)
      go_wp2_with fail
      refine (HI.out _).mono ?_
      rintro e w2 ⟨rfl, h2⟩
      obtain ⟨hc_w2, hf_w2, hz_w2⟩ := bcell h2; (try simp only [szA] at hz_w2); (try have := wz0 w w2); (try have := wz1 w w2); (try have := wz2 w w2); (try have := wz3 w w2); (try have := wz4 w w2)
      go_wp2_with fail
      (try simp only [Exit.inBlock, Exit.then]); apply bodyPost_ret; (focus (simp only [results, Try.results75]; go_simp; try rfl)); rfl
      exact ⟨rfl, ext_by⟩
    · rw [if_neg hz]
      have hz' : within 0 bl bh = false := by simpa using hz
      rw [hz'] at HI
      have hy : ∀ p ∈ pairsV al ah bl bh, p.2 ≠ 0 := by
        intro p hp
        simp only [pairsV, List.mem_cons, List.not_mem_nil, or_false] at hp
        unfold within at hz'
        simp only [Bool.and_eq_false_imp, decide_eq_true_eq, decide_eq_false_iff_not] at hz'
        rcases hp with rfl | rfl | rfl | rfl
        all_goals dsimp only
        all_goals omega
      have H : Hid (∀ W, Calls Try.prog 84 #[.agg #[.int .i64 al, .int .i64 ah], .agg #[.int .i64 bl, .int .i64 bh], .func (.func 85) #[] #[]] W fun e w' => e = .returned (spRV (combM quotF ⟨al, ah⟩ ⟨bl, bh⟩)) ∧ Ext W w') := Lib.hid fun W =>
        spCombine_ok al ah bl bh _ #[] quotF W h0 Try.call85 fun p h W2 _ => spQuot1_c p.1 p.2 W2 (hp p h).1 (hp p h).2 (hy p h)
      generalize combM _ _ _ = R at *
      obtain ⟨⟨rl, rh⟩, re⟩ := R
      clear h0 hp h1 hz hz' hy
      go_enter Try.func75, Try.ntmps75
      go_wp2_with fail
      refine (HV.out _).mono ?_
      rintro e w1 ⟨rfl, h1⟩
      obtain ⟨hc_w1, hf_w1, hz_w1⟩ := bcell h1; (try simp only [szA] at hz_w1); (try have := wz0 w w1); (try have := wz1 w w1); (try have := wz2 w w1); (try have := wz3 w w1); (try have := wz4 w w1)
      go_wp2_with fail
      refine (HI.out _).mono ?_
      rintro e w2 ⟨rfl, h2⟩
      obtain ⟨hc_w2, hf_w2, hz_w2⟩ := bcell h2; (try simp only [szA] at hz_w2); (try have := wz0 w w2); (try have := wz1 w w2); (try have := wz2 w w2); (try have := wz3 w w2); (try have := wz4 w w2)
      go_wp2_with fail
      refine (H.out _).mono ?_
      rintro e w3 ⟨rfl, h3⟩
      obtain ⟨hc_w3, hf_w3, hz_w3⟩ := bcell h3; (try simp only [szA] at hz_w3); (try have := wz0 w w3); (try have := wz1 w w3); (try have := wz2 w w3); (try have := wz3 w w3); (try have := wz4 w w3)
      go_wp2_with fail
      (try simp only [Exit.inBlock, Exit.then]); apply bodyPost_ret; (focus (simp only [results, Try.results75]; go_simp; try rfl)); rfl
      exact ⟨rfl, ext_by⟩
  · unfold quotM
    rw [if_neg h0]
    generalize sp2Err ⟨al, ah⟩ ⟨bl, bh⟩ = E at *
    go_enter Try.func75, Try.ntmps75
    go_wp2_with fail
    refine (HV.out _).mono ?_
    rintro e w1 ⟨rfl, h1⟩
    obtain ⟨hc_w1, hf_w1, hz_w1⟩ := bcell h1; (try simp only [szA] at hz_w1); (try have := wz0 w w1); (try have := wz1 w w1); (try have := wz2 w w1); (try have := wz3 w w1); (try have := wz4 w w1)
    go_wp2_with fail
    (try simp only [Exit.inBlock, Exit.then]); apply bodyPost_ret; (focus (simp only [results, Try.results75]; go_simp; try rfl)); rfl
    exact ⟨rfl, ext_by⟩
set_option maxRecDepth 20000 in
set_option maxHeartbeats 2000000 in
theorem spSquare_c (lo hi : Int) (w : World) :
    Calls Try.prog 78 #[.agg #[.int .i64 lo, .int .i64 hi]] w fun e w' => e = .returned (spRV (squareM ⟨lo, hi⟩)) ∧ Ext w w' := by
  have HV := Lib.hid fun W => spCheck_c lo hi W
  unfold squareM
  by_cases h0 : spErr ⟨lo, hi⟩ = 0
  · obtain ⟨h1, h2, h3⟩ := spErr_ok.1 h0
    dsimp only at h1 h2 h3
    rw [if_pos h0]
    rw [h0] at HV
    have hhm : highM ⟨lo, hi⟩ = max (-lo) hi := rfl
    rw [hhm]
    obtain ⟨L, hL, hc⟩ : ∃ L, lowM ⟨lo, hi⟩ = L ∧ ((L = 0 ∧ lo ≤ 0 ∧ 0 ≤ hi) ∨ (L = lo ∧ 0 < lo) ∨ (L = -hi ∧ hi < 0)) := by
      refine ⟨_, rfl, ?_⟩
      unfold lowM
      dsimp only
      omega
    rw [hL]
    have hLb : 0 ≤ L ∧ L ≤ max (-lo) hi := by omega
    have m1 : 0 ≤ L * L := Int.mul_nonneg hLb.1 hLb.1
    have m2 : L * L ≤ max (-lo) hi * max (-lo) hi := Int.mul_le_mul hLb.2 hLb.2 hLb.1 (by omega)
    clear h0 hhm hL
    by_cases hu : 1073741824 < max (-lo) hi
    · rw [if_pos hu]
      clear m1 m2 hLb
      rcases hc with ⟨rfl, k1, k2⟩ | ⟨rfl, k1⟩ | ⟨rfl, k1⟩
      all_goals
        go_enter Try.func78, Try.ntmps78
        go_wp2_with fail
        refine (HV.out _).mono ?_
        rintro e w1 ⟨rfl, h1⟩
        obtain ⟨hc_w1, hf_w1, hz_w1⟩ := bcell h1; (try simp only [szA] at hz_w1); (try have := wz0 w w1); (try have := wz1 w w1); (try have := wz2 w w1); (try have := wz3 w w1); (try have := wz4 w w1)
        go_wp2_with fail
        refine wp_region_text (by kernel_rfl) (by kernel_rfl) ?_
        (repeat' (first | (refine bl_off (by rfl) ?_; simp only [putX]) | (apply bl_op; rfl; (intro w1 h1; obtain ⟨hc, hf, hz⟩ := bcell h1; go_simp; (try go_bits); (first | exact ⟨rfl, Ext.refl _⟩)); simp only [putX]) | (refine bl_split rfl rfl (fun hx => ?_) (fun hx => ?_) <;> simp only [hx])))
        refine bl_nil ?_
        intro w2 h2
        obtain ⟨hc_w2, hf_w2, hz_w2⟩ := bcell h2; (try simp only [szA] at hz_w2); (try have := wz0 w w2); (try have := wz1 w w2); (try have := wz2 w w2); (try have := wz3 w w2); (try have := wz4 w w2)
        go_wp2_with fail
        (try simp only [Exit.inBlock, Exit.then]); apply bodyPost_ret; (focus (simp only [results, Try.results78]; go_simp; try rfl)); rfl
        exact ⟨rfl, ext_by⟩
    · rw [if_neg hu]
      have m3 : max (-lo) hi * max (-lo) hi ≤ 1152921504606846976 := by
        have := Int.mul_le_mul (show max (-lo) hi ≤ 1073741824 by omega) (show max (-lo) hi ≤ (1073741824 : Int) by omega) (by omega) (by omega)
        omega
      have HE := Lib.hid fun W => ends_c (L * L) (max (-lo) hi * max (-lo) hi) W
      generalize endsM _ _ = R at *
      obtain ⟨⟨rl, rh⟩, re⟩ := R
      rcases hc with ⟨rfl, k1, k2⟩ | ⟨rfl, k1⟩ | ⟨rfl, k1⟩
      all_goals
        go_enter Try.func78, Try.ntmps78
        go_wp2_with fail
        refine (HV.out _).mono ?_
        rintro e w1 ⟨rfl, h1⟩
        obtain ⟨hc_w1, hf_w1, hz_w1⟩ := bcell h1; (try simp only [szA] at hz_w1); (try have := wz0 w w1); (try have := wz1 w w1); (try have := wz2 w w1); (try have := wz3 w w1); (try have := wz4 w w1)
        go_wp2_with fail
        refine wp_region_text (by kernel_rfl) (by kernel_rfl) ?_
        (repeat' (first | (refine bl_off (by rfl) ?_; simp only [putX]) | (apply bl_op; rfl; (intro w1 h1; obtain ⟨hc, hf, hz⟩ := bcell h1; go_simp; (try go_bits); (first | exact ⟨rfl, Ext.refl _⟩)); simp only [putX]) | (refine bl_split rfl rfl (fun hx => ?_) (fun hx => ?_) <;> simp only [hx])))
        refine bl_nil ?_
        intro w2 h2
        obtain ⟨hc_w2, hf_w2, hz_w2⟩ := bcell h2; (try simp only [szA] at hz_w2); (try have := wz0 w w2); (try have := wz1 w w2); (try have := wz2 w w2); (try have := wz3 w w2); (try have := wz4 w w2)
        go_wp2_with fail
        refine (HE.out _).mono ?_
        rintro e w3 ⟨rfl, h3⟩
        obtain ⟨hc_w3, hf_w3, hz_w3⟩ := bcell h3; (try simp only [szA] at hz_w3); (try have := wz0 w w3); (try have := wz1 w w3); (try have := wz2 w w3); (try have := wz3 w w3); (try have := wz4 w w3)
        go_wp2_with fail
        (try simp only [Exit.inBlock, Exit.then]); apply bodyPost_ret; (focus (simp only [results, Try.results78]; go_simp; try rfl)); rfl
        exact ⟨rfl, ext_by⟩
  · rw [if_neg h0]
    generalize spErr ⟨lo, hi⟩ = E at *
    go_enter Try.func78, Try.ntmps78
    go_wp2_with fail
    refine (HV.out _).mono ?_
    rintro e w1 ⟨rfl, h1⟩
    obtain ⟨hc_w1, hf_w1, hz_w1⟩ := bcell h1; (try simp only [szA] at hz_w1); (try have := wz0 w w1); (try have := wz1 w w1); (try have := wz2 w w1); (try have := wz3 w w1); (try have := wz4 w w1)
    go_wp2_with fail
    (try simp only [Exit.inBlock, Exit.then]); apply bodyPost_ret; (focus (simp only [results, Try.results78]; go_simp; try rfl)); rfl
    exact ⟨rfl, ext_by⟩
end Go.Proofs.Ytfniicgoeljmdaa

namespace Go.Proofs.Ytfniicgoeljmdaa
open Go.RowKit

set_option maxHeartbeats 1000000 in
theorem spRoots_c (lo hi : Int) (w : World) :
    Calls Try.prog 70 #[.agg #[.int .i64 lo, .int .i64 hi]] w fun e w' => e = .returned (spRV (rootsM ⟨lo, hi⟩)) ∧ Ext w w' := by
  have HV := Lib.hid fun W => spCheck_c lo hi W
  unfold rootsM
  by_cases h0 : spErr ⟨lo, hi⟩ = 0
  · obtain ⟨h1, h2, h3⟩ := spErr_ok.1 h0
    dsimp only at h1 h2 h3
    rw [if_pos h0]
    rw [h0] at HV
    dsimp only
    by_cases hn : lo < 0
    · rw [if_pos hn]
      clear h0
      go_enter Try.func70, Try.ntmps70
      go_wp2_with fail
      refine (HV.out _).mono ?_
      rintro e w1 ⟨rfl, h1⟩
      obtain ⟨hc_w1, hf_w1, hz_w1⟩ := bcell h1; (try simp only [szA] at hz_w1); (try have := wz0 w w1); (try have := wz1 w w1); (try have := wz2 w w1); (try have := wz3 w w1); (try have := wz4 w w1)
      go_wp2_with fail
      (try simp only [Exit.inBlock, Exit.then]); apply bodyPost_ret; (focus (simp only [results, Try.results70]; go_simp; try rfl)); rfl
      exact ⟨rfl, ext_by⟩
    · rw [if_neg hn]
      have R1 := Lib.hid fun W => spRoot_c hi W (by omega) (by omega)
      have R2 := Lib.hid fun W => spRoot_c lo W (by omega) (by omega)
      have b := rootI_mono (a := lo) (b := hi) (by omega) (by omega) (by omega)
      have e1 : (rootN hi.toNat : Int) = rootI hi := by unfold rootI; rw [if_neg (by omega)]
      have e2 : (rootN lo.toNat : Int) = rootI lo := by unfold rootI; rw [if_neg (by omega)]
      rw [e1] at R1
      rw [e2] at R2
      unfold upM at b ⊢
      generalize rootI lo = r2 at *
      generalize rootI hi = r1 at *
      obtain ⟨b1, b2, b3, b4, b5, b6⟩ := b
      have m0 : 0 ≤ r1 * r1 := Int.mul_nonneg (by omega) (by omega)
      have m1 : r1 * r1 ≤ 1152921504606846976 := by
        have := Int.mul_le_mul b6 b6 (by omega) (by omega)
        omega
      have hn' : 0 ≤ lo := by omega
      clear h0 b3 b4 b5 e1 e2 hn
      by_cases hu : r1 * r1 < hi
      · rw [if_pos hu]
        go_enter Try.func70, Try.ntmps70
        go_wp2_with fail
        refine (HV.out _).mono ?_
        rintro e w1 ⟨rfl, h1⟩
        obtain ⟨hc_w1, hf_w1, hz_w1⟩ := bcell h1; (try simp only [szA] at hz_w1); (try have := wz0 w w1); (try have := wz1 w w1); (try have := wz2 w w1); (try have := wz3 w w1); (try have := wz4 w w1)
        go_wp2_with fail
        refine (R1.out _).mono ?_
        rintro e _ ⟨rfl, rfl⟩
        go_wp2_with fail
        refine (R2.out _).mono ?_
        rintro e _ ⟨rfl, rfl⟩
        go_wp2_with fail
        (try simp only [Exit.inBlock, Exit.then]); apply bodyPost_ret; (focus (simp only [results, Try.results70]; go_simp; try rfl)); rfl
        exact ⟨rfl, ext_by⟩
      · rw [if_neg hu]
        go_enter Try.func70, Try.ntmps70
        go_wp2_with fail
        refine (HV.out _).mono ?_
        rintro e w1 ⟨rfl, h1⟩
        obtain ⟨hc_w1, hf_w1, hz_w1⟩ := bcell h1; (try simp only [szA] at hz_w1); (try have := wz0 w w1); (try have := wz1 w w1); (try have := wz2 w w1); (try have := wz3 w w1); (try have := wz4 w w1)
        go_wp2_with fail
        refine (R1.out _).mono ?_
        rintro e _ ⟨rfl, rfl⟩
        go_wp2_with fail
        refine (R2.out _).mono ?_
        rintro e _ ⟨rfl, rfl⟩
        go_wp2_with fail
        (try simp only [Exit.inBlock, Exit.then]); apply bodyPost_ret; (focus (simp only [results, Try.results70]; go_simp; try rfl)); rfl
        exact ⟨rfl, ext_by⟩
  · rw [if_neg h0]
    generalize spErr ⟨lo, hi⟩ = E at *
    go_enter Try.func70, Try.ntmps70
    go_wp2_with fail
    refine (HV.out _).mono ?_
    rintro e w1 ⟨rfl, h1⟩
    obtain ⟨hc_w1, hf_w1, hz_w1⟩ := bcell h1; (try simp only [szA] at hz_w1); (try have := wz0 w w1); (try have := wz1 w w1); (try have := wz2 w w1); (try have := wz3 w w1); (try have := wz4 w w1)
    go_wp2_with fail
    (try simp only [Exit.inBlock, Exit.then]); apply bodyPost_ret; (focus (simp only [results, Try.results70]; go_simp; try rfl)); rfl
    exact ⟨rfl, ext_by⟩
set_option maxRecDepth 4000 in
set_option maxHeartbeats 1000000 in
theorem spFar_c (A : Option Addr) (n c : Nat) (l : List Int) (w : World) (hl : Ints w A n l) :
    Calls Try.prog 57 #[.slice A n c] w fun e w' => e = .returned (.bool (l.all fun x => within x (-268435456) 268435456)) ∧ Ext w w' := by
  have hn := hl.le
  have hln := Lib.hid hl.len
  go_enter Try.func57, Try.ntmps57
  go_wp2_with fail
  go_loopw [7] (fun i wr => ∃ k : Nat, k ≤ n ∧ i = .int .i64 k ∧ Hid (((l.drop k).all fun x => within x (-268435456) 268435456) = l.all fun x => within x (-268435456) 268435456) ∧ Ext w wr) (fun i _ => n - (intOf i).toNat)
  case atStart => exact ⟨0, Nat.zero_le _, rfl, rfl, Ext.refl _⟩
  case round =>
    obtain ⟨k, hk, rfl, HI, hb⟩ := hrel
    obtain ⟨hcb, hfb, hzb⟩ := bcell hb
    by_cases hlt : k < n
    · obtain ⟨b, off, x, rfl, HD, hxm, hx⟩ := hl.one hlt
      have hx := hb.cell hx
      simp only [Nat.mul_one] at hx
      have hbl : b < wr.heap.size := World.block_lt_of_cell? wr _ hx
      have HX := Lib.hid fun W => sp_within_c x (-268435456) 268435456 W
      have hi := HI.out
      rw [HD.out, List.all_cons] at hi
      have Hi := Lib.hid hi
      clear hi
      cases hw : within x (-268435456) 268435456
      · rw [hw] at HX Hi
        go_wp2_with fail
        refine (HX.out _).mono ?_
        rintro e _ ⟨rfl, rfl⟩
        go_wp2_with fail
        go_ret
        exact ⟨ret_b (by rw [← Hi.out]; rfl), hb⟩
      · rw [hw] at HX Hi
        go_wp2_with fail
        refine (HX.out _).mono ?_
        rintro e _ ⟨rfl, rfl⟩
        go_wp2_with fail
        go_roundw
        case rel => exact ⟨k + 1, by omega, by go_num, by have := Hi.out; rwa [Bool.true_and] at this, hb⟩
        case measure => simp [intOf]; omega
    · have hkn : k = n := by omega
      subst hkn
      go_wp2_with fail
      go_ret
      refine ⟨ret_b ?_, hb⟩
      have := HI.out
      rw [hln.out, List.drop_length] at this
      rw [← this]; rfl
set_option maxRecDepth 20000 in
set_option maxHeartbeats 1000000 in
theorem spCheckArea_c (xl xh yl yh : Int) (w : World) :
    Calls Try.prog 47 #[.agg #[.int .i64 xl, .int .i64 xh, .int .i64 yl, .int .i64 yh]] w fun e w' => e = .returned (.int .i64 (areaErr ⟨⟨xl, xh⟩, ⟨yl, yh⟩⟩)) ∧ Ext w w' := by
  have HV := Lib.hid fun W => spValid_c xl xh yl yh W
  unfold areaErr
  dsimp only
  by_cases h0 : sp2Err ⟨xl, xh⟩ ⟨yl, yh⟩ = 0
  · rw [if_pos h0]
    rw [h0] at HV
    have hfe : (([xl, xh, yl, yh] : List Int).all fun x => within x (-268435456) 268435456) = far4 ⟨⟨xl, xh⟩, ⟨yl, yh⟩⟩ := by
      simp only [List.all_cons, List.all_nil, Bool.and_true, far4, Bool.and_assoc]
    generalize far4 _ = F at *
    have HF := Lib.hid hfe
    clear h0 hfe
    go_enter Try.func47, Try.ntmps47
    go_wp2_with fail
    refine (HV.out _).mono ?_
    rintro e w1 ⟨rfl, h1⟩
    have H4 := Lib.hid (spFar_c _ 4 4 [xl, xh, yl, yh] (w1.alloc (.cells #[.int .i64 xl, .int .i64 xh, .int .i64 yl, .int .i64 yh] 2)) (int_slice [xl, xh, yl, yh] (Blk.newAt rfl) (by simp)))
    rw [HF.out] at H4
    obtain ⟨hc_w1, hf_w1, hz_w1⟩ := bcell h1; (try simp only [szA] at hz_w1); (try have := wz0 w w1); (try have := wz1 w w1); (try have := wz2 w w1); (try have := wz3 w w1); (try have := wz4 w w1)
    go_wp2_with fail
    refine H4.out.mono ?_
    rintro e w2 ⟨rfl, h2⟩
    cases F
    all_goals go_wp2_with fail
    all_goals go_ret
    all_goals exact ⟨ret_i (by simp), ext_by⟩
  · rw [if_neg h0]
    generalize sp2Err _ _ = E at *
    go_enter Try.func47, Try.ntmps47
    go_wp2_with fail
    refine (HV.out _).mono ?_
    rintro e w1 ⟨rfl, h1⟩
    obtain ⟨hc_w1, hf_w1, hz_w1⟩ := bcell h1; (try simp only [szA] at hz_w1); (try have := wz0 w w1); (try have := wz1 w w1); (try have := wz2 w w1); (try have := wz3 w w1); (try have := wz4 w w1)
    go_wp2_with fail
    go_ret
    exact ⟨rfl, ext_by⟩
end Go.Proofs.Ytfniicgoeljmdaa
