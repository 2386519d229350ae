/- States and boxes that are valid: the reference. No condition. -/
import Derived.Test.YtfniicgoeljmdaaGreatSpan
import Derived.Test.YtfniicgoeljmdaaGreatOwnBoxes
namespace Go.Proofs.YtfniicgoeljmdaaGreat
open Go.RowKit

set_option maxHeartbeats 400000 in
theorem rBetween_c (a b c : Int) (w : World) :
    Calls Tryz.prog 71 #[.int .i64 a, .int .i64 b, .int .i64 c] w fun e w' => e = .returned (.bool (within a b c)) ∧ Ext w w' := by
  go_enter Tryz.func71, Tryz.ntmps71
  go_wp2
  all_goals go_ret
  all_goals exact ⟨ret_b (by simp [within, *] <;> omega), Ext.refl _⟩
theorem stErr_gOK (s : St) : stErr s = if gOK s then 0 else 2 := by
  unfold stErr gOK near
  dsimp only
  simp only [Bool.and_assoc]
set_option maxHeartbeats 400000 in
theorem rCheckState_c (x y u v : Int) (w : World) :
    Calls Tryz.prog 36 #[.agg #[.int .i64 x, .int .i64 y, .int .i64 u, .int .i64 v]] w fun e w' => e = .returned (.int .i64 (stErr ⟨x, y, u, v⟩)) ∧ Ext w w' := by
  have H := Lib.hid fun W => Guess_c x y u v W
  rw [stErr_gOK]
  generalize gOK ⟨x, y, u, v⟩ = B at *
  go_enter Tryz.func36, Tryz.ntmps36
  go_wp2_with fail
  refine (H.out _).mono ?_
  rintro e w1 ⟨rfl, h1⟩
  cases B
  · go_wp2_with fail
    go_ret
    exact ⟨rfl, ext_by⟩
  · go_wp2_with fail
    go_ret
    exact ⟨rfl, ext_by⟩
theorem rLow_c (xl xh yl yh ul uh vl vh : Int) (w : World) :
    Calls Tryz.prog 96 #[.agg #[.int .i64 xl, .int .i64 xh, .int .i64 yl, .int .i64 yh, .int .i64 ul, .int .i64 uh, .int .i64 vl, .int .i64 vh]] w fun e w' => e = .returned (.agg #[.int .i64 xl, .int .i64 yl, .int .i64 ul, .int .i64 vl]) ∧ Ext w w' := by
  go_enter Tryz.func96, Tryz.ntmps96
  go_wp2_with fail
  (try simp only [Exit.inBlock, Exit.then]); apply bodyPost_ret; (focus (simp only [results, Tryz.results96]; go_simp; try rfl)); rfl
  exact ⟨rfl, ext_by⟩
theorem rHigh_c (xl xh yl yh ul uh vl vh : Int) (w : World) :
    Calls Tryz.prog 97 #[.agg #[.int .i64 xl, .int .i64 xh, .int .i64 yl, .int .i64 yh, .int .i64 ul, .int .i64 uh, .int .i64 vl, .int .i64 vh]] w fun e w' => e = .returned (.agg #[.int .i64 xh, .int .i64 yh, .int .i64 uh, .int .i64 vh]) ∧ Ext w w' := by
  go_enter Tryz.func97, Tryz.ntmps97
  go_wp2_with fail
  (try simp only [Exit.inBlock, Exit.then]); apply bodyPost_ret; (focus (simp only [results, Tryz.results97]; go_simp; try rfl)); rfl
  exact ⟨rfl, ext_by⟩
set_option maxHeartbeats 1000000 in
theorem rFull_c (xl xh yl yh ul uh vl vh : Int) (w : World) :
    Calls Tryz.prog 95 #[.agg #[.int .i64 xl, .int .i64 xh, .int .i64 yl, .int .i64 yh, .int .i64 ul, .int .i64 uh, .int .i64 vl, .int .i64 vh]] w fun e w' => e = .returned (.bool (fullB ⟨⟨xl, xh⟩, ⟨yl, yh⟩, ⟨ul, uh⟩, vl, vh⟩)) ∧ Ext w w' := by
  unfold fullB
  dsimp only
  go_enter Tryz.func95, Tryz.ntmps95
  go_wp2_with fail
  all_goals (try simp only [Exit.inBlock, Exit.then]); apply bodyPost_ret; (focus (simp only [results, Tryz.results95]; go_simp; try rfl)); rfl
  all_goals exact ⟨ret_b (by simp [*] <;> omega), ext_by⟩
set_option maxRecDepth 20000 in
set_option maxHeartbeats 2000000 in
theorem rCheckBox_c (b : Bx) (w : World) :
    Calls Tryz.prog 38 #[.agg #[.int .i64 b.x.lo, .int .i64 b.x.hi, .int .i64 b.y.lo, .int .i64 b.y.hi, .int .i64 b.u.lo, .int .i64 b.u.hi, .int .i64 b.v.lo, .int .i64 b.v.hi]] w fun e w' => e = .returned (.int .i64 (bxErr b)) ∧ Ext w w' := by
  obtain ⟨⟨xl, xh⟩, ⟨yl, yh⟩, ⟨ul, uh⟩, vl, vh⟩ := b
  have HF := Lib.hid fun W => rFull_c xl xh yl yh ul uh vl vh W
  have HL := Lib.hid fun W => rLow_c xl xh yl yh ul uh vl vh W
  have HH := Lib.hid fun W => rHigh_c xl xh yl yh ul uh vl vh W
  have HS := Lib.hid fun W => rCheckState_c xl yl ul vl W
  have HT := Lib.hid fun W => rCheckState_c xh yh uh vh W
  have s1 := stErr_two ⟨xl, yl, ul, vl⟩
  have s2 := stErr_two ⟨xh, yh, uh, vh⟩
  unfold bxErr lowS highS
  dsimp only
  generalize fullB ⟨⟨xl, xh⟩, ⟨yl, yh⟩, ⟨ul, uh⟩, vl, vh⟩ = F at *
  generalize stErr ⟨xl, yl, ul, vl⟩ = E1 at *
  generalize stErr ⟨xh, yh, uh, vh⟩ = E2 at *
  cases F
  · clear s1 s2 HS HT HL HH
    go_enter Tryz.func38, Tryz.ntmps38
    go_wp2_with fail
    refine (HF.out _).mono ?_
    rintro e w1 ⟨rfl, h1⟩
    obtain ⟨hc_w1, hf_w1, hz_w1⟩ := bcell h1; (try simp only [szA] at hz_w1); (try have := wz0 w w1); (try have := wz1 w w1); (try have := wz2 w w1); (try have := wz3 w w1); (try have := wz4 w w1)
    go_wp2_with fail
    go_ret
    exact ⟨rfl, ext_by⟩
  · rcases s1 with rfl | rfl
    · rcases s2 with rfl | rfl
      · go_enter Tryz.func38, Tryz.ntmps38
        go_wp2_with fail
        refine (HF.out _).mono ?_
        rintro e w1 ⟨rfl, h1⟩
        obtain ⟨hc_w1, hf_w1, hz_w1⟩ := bcell h1; (try simp only [szA] at hz_w1); (try have := wz0 w w1); (try have := wz1 w w1); (try have := wz2 w w1); (try have := wz3 w w1); (try have := wz4 w w1)
        go_wp2_with fail
        refine (HL.out _).mono ?_
        rintro e w2 ⟨rfl, h2⟩
        obtain ⟨hc_w2, hf_w2, hz_w2⟩ := bcell h2; (try simp only [szA] at hz_w2); (try have := wz0 w w2); (try have := wz1 w w2); (try have := wz2 w w2); (try have := wz3 w w2); (try have := wz4 w w2)
        go_wp2_with fail
        refine (HS.out _).mono ?_
        rintro e w3 ⟨rfl, h3⟩
        obtain ⟨hc_w3, hf_w3, hz_w3⟩ := bcell h3; (try simp only [szA] at hz_w3); (try have := wz0 w w3); (try have := wz1 w w3); (try have := wz2 w w3); (try have := wz3 w w3); (try have := wz4 w w3)
        go_wp2_with fail
        refine (HH.out _).mono ?_
        rintro e w4 ⟨rfl, h4⟩
        obtain ⟨hc_w4, hf_w4, hz_w4⟩ := bcell h4; (try simp only [szA] at hz_w4); (try have := wz0 w w4); (try have := wz1 w w4); (try have := wz2 w w4); (try have := wz3 w w4); (try have := wz4 w w4)
        go_wp2_with fail
        refine (HT.out _).mono ?_
        rintro e w5 ⟨rfl, h5⟩
        obtain ⟨hc_w5, hf_w5, hz_w5⟩ := bcell h5; (try simp only [szA] at hz_w5); (try have := wz0 w w5); (try have := wz1 w w5); (try have := wz2 w w5); (try have := wz3 w w5); (try have := wz4 w w5)
        go_wp2_with fail
        go_ret
        exact ⟨rfl, ext_by⟩
      · go_enter Tryz.func38, Tryz.ntmps38
        go_wp2_with fail
        refine (HF.out _).mono ?_
        rintro e w1 ⟨rfl, h1⟩
        obtain ⟨hc_w1, hf_w1, hz_w1⟩ := bcell h1; (try simp only [szA] at hz_w1); (try have := wz0 w w1); (try have := wz1 w w1); (try have := wz2 w w1); (try have := wz3 w w1); (try have := wz4 w w1)
        go_wp2_with fail
        refine (HL.out _).mono ?_
        rintro e w2 ⟨rfl, h2⟩
        obtain ⟨hc_w2, hf_w2, hz_w2⟩ := bcell h2; (try simp only [szA] at hz_w2); (try have := wz0 w w2); (try have := wz1 w w2); (try have := wz2 w w2); (try have := wz3 w w2); (try have := wz4 w w2)
        go_wp2_with fail
        refine (HS.out _).mono ?_
        rintro e w3 ⟨rfl, h3⟩
        obtain ⟨hc_w3, hf_w3, hz_w3⟩ := bcell h3; (try simp only [szA] at hz_w3); (try have := wz0 w w3); (try have := wz1 w w3); (try have := wz2 w w3); (try have := wz3 w w3); (try have := wz4 w w3)
        go_wp2_with fail
        refine (HH.out _).mono ?_
        rintro e w4 ⟨rfl, h4⟩
        obtain ⟨hc_w4, hf_w4, hz_w4⟩ := bcell h4; (try simp only [szA] at hz_w4); (try have := wz0 w w4); (try have := wz1 w w4); (try have := wz2 w w4); (try have := wz3 w w4); (try have := wz4 w w4)
        go_wp2_with fail
        refine (HT.out _).mono ?_
        rintro e w5 ⟨rfl, h5⟩
        obtain ⟨hc_w5, hf_w5, hz_w5⟩ := bcell h5; (try simp only [szA] at hz_w5); (try have := wz0 w w5); (try have := wz1 w w5); (try have := wz2 w w5); (try have := wz3 w w5); (try have := wz4 w w5)
        go_wp2_with fail
        go_ret
        exact ⟨rfl, ext_by⟩
    · have hm : max 2 E2 = 2 := by omega
      rw [hm]
      clear s2 hm
      go_enter Tryz.func38, Tryz.ntmps38
      go_wp2_with fail
      refine (HF.out _).mono ?_
      rintro e w1 ⟨rfl, h1⟩
      obtain ⟨hc_w1, hf_w1, hz_w1⟩ := bcell h1; (try simp only [szA] at hz_w1); (try have := wz0 w w1); (try have := wz1 w w1); (try have := wz2 w w1); (try have := wz3 w w1); (try have := wz4 w w1)
      go_wp2_with fail
      refine (HL.out _).mono ?_
      rintro e w2 ⟨rfl, h2⟩
      obtain ⟨hc_w2, hf_w2, hz_w2⟩ := bcell h2; (try simp only [szA] at hz_w2); (try have := wz0 w w2); (try have := wz1 w w2); (try have := wz2 w w2); (try have := wz3 w w2); (try have := wz4 w w2)
      go_wp2_with fail
      refine (HS.out _).mono ?_
      rintro e w3 ⟨rfl, h3⟩
      obtain ⟨hc_w3, hf_w3, hz_w3⟩ := bcell h3; (try simp only [szA] at hz_w3); (try have := wz0 w w3); (try have := wz1 w w3); (try have := wz2 w w3); (try have := wz3 w w3); (try have := wz4 w w3)
      go_wp2_with fail
      go_ret
      exact ⟨rfl, ext_by⟩
set_option maxRecDepth 20000 in
set_option maxHeartbeats 2000000 in
theorem rCheckSet_c (A : Option Addr) (n c : Nat) (l : List Bx) (w : World) (hl : Bxs w A n l) :
    Calls Tryz.prog 40 #[.slice A n c] w fun e w' => e = .returned (.int .i64 (setErr l)) ∧ Ext w w' := by
  have hn := hl.le
  have hln := Lib.hid hl.len
  by_cases h512 : 512 < n
  · have hs : setErr l = 8 := by rw [setErr, if_pos (by have := hl.len; omega)]
    rw [hs]
    go_enter Tryz.func40, Tryz.ntmps40
    go_wp2_with fail
    go_ret
    exact ⟨rfl, ext_by⟩
  · obtain ⟨T, hT⟩ : ∃ T, setErr l = T := ⟨_, rfl⟩
    rw [hT]
    have hT2 : boxesErr l = T := by rw [← hT, setErr, if_neg (by have := hl.len; omega)]
    have HT := Lib.hid hT2
    clear hT hT2
    go_enter Tryz.func40, Tryz.ntmps40
    go_wp2_with fail
    go_loopw [3] (fun i wr => ∃ k : Nat, k ≤ n ∧ i = .int .i64 k ∧ Hid (boxesErr (l.drop k) = T) ∧ Ext w wr) (fun i _ => n - (intOf i).toNat)
    case atStart => exact ⟨0, Nat.zero_le _, rfl, HT.out, Ext.refl _⟩
    case round =>
      obtain ⟨k, hk, rfl, HI, hb⟩ := hrel
      by_cases hlt : k < n
      · obtain ⟨b, off, x, rfl, HD, hxm, hx⟩ := hl.one hlt
        obtain ⟨hx0, hx1, hx2, hx3, hx4, hx5, hx6, hx7⟩ := bxAt.ext hb hx
        have hbl : b < wr.heap.size := World.block_lt_of_cell? wr _ hx0
        have HC := Lib.hid fun W => rCheckBox_c x W
        have hi := HI.out
        rw [HD.out, boxesErr] at hi
        generalize bxErr x = E at *
        obtain ⟨⟨xl, xh⟩, ⟨yl, yh⟩, ⟨ul, uh⟩, vl, vh⟩ := x
        dsimp only at hx0 hx1 hx2 hx3 hx4 hx5 hx6 hx7 HC
        by_cases hE : E = 0
        · subst hE
          rw [if_pos rfl] at hi
          have Hi := Lib.hid hi
          clear hi
          go_wp2_with fail
          refine (HC.out _).mono ?_
          rintro e w1 ⟨rfl, h1⟩
          obtain ⟨hc_w1, hf_w1, hz_w1⟩ := bcell h1; (try simp only [szA] at hz_w1); (try have := wz0 w w1); (try have := wz1 w w1); (try have := wz2 w w1); (try have := wz3 w w1); (try have := wz4 w w1)
          go_wp2_with fail
          go_roundw
          case rel => exact ⟨k + 1, by omega, by go_num, Hi, ext_by⟩
          case measure => simp [intOf]; omega
        · rw [if_neg hE] at hi
          have Hi := Lib.hid hi
          have hEn : (E != 0) = true := by simpa using hE
          clear hi
          go_wp2_with fail
          refine (HC.out _).mono ?_
          rintro e w1 ⟨rfl, h1⟩
          obtain ⟨hc_w1, hf_w1, hz_w1⟩ := bcell h1; (try simp only [szA] at hz_w1); (try have := wz0 w w1); (try have := wz1 w w1); (try have := wz2 w w1); (try have := wz3 w w1); (try have := wz4 w w1)
          go_wp2_with fail
          go_ret
          exact ⟨ret_i Hi.out, ext_by⟩
      · have hkn : k = n := by omega
        have hi := HI.out
        rw [hkn, hln.out, List.drop_length] at hi
        have Hi := Lib.hid hi
        clear hi
        go_wp2_with fail
        go_ret
        exact ⟨ret_i Hi.out, hb⟩
end Go.Proofs.YtfniicgoeljmdaaGreat
