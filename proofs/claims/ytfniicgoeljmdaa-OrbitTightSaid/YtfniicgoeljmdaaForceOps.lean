/- The operations on spans that are small enough: the program. No condition. -/
import Derived.Test.YtfniicgoeljmdaaForceAsk
import Derived.Test.YtfniicgoeljmdaaForced
namespace Go.Proofs.Ytfniicgoeljmdaa
open Go.RowKit

set_option maxRecDepth 4000 in
set_option maxHeartbeats 1000000 in
theorem fAdd_c (A : Option Addr) (n c : Nat) (l : List Sp) (w : World) (hl : Sps w A n l) (hs : ∀ s ∈ l, Sm 72057594037927936 s) (h8 : l.length ≤ 8) :
    Calls Try.prog 51 #[.slice A n c] w fun e w' => e = .returned (.agg #[.int .i64 (l.foldl sumS ⟨0, 0⟩).lo, .int .i64 (l.foldl sumS ⟨0, 0⟩).hi]) ∧ Ext w w' := by
  have hn := hl.le
  have hln := Lib.hid hl.len
  obtain ⟨T, hT⟩ : ∃ T, l.foldl sumS ⟨0, 0⟩ = T := ⟨_, rfl⟩
  rw [hT]
  have HT := Lib.hid hT
  have HS := Lib.hid hs
  have H8 := Lib.hid h8
  clear hT hs h8
  go_enter Try.func51, Try.ntmps51
  go_wp2_with fail
  go_loopw [8] (fun i wr => ∃ (k : Nat) (o : Sp), k ≤ n ∧ i = .int .i64 k ∧ Hid ((l.drop k).foldl sumS o = T) ∧ Hid (Sm (k * 72057594037927936) o) ∧ Hid (Blk wr w.heap.size 32 #[.int .i64 0, .int .i64 0]) ∧ Hid (Blk wr (w.heap.size + 1) 32 #[.int .i64 o.lo, .int .i64 o.hi]) ∧ Ext w wr) (fun i _ => n - (intOf i).toNat)
  case atStart => exact ⟨0, ⟨0, 0⟩, Nat.zero_le _, rfl, HT.out, Lib.hid (by simp [Sm]), Lib.hid ((Blk.newAt rfl).alloc _), Lib.hid (Blk.newAt (by simp)), ext_by⟩
  case round =>
    obtain ⟨k, o, hk, rfl, HI, HO, HB0, HB1, hb⟩ := hrel
    have hc0 := HB0.out.cell
    have hc1 := HB1.out.cell
    have hf0 := HB0.out.frozen
    have hf1 := HB1.out.frozen
    have hl0 := HB0.out.lt
    have hl1 := HB1.out.lt
    by_cases hlt : k < n
    · obtain ⟨b, off, x, rfl, HD, hxm, hx⟩ := hl.one hlt
      obtain ⟨hx0, hx1⟩ := spAt.ext hb hx
      have hbl : b < wr.heap.size := World.block_lt_of_cell? wr _ hx0
      obtain ⟨ol, oh⟩ := o
      obtain ⟨xl, xh⟩ := x
      have hadd := addM_small HO.out (HS.out _ hxm) (by omega) (by omega) (by have := hln.out; have := H8.out; omega)
      have HA := Lib.hid fun W => Add_c ol oh xl xh W
      rw [hadd] at HA
      have hi := HI.out
      rw [HD.out, List.foldl_cons] at hi
      have hsm := HO.out.add (HS.out _ hxm)
      generalize sumS ⟨ol, oh⟩ ⟨xl, xh⟩ = N at *
      obtain ⟨nl, nh⟩ := N
      have Hi := Lib.hid hi
      have HSm := Lib.hid hsm
      clear hi hsm hadd hxm hx
      go_wp2_with fail
      refine (HA.out _).mono ?_
      rintro e w1 ⟨rfl, h1⟩
      have HB0' := Lib.hid ((HB0.out.alloc (.cells #[.int .i64 xl, .int .i64 xh] 32)).ext h1)
      have HB1' := Lib.hid ((HB1.out.alloc (.cells #[.int .i64 xl, .int .i64 xh] 32)).ext h1)
      have hE1 : Ext w w1 := ext_by
      clear hc0 hc1 hf0 hf1 h1 HB0 HB1
      have hc1 := HB1'.out.cell
      have hf1 := HB1'.out.frozen
      have hl1 := HB1'.out.lt
      go_wp2_with fail
      go_roundw
      case rel => exact ⟨k + 1, ⟨nl, nh⟩, by omega, by go_num, Hi, Lib.hid (HSm.out.mono (by push_cast; omega)), Lib.hid ((HB0'.out.far (by dsimp only; omega) _).far (by dsimp only; omega) _), Lib.hid ((HB1'.out.set_ 0 _).set_ 1 _), (hE1.set (by dsimp only; omega) _).set (by dsimp only; omega) _⟩
      case measure => simp [intOf]; omega
    · have hkn : k = n := by omega
      have hi := HI.out
      rw [hkn, hln.out, List.drop_length] at hi
      have hoT : o = T := hi
      subst hoT
      obtain ⟨ol, oh⟩ := o
      clear hi
      go_wp2_with fail
      (try simp only [Exit.inBlock, Exit.then]); apply bodyPost_ret; (focus (simp only [results, Try.results51]; go_simp; try rfl)); rfl
      exact ⟨rfl, (hb.set (by dsimp only; omega) _).set (by dsimp only; omega) _⟩
set_option maxHeartbeats 1000000 in
theorem fSub_c (al ah bl bh : Int) (w : World) :
    Calls Try.prog 71 #[.agg #[.int .i64 al, .int .i64 ah], .agg #[.int .i64 bl, .int .i64 bh]] w fun e w' => e = .returned (.agg #[.int .i64 (subS ⟨al, ah⟩ ⟨bl, bh⟩).lo, .int .i64 (subS ⟨al, ah⟩ ⟨bl, bh⟩).hi]) ∧ Ext w w' := by
  have H := Lib.hid fun W => Sub_c al ah bl bh W
  unfold subS
  generalize subM _ _ = R at *
  obtain ⟨⟨rl, rh⟩, re⟩ := R
  go_enter Try.func71, Try.ntmps71
  go_wp2_with fail
  refine (H.out _).mono ?_
  rintro e w1 ⟨rfl, h1⟩
  obtain ⟨hc_w1, hf_w1, hz_w1⟩ := bcell h1; (try simp only [szA] at hz_w1); (try have := wz0 w w1); (try have := wz1 w w1); (try have := wz2 w w1); (try have := wz3 w w1); (try have := wz4 w w1)
  go_wp2_with fail
  (try simp only [Exit.inBlock, Exit.then]); apply bodyPost_ret; (focus (simp only [results, Try.results71]; go_simp; try rfl)); rfl
  exact ⟨rfl, ext_by⟩
set_option maxHeartbeats 1000000 in
theorem fMul_c (al ah bl bh : Int) (w : World) :
    Calls Try.prog 64 #[.agg #[.int .i64 al, .int .i64 ah], .agg #[.int .i64 bl, .int .i64 bh]] w fun e w' => e = .returned (.agg #[.int .i64 (mulS ⟨al, ah⟩ ⟨bl, bh⟩).lo, .int .i64 (mulS ⟨al, ah⟩ ⟨bl, bh⟩).hi]) ∧ Ext w w' := by
  have H := Lib.hid fun W => spMul_c al ah bl bh W
  unfold mulS
  generalize mulM _ _ = R at *
  obtain ⟨⟨rl, rh⟩, re⟩ := R
  go_enter Try.func64, Try.ntmps64
  go_wp2_with fail
  refine (H.out _).mono ?_
  rintro e w1 ⟨rfl, h1⟩
  obtain ⟨hc_w1, hf_w1, hz_w1⟩ := bcell h1; (try simp only [szA] at hz_w1); (try have := wz0 w w1); (try have := wz1 w w1); (try have := wz2 w w1); (try have := wz3 w w1); (try have := wz4 w w1)
  go_wp2_with fail
  (try simp only [Exit.inBlock, Exit.then]); apply bodyPost_ret; (focus (simp only [results, Try.results64]; go_simp; try rfl)); rfl
  exact ⟨rfl, ext_by⟩
set_option maxHeartbeats 1000000 in
theorem fQuot_c (al ah bl bh : Int) (w : World) :
    Calls Try.prog 63 #[.agg #[.int .i64 al, .int .i64 ah], .agg #[.int .i64 bl, .int .i64 bh]] w fun e w' => e = .returned (.agg #[.int .i64 (quotS ⟨al, ah⟩ ⟨bl, bh⟩).lo, .int .i64 (quotS ⟨al, ah⟩ ⟨bl, bh⟩).hi]) ∧ Ext w w' := by
  have H := Lib.hid fun W => spQuot_c al ah bl bh W
  unfold quotS
  generalize quotM _ _ = R at *
  obtain ⟨⟨rl, rh⟩, re⟩ := R
  go_enter Try.func63, Try.ntmps63
  go_wp2_with fail
  refine (H.out _).mono ?_
  rintro e w1 ⟨rfl, h1⟩
  obtain ⟨hc_w1, hf_w1, hz_w1⟩ := bcell h1; (try simp only [szA] at hz_w1); (try have := wz0 w w1); (try have := wz1 w w1); (try have := wz2 w w1); (try have := wz3 w w1); (try have := wz4 w w1)
  go_wp2_with fail
  (try simp only [Exit.inBlock, Exit.then]); apply bodyPost_ret; (focus (simp only [results, Try.results63]; go_simp; try rfl)); rfl
  exact ⟨rfl, ext_by⟩
set_option maxHeartbeats 1000000 in
theorem fSquare_c (lo hi : Int) (w : World) :
    Calls Try.prog 68 #[.agg #[.int .i64 lo, .int .i64 hi]] w fun e w' => e = .returned (.agg #[.int .i64 (squareS ⟨lo, hi⟩).lo, .int .i64 (squareS ⟨lo, hi⟩).hi]) ∧ Ext w w' := by
  have H := Lib.hid fun W => spSquare_c lo hi W
  unfold squareS
  generalize squareM _ = R at *
  obtain ⟨⟨rl, rh⟩, re⟩ := R
  go_enter Try.func68, Try.ntmps68
  go_wp2_with fail
  refine (H.out _).mono ?_
  rintro e w1 ⟨rfl, h1⟩
  obtain ⟨hc_w1, hf_w1, hz_w1⟩ := bcell h1; (try simp only [szA] at hz_w1); (try have := wz0 w w1); (try have := wz1 w w1); (try have := wz2 w w1); (try have := wz3 w w1); (try have := wz4 w w1)
  go_wp2_with fail
  (try simp only [Exit.inBlock, Exit.then]); apply bodyPost_ret; (focus (simp only [results, Try.results68]; go_simp; try rfl)); rfl
  exact ⟨rfl, ext_by⟩
set_option maxHeartbeats 400000 in
theorem fOne_c (n : Int) (w : World) :
    Calls Try.prog 54 #[.int .i64 n] w fun e w' => e = .returned (.agg #[.int .i64 n, .int .i64 n]) ∧ Ext w w' := by
  go_enter Try.func54, Try.ntmps54
  go_wp2_with fail
  (try simp only [Exit.inBlock, Exit.then]); apply bodyPost_ret; (focus (simp only [results, Try.results54]; go_simp; try rfl)); rfl
  exact ⟨rfl, ext_by⟩
set_option maxHeartbeats 1000000 in
theorem fMinus_c (lo hi : Int) (w : World) (h : -1152921504606846976 ≤ lo ∧ lo ≤ 1152921504606846976 ∧ -1152921504606846976 ≤ hi ∧ hi ≤ 1152921504606846976) :
    Calls Try.prog 52 #[.agg #[.int .i64 lo, .int .i64 hi]] w fun e w' => e = .returned (.agg #[.int .i64 (-hi), .int .i64 (-lo)]) ∧ Ext w w' := by
  obtain ⟨h1, h2, h3, h4⟩ := h
  go_enter Try.func52, Try.ntmps52
  go_wp2_with fail
  (try simp only [Exit.inBlock, Exit.then]); apply bodyPost_ret; (focus (simp only [results, Try.results52]; go_simp; try rfl)); rfl
  exact ⟨rfl, ext_by⟩
set_option maxHeartbeats 1000000 in
theorem fClamp_c (lo hi : Int) (w : World) :
    Calls Try.prog 73 #[.agg #[.int .i64 lo, .int .i64 hi]] w fun e w' => e = .returned (.agg #[.int .i64 (clampI lo), .int .i64 (clampI hi)]) ∧ Ext w w' := by
  unfold clampI
  go_enter Try.func73, Try.ntmps73
  go_wp2_with fail
  (try simp only [Exit.inBlock, Exit.then]); apply bodyPost_ret; (focus (simp only [results, Try.results73]; go_simp; try rfl)); rfl
  exact ⟨rfl, ext_by⟩
set_option maxHeartbeats 1000000 in
theorem fEdge_c (mu r : Int) (A : Option Addr) (n c : Nat) (px py : Int) (w : World) (hr : 0 ≤ r ∧ r ≤ 1048576) :
    Calls Try.prog 69 #[.agg #[.int .i64 mu, .int .i64 r, .slice A n c, .int .i64 px, .int .i64 py]] w fun e w' => e = .returned (.int .i64 (edgeM r)) ∧ Ext w w' := by
  have m1 : r * r ≤ 1099511627776 := Int.mul_le_mul hr.2 hr.2 hr.1 (by omega)
  have m0 : 0 ≤ r * r := Int.mul_nonneg hr.1 hr.1
  unfold edgeM
  obtain ⟨h1, h2⟩ := hr
  go_enter Try.func69, Try.ntmps69
  go_wp2_with fail
  go_ret
  exact ⟨rfl, ext_by⟩
end Go.Proofs.Ytfniicgoeljmdaa
