/- Wide products of the reference, and their quotients. No condition. -/
import Derived.Test.YtiladlangkjoiaaGreatSpanRoot
import Derived.Test.YtiladlangkjoiaaGreatRefSpan
namespace Go.Proofs.YtiladlangkjoiaaGreat
open Go.RowKit

set_option maxHeartbeats 400000 in
theorem rSize_c (n : Int) (w : World) (h : isI64 n) :
    Calls Tryz.prog 344 #[.int .i64 n] w fun e w' => e = .returned (.int .u64 (n.natAbs : Int)) ∧ Ext w w' := by
  obtain ⟨e1, e2⟩ := size_eqs h
  generalize (n.natAbs : Int) = m at *
  rcases Int.lt_or_le n 0 with hn | hn
  · obtain ⟨a, e1, e3⟩ := e1 hn
    clear e2 h
    go_enter Tryz.func344, Tryz.ntmps344
    go_wp2_with fail
    go_ret
    exact ⟨rfl, ext_by⟩
  · have e2 := e2 hn
    clear e1 h
    go_enter Tryz.func344, Tryz.ntmps344
    go_wp2_with fail
    go_ret
    exact ⟨rfl, ext_by⟩
def negM (a b : Int) : Bool := (decide (a < 0) != decide (b < 0)) && decide (a.natAbs * b.natAbs ≠ 0)
set_option maxHeartbeats 1000000 in
theorem rWideOf_c (a b : Int) (w : World) (ha : isI64 a) (hb : isI64 b) :
    Calls Tryz.prog 319 #[.int .i64 a, .int .i64 b] w fun e w' => e = .returned (.agg #[.bool (negM a b), .int .u64 ((a.natAbs * b.natAbs / 18446744073709551616 : Nat) : Int), .int .u64 ((a.natAbs * b.natAbs % 18446744073709551616 : Nat) : Int)]) ∧ Ext w w' := by
  have H1 := Lib.hid fun W => rSize_c a W ha
  have H2 := Lib.hid fun W => rSize_c b W hb
  obtain ⟨ha1, ha2⟩ := ha
  obtain ⟨hb1, hb2⟩ := hb
  have H3 := Lib.hid fun W => bMul64_c a.natAbs b.natAbs (by omega) (by omega) W
  have hn : negM a b = ((decide (a < 0) != decide (b < 0)) && (decide (0 < a.natAbs * b.natAbs / 18446744073709551616) || decide (0 < a.natAbs * b.natAbs % 18446744073709551616))) := by
    unfold negM
    congr 1
    generalize a.natAbs * b.natAbs = n
    rw [Bool.eq_iff_iff]
    simp only [decide_eq_true_eq, Bool.or_eq_true]
    omega
  rw [hn]
  clear hn
  generalize a.natAbs * b.natAbs / 18446744073709551616 = hi at *
  generalize a.natAbs * b.natAbs % 18446744073709551616 = lo at *
  generalize (a.natAbs : Int) = na at *
  generalize (b.natAbs : Int) = nb at *
  clear ha1 ha2 hb1 hb2
  obtain ⟨hz, hhz⟩ : ∃ z : Int, z = hi := ⟨_, rfl⟩
  obtain ⟨lz, hlz⟩ : ∃ z : Int, z = lo := ⟨_, rfl⟩
  have e1 : decide (0 < hi) = decide (0 < hz) := by simp; omega
  have e2 : decide (0 < lo) = decide (0 < lz) := by simp; omega
  rw [e1, e2, ← hhz, ← hlz]
  rw [← hhz, ← hlz] at H3
  have p1 : 0 ≤ hz := by omega
  have p2 : 0 ≤ lz := by omega
  clear hhz hlz e1 e2
  rcases (show (a < 0 ∧ decide (a < 0) = true) ∨ (0 ≤ a ∧ decide (a < 0) = false) by simp; omega) with ⟨ha, had⟩ | ⟨ha, had⟩
  all_goals rcases (show (b < 0 ∧ decide (b < 0) = true) ∨ (0 ≤ b ∧ decide (b < 0) = false) by simp; omega) with ⟨hb, hbd⟩ | ⟨hb, hbd⟩
  all_goals rcases (show (0 < hz ∧ decide (0 < hz) = true) ∨ (hz ≤ 0 ∧ decide (0 < hz) = false) by simp; omega) with ⟨hc, hcd⟩ | ⟨hc, hcd⟩
  all_goals rcases (show (0 < lz ∧ decide (0 < lz) = true) ∨ (lz ≤ 0 ∧ decide (0 < lz) = false) by simp; omega) with ⟨hd, hdd⟩ | ⟨hd, hdd⟩
  all_goals rw [had, hbd, hcd, hdd]
  all_goals have Ha := Lib.hid had
  all_goals have Hb := Lib.hid hbd
  all_goals have Hc := Lib.hid hcd
  all_goals have Hd := Lib.hid hdd
  all_goals clear had hbd hcd hdd
  all_goals
    go_enter Tryz.func319, Tryz.ntmps319
    go_wp2_with fail
    refine (H1.out _).mono ?_
    rintro e w1 ⟨rfl, h1⟩
    obtain ⟨hc_w1, hf_w1, hz_w1⟩ := bcell h1; (try simp only [szA] at hz_w1); (try have := wz0 w w1); (try have := wz1 w w1); (try have := wz2 w w1); (try have := wz3 w w1); (try have := wz4 w w1)
    go_wp2_with fail
    refine (H2.out _).mono ?_
    rintro e w2 ⟨rfl, h2⟩
    obtain ⟨hc_w2, hf_w2, hz_w2⟩ := bcell h2; (try simp only [szA] at hz_w2); (try have := wz0 w w2); (try have := wz1 w w2); (try have := wz2 w w2); (try have := wz3 w w2); (try have := wz4 w w2)
    go_wp2_with fail
    refine (H3.out _).mono ?_
    rintro e _ ⟨rfl, rfl⟩
    go_wp2_with fail
    (try simp only [Exit.inBlock, Exit.then]); apply bodyPost_ret; (focus (simp only [results, Tryz.results319]; go_simp; try rfl)); rfl
    refine ⟨ret_v ?_, ext_by⟩
    (try simp only [Ha.out, Hb.out, Hc.out, Hd.out]) <;> rfl
theorem quo_neg (s : Bool) (c : Bool) (n d : Nat) (_ : 0 < d) : quoM ((s && decide (n ≠ 0)) != c) n d = quoM (s != c) n d := by
  by_cases hn : n = 0
  · subst hn
    have h0 : ∀ b, quoM b 0 d = ⟨0, 0, 0⟩ := by
      intro b
      unfold quoM
      rw [Nat.zero_div, Nat.zero_mod, if_neg (by decide)]
      cases b <;> rfl
    rw [h0, h0]
  · simp [hn]
def quoB (q : Quo) : Value := .tuple #[.int .i64 q.lo, .int .i64 q.hi, .bool (decide (q.e = 0))]
set_option maxHeartbeats 2000000 in
theorem rQuotient_c (hi lo : Nat) (neg : Bool) (c : Int) (w : World) (hlo : lo < 18446744073709551616) (hc : isI64 c) (h0 : c ≠ 0) :
    Calls Tryz.prog 320 #[.agg #[.bool neg, .int .u64 (hi : Int), .int .u64 (lo : Int)], .int .i64 c] w fun e w' => e = .returned (quoB (quoM (neg != decide (c < 0)) (hi * 18446744073709551616 + lo) c.natAbs)) ∧ Ext w w' := by
  have H1 := Lib.hid fun W => rSize_c c W hc
  obtain ⟨d, hd⟩ : ∃ d : Nat, d = c.natAbs := ⟨_, rfl⟩
  rw [← hd] at H1 ⊢
  have hd0 : 0 < d := by omega
  have hd1 : d < 18446744073709551616 := by unfold isI64 at hc; omega
  clear hd hc h0
  rcases Nat.lt_or_ge hi d with hh | hh
  · have H2 := Lib.hid fun W => bDiv64_c hi lo d hh hd1 hlo W
    unfold quoM
    generalize (hi * 18446744073709551616 + lo) / d = q at *
    generalize (hi * 18446744073709551616 + lo) % d = r at *
    obtain ⟨hz, hhz⟩ : ∃ z : Int, z = hi := ⟨_, rfl⟩
    obtain ⟨dz, hdz⟩ : ∃ z : Int, z = d := ⟨_, rfl⟩
    have hlt : ¬ dz ≤ hz := by omega
    obtain ⟨lz, hlz⟩ : ∃ z : Int, z = lo := ⟨_, rfl⟩
    obtain ⟨qz, hqz⟩ : ∃ z : Int, z = q := ⟨_, rfl⟩
    obtain ⟨rz, hrz⟩ : ∃ z : Int, z = r := ⟨_, rfl⟩
    rw [← hhz] at H2 ⊢
    rw [← hlz] at H2 ⊢
    rw [← hdz] at H1 H2
    rw [← hqz, ← hrz] at H2
    clear hh hd1 hlo hd0 hhz hlz hdz
    have hq0 : 0 ≤ qz := by omega
    have hr0 : 0 ≤ rz := by omega
    have Hres : Hid (∀ b : Bool, (b = (neg != decide (c < 0))) → ∀ lo' hi' e' : Int, ((1152921504606846976 < qz ∨ 1152921504606846976 < qz + 1 ∧ 0 < rz) ∧ lo' = 0 ∧ hi' = 0 ∧ e' = 14 ∨ (qz ≤ 1152921504606846976 ∧ e' = 0 ∧ ((rz = 0 ∧ (b = true ∧ lo' = -qz ∧ hi' = -qz ∨ b = false ∧ lo' = qz ∧ hi' = qz)) ∨ (0 < rz ∧ qz + 1 ≤ 1152921504606846976 ∧ (b = true ∧ lo' = -(qz + 1) ∧ hi' = -qz ∨ b = false ∧ lo' = qz ∧ hi' = qz + 1))))) →
        quoB ⟨lo', hi', e'⟩ = quoB (if 1152921504606846976 < q + (if r = 0 then 0 else 1) then ⟨0, 0, 14⟩ else if neg != decide (c < 0) then ⟨-((q + (if r = 0 then 0 else 1) : Nat) : Int), -(q : Int), 0⟩ else ⟨(q : Int), ((q + (if r = 0 then 0 else 1) : Nat) : Int), 0⟩)) := Lib.hid (by
      rintro b rfl lo' hi' e' h
      generalize (neg != decide (c < 0)) = b at *
      rcases h with ⟨h, rfl, rfl, rfl⟩ | ⟨h1, rfl, ⟨h2, h3⟩ | ⟨h2, h4, h3⟩⟩
      · rw [if_pos]
        split <;> omega
      · rw [if_neg (by split <;> omega), if_pos (show r = 0 by omega)]
        rcases h3 with ⟨rfl, rfl, rfl⟩ | ⟨rfl, rfl, rfl⟩
        · simp [hqz]
        · simp [hqz]
      · rw [if_neg (by split <;> omega), if_neg (show ¬ r = 0 by omega)]
        rcases h3 with ⟨rfl, rfl, rfl⟩ | ⟨rfl, rfl, rfl⟩
        · simp [hqz]
        · simp [hqz])
    generalize quoB (if 1152921504606846976 < q + (if r = 0 then 0 else 1) then ⟨0, 0, 14⟩ else if neg != decide (c < 0) then ⟨-((q + (if r = 0 then 0 else 1) : Nat) : Int), -(q : Int), 0⟩ else ⟨(q : Int), ((q + (if r = 0 then 0 else 1) : Nat) : Int), 0⟩) = R at *
    clear hqz hrz
    rcases Int.lt_or_le 1152921504606846976 qz with hA | hA
    · go_enter Tryz.func320, Tryz.ntmps320
      go_wp2_with fail
      refine (H1.out _).mono ?_
      rintro e w1 ⟨rfl, h1⟩
      obtain ⟨hc_w1, hf_w1, hz_w1⟩ := bcell h1; (try simp only [szA] at hz_w1); (try have := wz0 w w1); (try have := wz1 w w1); (try have := wz2 w w1); (try have := wz3 w w1); (try have := wz4 w w1)
      go_wp2_with fail
      refine (H2.out _).mono ?_
      rintro e w2 ⟨rfl, h2⟩
      obtain ⟨hc_w2, hf_w2, hz_w2⟩ := bcell h2; (try simp only [szA] at hz_w2); (try have := wz0 w w2); (try have := wz1 w w2); (try have := wz2 w w2); (try have := wz3 w w2); (try have := wz4 w w2)
      go_wp2_with fail
      (try simp only [Exit.inBlock, Exit.then]); apply bodyPost_ret; (focus (simp only [results, Tryz.results320]; go_simp; try rfl)); rfl
      refine ⟨ret_v (Hres.out _ rfl 0 0 14 (by omega)), ext_by⟩
    · rcases (show rz = 0 ∨ (0 < rz ∧ qz < 1152921504606846976) ∨ (0 < rz ∧ qz = 1152921504606846976) by omega) with rfl | ⟨hr, hB⟩ | ⟨hr, rfl⟩
      rotate_right
      · clear hA hq0
        go_enter Tryz.func320, Tryz.ntmps320
        go_wp2_with fail
        refine (H1.out _).mono ?_
        rintro e w1 ⟨rfl, h1⟩
        obtain ⟨hc_w1, hf_w1, hz_w1⟩ := bcell h1; (try simp only [szA] at hz_w1); (try have := wz0 w w1); (try have := wz1 w w1); (try have := wz2 w w1); (try have := wz3 w w1); (try have := wz4 w w1)
        go_wp2_with fail
        refine (H2.out _).mono ?_
        rintro e w2 ⟨rfl, h2⟩
        obtain ⟨hc_w2, hf_w2, hz_w2⟩ := bcell h2; (try simp only [szA] at hz_w2); (try have := wz0 w w2); (try have := wz1 w w2); (try have := wz2 w w2); (try have := wz3 w w2); (try have := wz4 w w2)
        go_wp2_with fail
        (try simp only [Exit.inBlock, Exit.then]); apply bodyPost_ret; (focus (simp only [results, Tryz.results320]; go_simp; try rfl)); rfl
        refine ⟨ret_v (Hres.out _ rfl 0 0 14 (by omega)), ext_by⟩
      all_goals rcases (show (c < 0 ∧ decide (c < 0) = true) ∨ (0 ≤ c ∧ decide (c < 0) = false) by simp; omega) with ⟨hc, hcd⟩ | ⟨hc, hcd⟩
      all_goals cases neg
      all_goals
        go_enter Tryz.func320, Tryz.ntmps320
        go_wp2_with fail
        refine (H1.out _).mono ?_
        rintro e w1 ⟨rfl, h1⟩
        obtain ⟨hc_w1, hf_w1, hz_w1⟩ := bcell h1; (try simp only [szA] at hz_w1); (try have := wz0 w w1); (try have := wz1 w w1); (try have := wz2 w w1); (try have := wz3 w w1); (try have := wz4 w w1)
        go_wp2_with fail
        refine (H2.out _).mono ?_
        rintro e w2 ⟨rfl, h2⟩
        obtain ⟨hc_w2, hf_w2, hz_w2⟩ := bcell h2; (try simp only [szA] at hz_w2); (try have := wz0 w w2); (try have := wz1 w w2); (try have := wz2 w w2); (try have := wz3 w w2); (try have := wz4 w w2)
        go_wp2_with fail
      all_goals (try simp only [Exit.inBlock, Exit.then]); apply bodyPost_ret; (focus (simp only [results, Tryz.results320]; go_simp; try rfl)); rfl
      all_goals refine ⟨ret_v (Hres.out _ rfl _ _ 0 ?_), ext_by⟩
      all_goals (simp <;> omega)
  · rw [quo_high hd0 hh]
    have hle : (d : Int) ≤ (hi : Int) := by omega
    generalize (d : Int) = dz at *
    generalize (hi : Int) = hz at *
    generalize (lo : Int) = lz at *
    clear hh hd1 hlo hd0
    go_enter Tryz.func320, Tryz.ntmps320
    go_wp2_with fail
    refine (H1.out _).mono ?_
    rintro e w1 ⟨rfl, h1⟩
    obtain ⟨hc_w1, hf_w1, hz_w1⟩ := bcell h1; (try simp only [szA] at hz_w1); (try have := wz0 w w1); (try have := wz1 w w1); (try have := wz2 w w1); (try have := wz3 w w1); (try have := wz4 w w1)
    go_wp2_with fail
    (try simp only [Exit.inBlock, Exit.then]); apply bodyPost_ret; (focus (simp only [results, Tryz.results320]; go_simp; try rfl)); rfl
    exact ⟨rfl, ext_by⟩
theorem rMulDiv_in (x y c : Int) (w : World) (hc : isI64 c) (h0 : c ≠ 0) :
    Calls Tryz.prog 320 #[.agg #[.bool (negM x y), .int .u64 ((x.natAbs * y.natAbs / 18446744073709551616 : Nat) : Int), .int .u64 ((x.natAbs * y.natAbs % 18446744073709551616 : Nat) : Int)], .int .i64 c] w fun e w' => e = .returned (quoB (mulDivM x y c)) ∧ Ext w w' := by
  have := rQuotient_c (x.natAbs * y.natAbs / 18446744073709551616) (x.natAbs * y.natAbs % 18446744073709551616) (negM x y) c w (by omega) hc h0
  rw [divmod_eq] at this
  unfold negM at this ⊢
  rw [quo_neg _ _ _ _ (by omega)] at this
  exact this
end Go.Proofs.YtiladlangkjoiaaGreat
