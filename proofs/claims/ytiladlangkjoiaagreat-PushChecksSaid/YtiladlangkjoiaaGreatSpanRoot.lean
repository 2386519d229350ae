/- Wide products and their quotients, rounded down and up: the program. No condition. Spans that are multiplied and divided: the plain law. No condition. Roots: the program. No condition. -/
import Derived.Test.YtiladlangkjoiaaGreatBig
import Derived.Test.YtiladlangkjoiaaGreatDiv64
import Derived.Test.YtiladlangkjoiaaGreatWideLaw
namespace Go.Proofs.YtiladlangkjoiaaGreat
open Go.RowKit

structure Quo where
  lo : Int
  hi : Int
  e : Int
abbrev quoV (q : Quo) : Value := .tuple #[.int .i64 q.lo, .int .i64 q.hi, .int .i64 q.e]
def quoM (neg : Bool) (n d : Nat) : Quo :=
  if 1152921504606846976 < n / d + (if n % d = 0 then 0 else 1) then ⟨0, 0, 14⟩
  else if neg then ⟨-((n / d + (if n % d = 0 then 0 else 1) : Nat) : Int), -((n / d : Nat) : Int), 0⟩ else ⟨((n / d : Nat) : Int), ((n / d + (if n % d = 0 then 0 else 1) : Nat) : Int), 0⟩
def isI64 (n : Int) : Prop := -9223372036854775808 ≤ n ∧ n ≤ 9223372036854775807

theorem size_eqs {n : Int} (h : isI64 n) : (n < 0 → ∃ a : Int, IntKind.u64.wrap n = a ∧ IntKind.u64.wrap (-a) = (n.natAbs : Int)) ∧ (0 ≤ n → IntKind.u64.wrap n = (n.natAbs : Int)) := by
  obtain ⟨h1, h2⟩ := h
  refine ⟨fun h => ⟨n + 18446744073709551616, ?_, ?_⟩, fun h => ?_⟩
  all_goals rw [IntKind.wrap_u64]
  all_goals omega
set_option maxHeartbeats 400000 in
theorem spSize_c (n : Int) (w : World) (h : isI64 n) :
    Calls Tryz.prog 278 #[.int .i64 n] w fun e w' => e = .returned (.int .u64 (n.natAbs : Int)) ∧ Ext w w' := by
  obtain ⟨e1, e2⟩ := size_eqs h
  generalize (n.natAbs : Int) = m at *
  rcases Int.lt_or_le n 0 with hn | hn
  · obtain ⟨a, e1, e3⟩ := e1 hn
    clear e2 h
    go_enter Tryz.func278, Tryz.ntmps278
    go_wp2_with fail
    go_ret
    exact ⟨rfl, ext_by⟩
  · have e2 := e2 hn
    clear e1 h
    go_enter Tryz.func278, Tryz.ntmps278
    go_wp2_with fail
    go_ret
    exact ⟨rfl, ext_by⟩
set_option maxHeartbeats 400000 in
theorem spTimes_c (x y : Nat) (hx : x < 18446744073709551616) (hy : y < 18446744073709551616) (w : World) :
    Calls Tryz.prog 279 #[.int .u64 (x : Int), .int .u64 (y : Int)] w fun e w' => e = .returned (.agg #[.int .u64 ((x * y / 18446744073709551616 : Nat) : Int), .int .u64 ((x * y % 18446744073709551616 : Nat) : Int)]) ∧ Ext w w' := by
  have H := Lib.hid fun W => bMul64_c x y hx hy W
  generalize x * y / 18446744073709551616 = hi at *
  generalize x * y % 18446744073709551616 = lo at *
  clear hx hy
  go_enter Tryz.func279, Tryz.ntmps279
  go_wp2_with fail
  refine (H.out _).mono ?_
  rintro e _ ⟨rfl, rfl⟩
  go_wp2_with fail
  (try simp only [Exit.inBlock, Exit.then]); apply bodyPost_ret; (focus (simp only [results, Tryz.results279]; go_simp; try rfl)); rfl
  exact ⟨rfl, ext_by⟩
set_option maxHeartbeats 1000000 in
theorem spProduct_c (a b : Int) (w : World) (ha : isI64 a) (hb : isI64 b) :
    Calls Tryz.prog 236 #[.int .i64 a, .int .i64 b] w fun e w' => e = .returned (.agg #[.int .u64 ((a.natAbs * b.natAbs / 18446744073709551616 : Nat) : Int), .int .u64 ((a.natAbs * b.natAbs % 18446744073709551616 : Nat) : Int), .bool (decide (a < 0) != decide (b < 0))]) ∧ Ext w w' := by
  have H1 := Lib.hid fun W => spSize_c a W ha
  have H2 := Lib.hid fun W => spSize_c b W hb
  obtain ⟨ha1, ha2⟩ := ha
  obtain ⟨hb1, hb2⟩ := hb
  have H3 := Lib.hid fun W => spTimes_c a.natAbs b.natAbs (by omega) (by omega) W
  generalize a.natAbs * b.natAbs / 18446744073709551616 = hi at *
  generalize a.natAbs * b.natAbs % 18446744073709551616 = lo at *
  generalize (a.natAbs : Int) = na at *
  generalize (b.natAbs : Int) = nb at *
  clear ha1 ha2 hb1 hb2
  go_enter Tryz.func236, Tryz.ntmps236
  go_wp2_with fail
  refine (H1.out _).mono ?_
  rintro e w1 ⟨rfl, h1⟩
  obtain ⟨hc_w1, hf_w1, hz_w1⟩ := bcell h1; (try simp only [szA] at hz_w1); (try have := wz0 w w1); (try have := wz1 w w1); (try have := wz2 w w1); (try have := wz3 w w1); (try have := wz4 w w1)
  go_wp2_with fail
  refine (H2.out _).mono ?_
  rintro e w2 ⟨rfl, h2⟩
  obtain ⟨hc_w2, hf_w2, hz_w2⟩ := bcell h2; (try simp only [szA] at hz_w2); (try have := wz0 w w2); (try have := wz1 w w2); (try have := wz2 w w2); (try have := wz3 w w2); (try have := wz4 w w2)
  go_wp2_with fail
  refine (H3.out _).mono ?_
  rintro e w3 ⟨rfl, h3⟩
  obtain ⟨hc_w3, hf_w3, hz_w3⟩ := bcell h3; (try simp only [szA] at hz_w3); (try have := wz0 w w3); (try have := wz1 w w3); (try have := wz2 w w3); (try have := wz3 w w3); (try have := wz4 w w3)
  go_wp2_with fail
  (try simp only [Exit.inBlock, Exit.then]); apply bodyPost_ret; (focus (simp only [results, Tryz.results236]; go_simp; try rfl)); rfl
  refine ⟨ret_v ?_, ext_by⟩
  cases decide (a < 0) <;> cases decide (b < 0) <;> rfl
theorem quo_high {neg : Bool} {hi lo d : Nat} (hd : 0 < d) (h : d ≤ hi) : quoM neg (hi * 18446744073709551616 + lo) d = ⟨0, 0, 14⟩ := by
  have : 18446744073709551616 ≤ (hi * 18446744073709551616 + lo) / d := by
    rw [Nat.le_div_iff_mul_le hd]
    have := Nat.mul_le_mul_left 18446744073709551616 h
    omega
  unfold quoM
  rw [if_pos (by omega)]
set_option maxHeartbeats 1000000 in
theorem spDivide_c (hi lo : Nat) (neg : Bool) (c : Int) (w : World) (hlo : lo < 18446744073709551616) (hc : isI64 c) (h0 : c ≠ 0) :
    Calls Tryz.prog 237 #[.agg #[.int .u64 (hi : Int), .int .u64 (lo : Int), .bool neg], .int .i64 c] w fun e w' => e = .returned (quoV (quoM (neg != decide (c < 0)) (hi * 18446744073709551616 + lo) c.natAbs)) ∧ Ext w w' := by
  have H1 := Lib.hid fun W => spSize_c c W hc
  obtain ⟨d, hd⟩ : ∃ d : Nat, d = c.natAbs := ⟨_, rfl⟩
  rw [← hd] at H1 ⊢
  have hd0 : 0 < d := by omega
  have hd1 : d < 18446744073709551616 := by unfold isI64 at hc; omega
  clear hd hc h0
  rcases Nat.lt_or_ge hi d with hh | hh
  · have H2 := Lib.hid fun W => bDiv64_c hi lo d hh hd1 hlo W
    unfold quoM
    generalize (hi * 18446744073709551616 + lo) / d = q at *
    generalize (hi * 18446744073709551616 + lo) % d = r at *
    obtain ⟨hz, hhz⟩ : ∃ z : Int, z = hi := ⟨_, rfl⟩
    obtain ⟨dz, hdz⟩ : ∃ z : Int, z = d := ⟨_, rfl⟩
    have hlt : ¬ dz ≤ hz := by omega
    obtain ⟨lz, hlz⟩ : ∃ z : Int, z = lo := ⟨_, rfl⟩
    obtain ⟨qz, hqz⟩ : ∃ z : Int, z = q := ⟨_, rfl⟩
    obtain ⟨rz, hrz⟩ : ∃ z : Int, z = r := ⟨_, rfl⟩
    rw [← hhz] at H2 ⊢
    rw [← hlz] at H2 ⊢
    rw [← hdz] at H1 H2
    rw [← hqz, ← hrz] at H2
    clear hh hd1 hlo hd0 hhz hlz hdz
    have hq0 : 0 ≤ qz := by omega
    have hr0 : 0 ≤ rz := by omega
    have Hres : Hid (∀ b : Bool, (b = (neg != decide (c < 0))) → ∀ lo' hi' e' : Int, ((1152921504606846976 < qz ∨ 1152921504606846976 < qz + 1 ∧ 0 < rz) ∧ lo' = 0 ∧ hi' = 0 ∧ e' = 14 ∨ (qz ≤ 1152921504606846976 ∧ e' = 0 ∧ ((rz = 0 ∧ (b = true ∧ lo' = -qz ∧ hi' = -qz ∨ b = false ∧ lo' = qz ∧ hi' = qz)) ∨ (0 < rz ∧ qz + 1 ≤ 1152921504606846976 ∧ (b = true ∧ lo' = -(qz + 1) ∧ hi' = -qz ∨ b = false ∧ lo' = qz ∧ hi' = qz + 1))))) →
        quoV ⟨lo', hi', e'⟩ = quoV (if 1152921504606846976 < q + (if r = 0 then 0 else 1) then ⟨0, 0, 14⟩ else if neg != decide (c < 0) then ⟨-((q + (if r = 0 then 0 else 1) : Nat) : Int), -(q : Int), 0⟩ else ⟨(q : Int), ((q + (if r = 0 then 0 else 1) : Nat) : Int), 0⟩)) := Lib.hid (by
      rintro b rfl lo' hi' e' h
      generalize (neg != decide (c < 0)) = b at *
      rcases h with ⟨h, rfl, rfl, rfl⟩ | ⟨h1, rfl, ⟨h2, h3⟩ | ⟨h2, h4, h3⟩⟩
      · rw [if_pos]
        split <;> omega
      · rw [if_neg (by split <;> omega), if_pos (show r = 0 by omega)]
        rcases h3 with ⟨rfl, rfl, rfl⟩ | ⟨rfl, rfl, rfl⟩
        · simp [hqz]
        · simp [hqz]
      · rw [if_neg (by split <;> omega), if_neg (show ¬ r = 0 by omega)]
        rcases h3 with ⟨rfl, rfl, rfl⟩ | ⟨rfl, rfl, rfl⟩
        · simp [hqz]
        · simp [hqz])
    generalize quoV (if 1152921504606846976 < q + (if r = 0 then 0 else 1) then ⟨0, 0, 14⟩ else if neg != decide (c < 0) then ⟨-((q + (if r = 0 then 0 else 1) : Nat) : Int), -(q : Int), 0⟩ else ⟨(q : Int), ((q + (if r = 0 then 0 else 1) : Nat) : Int), 0⟩) = R at *
    clear hqz hrz
    rcases Int.lt_or_le 1152921504606846976 qz with hA | hA
    · rcases (show rz = 0 ∨ 0 < rz by omega) with rfl | hr
      all_goals
        go_enter Tryz.func237, Tryz.ntmps237
        go_wp2_with fail
        refine (H1.out _).mono ?_
        rintro e w1 ⟨rfl, h1⟩
        obtain ⟨hc_w1, hf_w1, hz_w1⟩ := bcell h1; (try simp only [szA] at hz_w1); (try have := wz0 w w1); (try have := wz1 w w1); (try have := wz2 w w1); (try have := wz3 w w1); (try have := wz4 w w1)
        go_wp2_with fail
        refine (H2.out _).mono ?_
        rintro e w2 ⟨rfl, h2⟩
        obtain ⟨hc_w2, hf_w2, hz_w2⟩ := bcell h2; (try simp only [szA] at hz_w2); (try have := wz0 w w2); (try have := wz1 w w2); (try have := wz2 w w2); (try have := wz3 w w2); (try have := wz4 w w2)
        go_wp2_with fail
        (try simp only [Exit.inBlock, Exit.then]); apply bodyPost_ret; (focus (simp only [results, Tryz.results237]; go_simp; try rfl)); rfl
        refine ⟨ret_v (Hres.out _ rfl 0 0 14 (by omega)), ext_by⟩
    · rcases (show rz = 0 ∨ (0 < rz ∧ qz + 1 ≤ 1152921504606846976) ∨ (0 < rz ∧ 1152921504606846976 < qz + 1) by omega) with rfl | ⟨hr, hB⟩ | ⟨hr, hB⟩
      rotate_right
      · go_enter Tryz.func237, Tryz.ntmps237
        go_wp2_with fail
        refine (H1.out _).mono ?_
        rintro e w1 ⟨rfl, h1⟩
        obtain ⟨hc_w1, hf_w1, hz_w1⟩ := bcell h1; (try simp only [szA] at hz_w1); (try have := wz0 w w1); (try have := wz1 w w1); (try have := wz2 w w1); (try have := wz3 w w1); (try have := wz4 w w1)
        go_wp2_with fail
        refine (H2.out _).mono ?_
        rintro e w2 ⟨rfl, h2⟩
        obtain ⟨hc_w2, hf_w2, hz_w2⟩ := bcell h2; (try simp only [szA] at hz_w2); (try have := wz0 w w2); (try have := wz1 w w2); (try have := wz2 w w2); (try have := wz3 w w2); (try have := wz4 w w2)
        go_wp2_with fail
        (try simp only [Exit.inBlock, Exit.then]); apply bodyPost_ret; (focus (simp only [results, Tryz.results237]; go_simp; try rfl)); rfl
        refine ⟨ret_v (Hres.out _ rfl 0 0 14 (by omega)), ext_by⟩
      all_goals rcases (show (c < 0 ∧ decide (c < 0) = true) ∨ (0 ≤ c ∧ decide (c < 0) = false) by simp; omega) with ⟨hc, hcd⟩ | ⟨hc, hcd⟩
      all_goals cases neg
      all_goals
        go_enter Tryz.func237, Tryz.ntmps237
        go_wp2_with fail
        refine (H1.out _).mono ?_
        rintro e w1 ⟨rfl, h1⟩
        obtain ⟨hc_w1, hf_w1, hz_w1⟩ := bcell h1; (try simp only [szA] at hz_w1); (try have := wz0 w w1); (try have := wz1 w w1); (try have := wz2 w w1); (try have := wz3 w w1); (try have := wz4 w w1)
        go_wp2_with fail
        refine (H2.out _).mono ?_
        rintro e w2 ⟨rfl, h2⟩
        obtain ⟨hc_w2, hf_w2, hz_w2⟩ := bcell h2; (try simp only [szA] at hz_w2); (try have := wz0 w w2); (try have := wz1 w w2); (try have := wz2 w w2); (try have := wz3 w w2); (try have := wz4 w w2)
        go_wp2_with fail
        (try simp only [Exit.inBlock, Exit.then]); apply bodyPost_ret; (focus (simp only [results, Tryz.results237]; go_simp; try rfl)); rfl
        refine ⟨ret_v (Hres.out _ rfl _ _ _ ?_), ext_by⟩
        simp <;> omega
  · rw [quo_high hd0 hh]
    have hle : (d : Int) ≤ (hi : Int) := by omega
    generalize (d : Int) = dz at *
    generalize (hi : Int) = hz at *
    generalize (lo : Int) = lz at *
    clear hh hd1 hlo hd0
    go_enter Tryz.func237, Tryz.ntmps237
    go_wp2_with fail
    refine (H1.out _).mono ?_
    rintro e w1 ⟨rfl, h1⟩
    obtain ⟨hc_w1, hf_w1, hz_w1⟩ := bcell h1; (try simp only [szA] at hz_w1); (try have := wz0 w w1); (try have := wz1 w w1); (try have := wz2 w w1); (try have := wz3 w w1); (try have := wz4 w w1)
    go_wp2_with fail
    (try simp only [Exit.inBlock, Exit.then]); apply bodyPost_ret; (focus (simp only [results, Tryz.results237]; go_simp; try rfl)); rfl
    exact ⟨rfl, ext_by⟩

def mulDivM (x y c : Int) : Quo := quoM ((decide (x < 0) != decide (y < 0)) != decide (c < 0)) (x.natAbs * y.natAbs) c.natAbs
theorem divmod_eq (n : Nat) : n / 18446744073709551616 * 18446744073709551616 + n % 18446744073709551616 = n := by omega
set_option maxHeartbeats 400000 in
theorem spMul1_c (x y : Int) (w : World) (hx : isI64 x) (hy : isI64 y) :
    Calls Tryz.prog 235 #[.int .i64 x, .int .i64 y] w fun e w' => e = .returned (quoV (mulDivM x y 1)) ∧ Ext w w' := by
  have H1 := Lib.hid fun W => spProduct_c x y W hx hy
  have H2 := Lib.hid fun W => spDivide_c (x.natAbs * y.natAbs / 18446744073709551616) (x.natAbs * y.natAbs % 18446744073709551616) (decide (x < 0) != decide (y < 0)) 1 W (by omega) ⟨by omega, by omega⟩ (by omega)
  rw [divmod_eq] at H2
  unfold mulDivM
  generalize quoM _ _ _ = R at *
  obtain ⟨rl, rh, re⟩ := R
  generalize x.natAbs * y.natAbs / 18446744073709551616 = hi at *
  generalize x.natAbs * y.natAbs % 18446744073709551616 = lo at *
  generalize (decide (x < 0) != decide (y < 0)) = b at *
  clear hx hy
  go_enter Tryz.func235, Tryz.ntmps235
  go_wp2_with fail
  refine (H1.out _).mono ?_
  rintro e w1 ⟨rfl, h1⟩
  go_wp2_with fail
  refine (H2.out _).mono ?_
  rintro e w2 ⟨rfl, h2⟩
  go_wp2_with fail
  (try simp only [Exit.inBlock, Exit.then]); apply bodyPost_ret; (focus (simp only [results, Tryz.results235]; go_simp; try rfl)); rfl
  exact ⟨rfl, ext_by⟩
set_option maxHeartbeats 400000 in
theorem spQuot1_c (x y : Int) (w : World) (hx : isI64 x) (hy : isI64 y) (h0 : y ≠ 0) :
    Calls Tryz.prog 239 #[.int .i64 x, .int .i64 y] w fun e w' => e = .returned (quoV (mulDivM x 1 y)) ∧ Ext w w' := by
  have H1 := Lib.hid fun W => spProduct_c x 1 W hx ⟨by omega, by omega⟩
  have H2 := Lib.hid fun W => spDivide_c (x.natAbs * (1 : Int).natAbs / 18446744073709551616) (x.natAbs * (1 : Int).natAbs % 18446744073709551616) (decide (x < 0) != decide ((1 : Int) < 0)) y W (by omega) hy h0
  rw [divmod_eq] at H2
  unfold mulDivM
  generalize quoM _ _ _ = R at *
  obtain ⟨rl, rh, re⟩ := R
  generalize x.natAbs * (1 : Int).natAbs / 18446744073709551616 = hi at *
  generalize x.natAbs * (1 : Int).natAbs % 18446744073709551616 = lo at *
  generalize (decide (x < 0) != decide ((1 : Int) < 0)) = b at *
  clear hx hy
  go_enter Tryz.func239, Tryz.ntmps239
  go_wp2_with fail
  refine (H1.out _).mono ?_
  rintro e w1 ⟨rfl, h1⟩
  go_wp2_with fail
  refine (H2.out _).mono ?_
  rintro e w2 ⟨rfl, h2⟩
  go_wp2_with fail
  (try simp only [Exit.inBlock, Exit.then]); apply bodyPost_ret; (focus (simp only [results, Tryz.results239]; go_simp; try rfl)); rfl
  exact ⟨rfl, ext_by⟩
set_option maxHeartbeats 400000 in
theorem spMulDiv_c (a b c : Int) (w : World) (ha : fitsP a = true) (hb : fitsP b = true) (hc : fitsP c = true) (h0 : c ≠ 0) :
    Calls Tryz.prog 362 #[.int .i64 a, .int .i64 b, .int .i64 c] w fun e w' => e = .returned (quoV (mulDivM a b c)) ∧ Ext w w' := by
  have F1 := Lib.hid fun W => spFits_c a W
  have F2 := Lib.hid fun W => spFits_c b W
  have F3 := Lib.hid fun W => spFits_c c W
  rw [ha] at F1
  rw [hb] at F2
  rw [hc] at F3
  have ha := fitsP_iff.1 ha
  have hb := fitsP_iff.1 hb
  have hc := fitsP_iff.1 hc
  have H1 := Lib.hid fun W => spProduct_c a b W ⟨by omega, by omega⟩ ⟨by omega, by omega⟩
  have H2 := Lib.hid fun W => spDivide_c (a.natAbs * b.natAbs / 18446744073709551616) (a.natAbs * b.natAbs % 18446744073709551616) (decide (a < 0) != decide (b < 0)) c W (by omega) ⟨by omega, by omega⟩ h0
  rw [divmod_eq] at H2
  unfold mulDivM
  generalize quoM _ _ _ = R at *
  obtain ⟨rl, rh, re⟩ := R
  generalize a.natAbs * b.natAbs / 18446744073709551616 = hi at *
  generalize a.natAbs * b.natAbs % 18446744073709551616 = lo at *
  generalize (decide (a < 0) != decide (b < 0)) = bo at *
  clear ha hb hc
  go_enter Tryz.func362, Tryz.ntmps362
  go_wp2_with fail
  refine (F1.out _).mono ?_
  rintro e _ ⟨rfl, rfl⟩
  go_wp2_with fail
  refine (F2.out _).mono ?_
  rintro e _ ⟨rfl, rfl⟩
  go_wp2_with fail
  refine (F3.out _).mono ?_
  rintro e _ ⟨rfl, rfl⟩
  go_wp2_with fail
  refine (H1.out _).mono ?_
  rintro e w1 ⟨rfl, h1⟩
  go_wp2_with fail
  refine (H2.out _).mono ?_
  rintro e w2 ⟨rfl, h2⟩
  go_wp2_with fail
  (try simp only [Exit.inBlock, Exit.then]); apply bodyPost_ret; (focus (simp only [results, Tryz.results362]; go_simp; try rfl)); rfl
  exact ⟨rfl, ext_by⟩
end Go.Proofs.YtiladlangkjoiaaGreat

namespace Go.Proofs.YtiladlangkjoiaaGreat
open Go.RowKit

def joinQ (o : Sp) (q : Quo) : Sp := ⟨min o.lo q.lo, max o.hi q.hi⟩
def joinAll : List Quo → Sp → SpR
  | [], o => ⟨o, 0⟩
  | q :: l, o => if q.e = 0 then joinAll l (joinQ o q) else noSp q.e
def pairsL (a b : Sp) : List (Int × Int) := [(a.lo, b.lo), (a.lo, b.hi), (a.hi, b.lo), (a.hi, b.hi)]
def cornQ (f : Int → Int → Quo) (a b : Sp) : List Quo := (pairsL a b).map fun p => f p.1 p.2
def combM (f : Int → Int → Quo) (a b : Sp) : SpR := if sp2Err a b = 0 then joinAll (cornQ f a b) ⟨1152921504606846976, -1152921504606846976⟩ else noSp (sp2Err a b)
def mulF (x y : Int) : Quo := mulDivM x y 1
def quotF (x y : Int) : Quo := mulDivM x 1 y
def mulM (a b : Sp) : SpR := combM mulF a b
def quotM (a b : Sp) : SpR := if sp2Err a b = 0 then (if within 0 b.lo b.hi then noSp 2 else combM quotF a b) else noSp (sp2Err a b)
def lowM (a : Sp) : Int := max (max 0 a.lo) (-a.hi)
def highM (a : Sp) : Int := max (-a.lo) a.hi
def squareM (a : Sp) : SpR := if spErr a = 0 then (if 1073741824 < highM a then noSp 14 else endsM (lowM a * lowM a) (highM a * highM a)) else noSp (spErr a)
def rootI (n : Int) : Int := if n < 0 then -1 else rootN n.toNat
def upM (n : Int) : Int := if rootI n * rootI n < n then rootI n + 1 else rootI n
def rootsM (a : Sp) : SpR := if spErr a = 0 then (if a.lo < 0 then noSp 2 else ⟨⟨rootI a.lo, upM a.hi⟩, 0⟩) else noSp (spErr a)

def joinR : List Quo → Sp → Bool → SpR
  | [], o, _ => ⟨o, 0⟩
  | q :: l, o, f => if q.e = 0 then joinR l ⟨if f = true ∨ q.lo < o.lo then q.lo else o.lo, if f = true ∨ o.hi < q.hi then q.hi else o.hi⟩ false else noSp 14
def QuoOk (q : Quo) : Prop := (q.e = 0 ∧ -1152921504606846976 ≤ q.lo ∧ q.lo ≤ q.hi ∧ q.hi ≤ 1152921504606846976) ∨ (q.e = 14 ∧ q.lo = 0 ∧ q.hi = 0)
theorem quoM_ok (neg : Bool) (n d : Nat) : QuoOk (quoM neg n d) := by
  unfold quoM QuoOk
  generalize hu : (if n % d = 0 then 0 else 1) = u
  generalize n / d = q
  have : u ≤ 1 := by rw [← hu]; split <;> omega
  by_cases h : 1152921504606846976 < q + u
  · rw [if_pos h]; right; exact ⟨rfl, rfl, rfl⟩
  · rw [if_neg h]
    left
    cases neg
    · simp only [Bool.false_eq_true, if_false]; refine ⟨trivial, ?_, ?_, ?_⟩ <;> omega
    · simp only [if_true]; refine ⟨trivial, ?_, ?_, ?_⟩ <;> omega
theorem mulDiv_ok (x y c : Int) : QuoOk (mulDivM x y c) := quoM_ok _ _ _
theorem joinR_go : ∀ (l : List Quo) (o : Sp), (∀ q ∈ l, QuoOk q) → joinR l o false = joinAll l o
  | [], _, _ => rfl
  | q :: l, o, h => by
    have hq := h q (by simp)
    rw [joinR, joinAll]
    by_cases he : q.e = 0
    · rw [if_pos he, if_pos he, joinR_go l _ fun x hx => h x (by simp [hx])]
      congr 1
      unfold joinQ
      simp only [Bool.false_eq_true, false_or, Sp.mk.injEq]
      constructor <;> omega
    · rw [if_neg he, if_neg he]
      rcases hq with hq | hq
      · exact absurd hq.1 he
      · rw [hq.1]
theorem joinR_eq {q : Quo} {l : List Quo} {o : Sp} (h : ∀ x ∈ q :: l, QuoOk x) : joinR (q :: l) o true = joinAll (q :: l) ⟨1152921504606846976, -1152921504606846976⟩ := by
  have hq := h q (by simp)
  rw [joinR, joinAll]
  by_cases he : q.e = 0
  · rw [if_pos he, if_pos he, joinR_go l _ fun x hx => h x (by simp [hx])]
    congr 1
    unfold joinQ
    unfold QuoOk at hq
    simp only [true_or, if_true, Sp.mk.injEq]
    constructor <;> omega
  · rw [if_neg he, if_neg he]
    rcases hq with hq | hq
    · exact absurd hq.1 he
    · rw [hq.1]
theorem cornQ_ok {f : Int → Int → Quo} (hf : ∀ x y, QuoOk (f x y)) (a b : Sp) : ∀ q ∈ cornQ f a b, QuoOk q := by
  intro q hq
  obtain ⟨p, _, rfl⟩ := List.mem_map.1 hq
  exact hf _ _
theorem corners_eq {f : Int → Int → Quo} (hf : ∀ x y, QuoOk (f x y)) (a b : Sp) (o : Sp) : joinR (cornQ f a b) o true = joinAll (cornQ f a b) ⟨1152921504606846976, -1152921504606846976⟩ := joinR_eq (cornQ_ok hf a b)

theorem quo_one (neg : Bool) (n : Nat) : quoM neg n 1 = if 1152921504606846976 < n then ⟨0, 0, 14⟩ else if neg then ⟨-(n : Int), -(n : Int), 0⟩ else ⟨n, n, 0⟩ := by
  unfold quoM
  rw [Nat.div_one, Nat.mod_one, if_pos rfl, Nat.add_zero]
theorem mulF_eq (x y : Int) : mulF x y = if 1152921504606846976 < x * y ∨ x * y < -1152921504606846976 then ⟨0, 0, 14⟩ else ⟨x * y, x * y, 0⟩ := by
  unfold mulF mulDivM
  rw [show (1 : Int).natAbs = 1 from rfl, quo_one]
  have e : ((x.natAbs * y.natAbs : Nat) : Int) = x * y ∨ ((x.natAbs * y.natAbs : Nat) : Int) = -(x * y) := by
    rw [← Int.natAbs_mul]; omega
  have s : ((decide (x < 0) != decide (y < 0)) != decide ((1 : Int) < 0)) = (decide (x < 0) != decide (y < 0)) := by simp
  rw [s]
  by_cases hx : x < 0 <;> by_cases hy : y < 0
  · have h1 : 0 < x * y := Int.mul_pos_of_neg_of_neg hx hy
    simp only [hx, hy, decide_true, bne_self_eq_false, Bool.false_eq_true, if_false]
    generalize x * y = z at *
    generalize x.natAbs * y.natAbs = n at *
    by_cases hb : 1152921504606846976 < n
    · rw [if_pos hb, if_pos (by omega)]
    · rw [if_neg hb, if_neg (by omega)]; congr <;> omega
  · have h1 : x * y ≤ 0 := Int.mul_nonpos_of_nonpos_of_nonneg (by omega) (by omega)
    simp only [hx, hy, decide_true, decide_false, Bool.true_bne, Bool.not_false, if_true]
    generalize x * y = z at *
    generalize x.natAbs * y.natAbs = n at *
    by_cases hb : 1152921504606846976 < n
    · rw [if_pos hb, if_pos (by omega)]
    · rw [if_neg hb, if_neg (by omega)]; congr <;> omega
  · have h1 : x * y ≤ 0 := Int.mul_nonpos_of_nonneg_of_nonpos (by omega) (by omega)
    simp only [hx, hy, decide_true, decide_false, Bool.false_bne, if_true]
    generalize x * y = z at *
    generalize x.natAbs * y.natAbs = n at *
    by_cases hb : 1152921504606846976 < n
    · rw [if_pos hb, if_pos (by omega)]
    · rw [if_neg hb, if_neg (by omega)]; congr <;> omega
  · have h1 : 0 ≤ x * y := Int.mul_nonneg (by omega) (by omega)
    simp only [hx, hy, decide_false, bne_self_eq_false, Bool.false_eq_true, if_false]
    generalize x * y = z at *
    generalize x.natAbs * y.natAbs = n at *
    by_cases hb : 1152921504606846976 < n
    · rw [if_pos hb, if_pos (by omega)]
    · rw [if_neg hb, if_neg (by omega)]; congr <;> omega
end Go.Proofs.YtiladlangkjoiaaGreat

namespace Go.Proofs.YtiladlangkjoiaaGreat
open Go.RowKit

def bitOf : Nat → Int
  | 0 => 0
  | j + 1 => 2 ^ j
def RInv (n : Nat) (out bit : Int) (k : Nat) : Prop := ∃ o : Nat, out = o ∧ o % 2 ^ k = 0 ∧ o + 2 ^ k ≤ 4294967296 ∧ rootF n k o = rootN n ∧ bit = bitOf k
theorem rinv_step {n : Nat} {out bit : Int} {k : Nat} (h : RInv n out bit (k + 1)) (_ : n < 18446744073709551616) :
    0 < bit ∧ ∃ x y b' : Int, bits .or .u64 out bit = x ∧ IntKind.u64.wrap (x * x) = y ∧ bit / 2 = b' ∧ (y ≤ n → RInv n x b' k) ∧ (¬ y ≤ n → RInv n out b' k) := by
  obtain ⟨o, rfl, h1, h2, h3, rfl⟩ := h
  have hp : 0 < 2 ^ k := Nat.pow_pos (by omega)
  have hp2 : 2 ^ (k + 1) = 2 * 2 ^ k := by rw [Nat.pow_succ, Nat.mul_comm]
  have hor := or_bit h1
  obtain ⟨m1, m2⟩ := bit_mod h1
  rw [show bitOf (k + 1) = 2 ^ k from rfl]
  have hb : ((2 : Int) ^ k) = ((2 ^ k : Nat) : Int) := by push_cast; rfl
  have hx : o + 2 ^ k ≤ 4294967295 ∨ o + 2 ^ k = 4294967296 := by omega
  have hlt : (o + 2 ^ k) * (o + 2 ^ k) < 18446744073709551616 := by
    have := Nat.mul_le_mul (show o + 2 ^ k ≤ 4294967295 by omega) (show o + 2 ^ k ≤ 4294967295 by omega)
    omega
  have hb2 : ((2 : Int) ^ k) / 2 = bitOf k := by
    cases k with
    | zero => rfl
    | succ j =>
      rw [show bitOf (j + 1) = 2 ^ j from rfl, Int.pow_succ, Int.mul_ediv_cancel _ (by omega)]
  refine ⟨by rw [hb]; omega, ((o + 2 ^ k : Nat) : Int), (((o + 2 ^ k) * (o + 2 ^ k) : Nat) : Int), _, ?_, ?_, hb2, fun h => ?_, fun h => ?_⟩
  · rw [hb, bits_or_u64_nat o (2 ^ k) (by omega) (by omega), hor]
  · rw [← Int.natCast_mul]; exact wrapN hlt
  · refine ⟨o + 2 ^ k, rfl, m2, by omega, ?_, rfl⟩
    rw [← h3, rootF_step, if_pos (by omega)]
  · refine ⟨o, rfl, m1, by omega, ?_, rfl⟩
    rw [← h3, rootF_step, if_neg (by omega)]
set_option maxHeartbeats 1000000 in
theorem spRoot0_c (n : Nat) (w : World) (hn : n < 18446744073709551616) :
    Calls Tryz.prog 282 #[.int .u64 (n : Int)] w fun e w' => e = .returned (.int .u64 (rootN n : Int)) ∧ w = w' := by
  have HN := Lib.hid hn
  obtain ⟨nz, hnz⟩ : ∃ z : Int, z = n := ⟨_, rfl⟩
  rw [← hnz]
  have HZ := Lib.hid hnz
  obtain ⟨R, hR⟩ : ∃ z : Int, z = rootN n := ⟨_, rfl⟩
  rw [← hR]
  have HR := Lib.hid hR
  clear hn hnz hR
  go_enter Tryz.func282, Tryz.ntmps282
  go_wp2_with fail
  go_loopw [3, 4] (fun ov bv wr => ∃ (out bit : Int) (k : Nat), ov = .int .u64 out ∧ bv = .int .u64 bit ∧ Hid (RInv n out bit k) ∧ wr = w) (fun _ bv _ => (intOf bv).toNat)
  case atStart => exact ⟨0, 2147483648, 32, rfl, rfl, Lib.hid ⟨0, rfl, rfl, by decide, rfl, by decide⟩, rfl⟩
  case round =>
    obtain ⟨out, bit, k, rfl, rfl, HI, rfl⟩ := hrel
    cases k with
    | zero =>
      obtain ⟨o, h1, _, _, h3, h4⟩ := HI.out
      rw [show bitOf 0 = 0 from rfl] at h4
      subst h4
      have h5 : out = R := by rw [h1, HR.out, ← h3]; rfl
      subst h5
      clear h1 h3 HI HR
      go_wp2_with fail
      go_ret
      exact ⟨rfl, rfl⟩
    | succ k =>
      obtain ⟨hb, x, y, b', e1, e2, e3, e4, e5⟩ := rinv_step HI.out HN.out
      have e6 : b' < bit ∧ 0 ≤ b' := by omega
      obtain ⟨e6, e7⟩ := e6
      rw [← HZ.out] at e4 e5
      have E4 := Lib.hid e4
      have E5 := Lib.hid e5
      clear e4 e5 HI
      by_cases hy : y ≤ nz
      · have HI2 := Lib.hid (E4.out hy)
        go_wp2_with fail
        go_roundw
        case rel => exact ⟨x, b', k, rfl, rfl, HI2, trivial⟩
        case measure => simp [intOf]; omega
      · have HI2 := Lib.hid (E5.out hy)
        go_wp2_with fail
        go_roundw
        case rel => exact ⟨out, b', k, rfl, rfl, HI2, trivial⟩
        case measure => simp [intOf]; omega
set_option maxHeartbeats 400000 in
theorem spRoot_c (n : Int) (w : World) (hn : 0 ≤ n) (hn2 : n ≤ 9223372036854775807) :
    Calls Tryz.prog 233 #[.int .i64 n] w fun e w' => e = .returned (.int .i64 (rootN n.toNat : Int)) ∧ w = w' := by
  have hw : IntKind.u64.wrap n = n := by rw [IntKind.wrap_u64]; omega
  have H := Lib.hid fun W => spRoot0_c n.toNat W (by omega)
  have hle := rootN_le (n := n.toNat) (m := 4294967295) (by omega) (by omega)
  rw [show ((n.toNat : Nat) : Int) = n by omega] at H
  obtain ⟨R, hR⟩ : ∃ z : Int, z = rootN n.toNat := ⟨_, rfl⟩
  rw [← hR] at H ⊢
  have hR0 : 0 ≤ R := by omega
  have hR1 : R ≤ 4294967295 := by omega
  clear hR hle
  go_enter Tryz.func233, Tryz.ntmps233
  go_wp2_with fail
  refine (H.out _).mono ?_
  rintro e _ ⟨rfl, rfl⟩
  go_wp2_with fail
  go_ret
  exact ⟨rfl, rfl⟩
end Go.Proofs.YtiladlangkjoiaaGreat
