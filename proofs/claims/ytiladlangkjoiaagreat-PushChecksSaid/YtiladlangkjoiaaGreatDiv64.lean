/- math/bits.Div64: two words over one. No condition. -/
import Derived.Test.YtiladlangkjoiaaGreatBits
import Derived.Test.YtiladlangkjoiaaGreatWideLaw
import Derived.Test.YtiladlangkjoiaaGreatGen
namespace Go.Proofs.YtiladlangkjoiaaGreat
open Go.RowKit

theorem wrapN {a : Nat} (h : a < 18446744073709551616) : IntKind.u64.wrap (a : Int) = (a : Int) := by rw [IntKind.wrap_u64]; omega
theorem divL_c (lo y : Nat) : ((lo : Int) / (y : Int)) = ((lo / y : Nat) : Int) := (Int.natCast_ediv lo y).symm

set_option maxRecDepth 100000 in
set_option maxHeartbeats 1000000 in
theorem div64_low (lo y : Nat) (hy : 0 < y) (hlo : lo < 18446744073709551616) (w : World) :
    Calls Tryz.prog 284 #[.int .u64 0, .int .u64 (lo : Int), .int .u64 (y : Int)] w fun e w' => e = .returned (.tuple #[.int .u64 ((lo / y : Nat) : Int), .int .u64 ((lo % y : Nat) : Int)]) ∧ Ext w w' := by
  have hy0 : ¬ (y : Int) = 0 := by omega
  have hl : ¬ (y : Int) ≤ 0 := by omega
  have hw : IntKind.u64.wrap ((lo : Int) / (y : Int)) = ((lo / y : Nat) : Int) := by
    rw [divL_c]
    exact wrapN (Nat.lt_of_le_of_lt (Nat.div_le_self _ _) hlo)
  have hm : (lo : Int) % (y : Int) = ((lo % y : Nat) : Int) := (Int.natCast_emod lo y).symm
  generalize lo / y = q at *
  generalize lo % y = r at *
  go_enter Tryz.func284, Tryz.ntmps284
  go_wp2_with fail
  refine wp_region_text (by kernel_rfl) (by kernel_rfl) ?_
  repeat' (first | (refine bl_off (by rfl) ?_; simp only [putX]) | (apply bl_op; rfl; (intro w1 h1; obtain ⟨hc, hf, hz⟩ := bcell h1; go_simp; (try go_bits); (first | exact ⟨rfl, Ext.refl _⟩)); simp only [putX]) | (refine bl_split rfl rfl (fun hx => ?_) (fun hx => ?_) <;> simp only [hx]))
  refine bl_nil ?_
  intro w1 h1
  go_wp2_with fail
  (try simp only [Exit.inBlock, Exit.then]); apply bodyPost_ret; (focus (simp only [results, Tryz.results284]; go_simp; try rfl)); rfl
  exact ⟨rfl, h1⟩

theorem div64_prep (hi lo y k : Nat) (hy : hi < y) (hlo : lo < 18446744073709551616) (hk1 : 1 ≤ k) (hk2 : k ≤ 64) (h1 : 2 ^ (k - 1) ≤ y) (h2 : y < 2 ^ k) :
    ∃ P Y y1 y0 u d1 d0 : Nat, 0 < P ∧ Y = y * P ∧ Y = y1 * 4294967296 + y0 ∧ y0 < 4294967296 ∧ 2147483648 ≤ y1 ∧ y1 < 4294967296 ∧ u < Y ∧ d1 < 4294967296 ∧ d0 < 4294967296 ∧ (hi * 18446744073709551616 + lo) * P = u * 18446744073709551616 + d1 * 4294967296 + d0 ∧
      IntKind.u64.wrap ((y : Int) * 2 ^ (64 - k)) = (Y : Int) ∧ bits .and .u64 (Y : Int) 4294967295 = (y0 : Int) ∧ (Y : Int) / 4294967296 = (y1 : Int) ∧
      bits .or .u64 (IntKind.u64.wrap ((hi : Int) * 2 ^ (64 - k))) ((lo : Int) / 2 ^ (64 - (64 - k))) = (u : Int) ∧
      IntKind.u64.wrap ((lo : Int) * 2 ^ (64 - k)) = ((d1 * 4294967296 + d0 : Nat) : Int) ∧ bits .and .u64 ((d1 * 4294967296 + d0 : Nat) : Int) 4294967295 = (d0 : Int) ∧ ((d1 * 4294967296 + d0 : Nat) : Int) / 4294967296 = (d1 : Int) ∧ (∀ n : Nat, n / 2 ^ (64 - k) = n / P) := by
  have hkk : 2 ^ k * 2 ^ (64 - k) = 18446744073709551616 := by rw [← Nat.pow_add, show k + (64 - k) = 64 by omega]
  have hk3 : 2 ^ k = 2 * 2 ^ (k - 1) := by
    obtain ⟨j, rfl⟩ : ∃ j, k = j + 1 := ⟨k - 1, by omega⟩
    rw [Nat.add_sub_cancel, Nat.pow_succ, Nat.mul_comm]
  have e64 : 64 - (64 - k) = k := by omega
  have hc : ∀ (n : Nat), (n : Int) * 2 ^ (64 - k) = ((n * 2 ^ (64 - k) : Nat) : Int) := fun n => by push_cast <;> rfl
  have hq : ((lo : Int) / 2 ^ k) = ((lo / 2 ^ k : Nat) : Int) := by push_cast; rfl
  have hor : (hi * 2 ^ (64 - k)) ||| (lo / 2 ^ k) = hi * 2 ^ (64 - k) + lo / 2 ^ k := by
    have hb : lo / 2 ^ k < 2 ^ (64 - k) := by
      rw [Nat.div_lt_iff_lt_mul (Nat.pow_pos (by omega)), Nat.mul_comm, hkk]
      exact hlo
    rw [Nat.mul_comm]
    exact (Nat.two_pow_add_eq_or_of_lt hb hi).symm
  rw [e64, hc, hc, hc, hq]
  have hP : 0 < 2 ^ (64 - k) := Nat.pow_pos (by omega)
  have hK : 0 < 2 ^ k := Nat.pow_pos (by omega)
  have hlom : lo * 2 ^ (64 - k) = lo / 2 ^ k * 18446744073709551616 + (lo % 2 ^ k) * 2 ^ (64 - k) := by
    have h := Nat.div_add_mod lo (2 ^ k)
    calc lo * 2 ^ (64 - k) = (2 ^ k * (lo / 2 ^ k) + lo % 2 ^ k) * 2 ^ (64 - k) := by rw [h]
      _ = lo / 2 ^ k * (2 ^ k * 2 ^ (64 - k)) + (lo % 2 ^ k) * 2 ^ (64 - k) := by rw [Nat.add_mul, Nat.mul_comm (2 ^ k) (lo / 2 ^ k), Nat.mul_assoc]
      _ = _ := by rw [hkk]
  have hr : (lo % 2 ^ k) * 2 ^ (64 - k) < 18446744073709551616 := by
    rw [← hkk]
    exact Nat.mul_lt_mul_of_pos_right (Nat.mod_lt _ hK) hP
  have hY1 : y * 2 ^ (64 - k) < 18446744073709551616 := by
    rw [← hkk]
    exact Nat.mul_lt_mul_of_pos_right h2 hP
  have hY2 : 9223372036854775808 ≤ y * 2 ^ (64 - k) := by
    have := Nat.mul_le_mul_right (2 ^ (64 - k)) h1
    rw [hk3, Nat.mul_assoc] at hkk
    generalize 2 ^ (k - 1) * 2 ^ (64 - k) = a at *
    omega
  have hu : hi * 2 ^ (64 - k) + lo / 2 ^ k < y * 2 ^ (64 - k) := by
    have hb : lo / 2 ^ k < 2 ^ (64 - k) := by
      rw [Nat.div_lt_iff_lt_mul hK, Nat.mul_comm, hkk]
      exact hlo
    have := Nat.mul_le_mul_right (2 ^ (64 - k)) hy
    rw [Nat.succ_mul] at this
    omega
  have hN : (hi * 18446744073709551616 + lo) * 2 ^ (64 - k) = (hi * 2 ^ (64 - k) + lo / 2 ^ k) * 18446744073709551616 + (lo % 2 ^ k) * 2 ^ (64 - k) := by
    rw [Nat.add_mul, hlom, Nat.mul_right_comm, Nat.add_mul, Nat.add_assoc]
  generalize hPv : 2 ^ (64 - k) = P at *
  generalize hi * P = a at *
  generalize lo / 2 ^ k = b at *
  generalize hYv : y * P = Y at *
  generalize (lo % 2 ^ k) * P = d at *
  refine ⟨P, Y, Y / 4294967296, Y % 4294967296, a + b, d / 4294967296, d % 4294967296, hP, hYv.symm, by omega, by omega, by omega, by omega, hu, by omega, by omega, by rw [hN]; omega, ?_, ?_, by omega, ?_, ?_, ?_, by omega, fun _ => rfl⟩
  · exact wrapN hY1
  · have h := bits_and_u64_nat Y 4294967295 hY1 (by omega)
    rw [show Y &&& 4294967295 = Y % 4294967296 from Nat.and_two_pow_sub_one_eq_mod Y 32] at h
    exact h
  · rw [wrapN (show a < 18446744073709551616 by omega)]
    have h := bits_or_u64_nat a b (by omega) (by omega)
    rw [hor] at h
    exact h
  · rw [hlom, IntKind.wrap_u64]
    omega
  · have h := bits_and_u64_nat d 4294967295 hr (by omega)
    rw [show d &&& 4294967295 = d % 4294967296 from Nat.and_two_pow_sub_one_eq_mod d 32] at h
    rw [show d / 4294967296 * 4294967296 + d % 4294967296 = d by omega]
    exact h
theorem start_eqs (u y1 : Nat) (hu : u < 18446744073709551616) (h1 : 0 < y1) : ∃ q c r : Nat, q = u / y1 ∧ q * y1 + r = u ∧ r < y1 ∧ IntKind.u64.wrap ((u : Int) / (y1 : Int)) = (q : Int) ∧ IntKind.u64.wrap ((q : Int) * (y1 : Int)) = (c : Int) ∧ IntKind.u64.wrap ((u : Int) - (c : Int)) = (r : Int) := by
  have h := Nat.div_add_mod u y1
  have hr := Nat.mod_lt u h1
  rw [Nat.mul_comm] at h
  have hq : u / y1 ≤ u := Nat.div_le_self _ _
  refine ⟨u / y1, u / y1 * y1, u % y1, rfl, h, hr, ?_, ?_, ?_⟩
  · rw [divL_c]; exact wrapN (by omega)
  · rw [← Int.natCast_mul]; exact wrapN (by omega)
  · rw [show (u : Int) - ((u / y1 * y1 : Nat) : Int) = ((u % y1 : Nat) : Int) by omega]; exact wrapN (by omega)
theorem digit_eqs (u d Y Q : Nat) (hY : 0 < Y) (hY2 : Y < 18446744073709551616) (hQ : Q = (u * 4294967296 + d) / Y) : ∃ R a1 a2 a3 : Nat, R = (u * 4294967296 + d) % Y ∧ R < Y ∧
    IntKind.u64.wrap ((u : Int) * 4294967296) = (a1 : Int) ∧ IntKind.u64.wrap ((a1 : Int) + (d : Int)) = (a2 : Int) ∧ IntKind.u64.wrap ((Q : Int) * (Y : Int)) = (a3 : Int) ∧ IntKind.u64.wrap ((a2 : Int) - (a3 : Int)) = (R : Int) := by
  have h := Nat.div_add_mod (u * 4294967296 + d) Y
  rw [← hQ, Nat.mul_comm] at h
  have hr := Nat.mod_lt (u * 4294967296 + d) hY
  refine ⟨_, u * 4294967296 % 18446744073709551616, (u * 4294967296 + d) % 18446744073709551616, Q * Y % 18446744073709551616, rfl, hr, ?_, ?_, ?_, ?_⟩
  · rw [IntKind.wrap_u64]; omega
  · rw [IntKind.wrap_u64]; omega
  · rw [← Int.natCast_mul, IntKind.wrap_u64]; omega
  · generalize (u * 4294967296 + d) % Y = r at *
    generalize Q * Y = a at *
    rw [IntKind.wrap_u64]; omega

theorem digit_round {y1 y0 u d q r Q : Nat} (h1 : 2147483648 ≤ y1) (h2 : y1 < 4294967296) (hy0 : y0 < 4294967296) (hu : u < y1 * 4294967296 + y0) (hd : d < 4294967296) (hq : q ≤ 4294967297) (hr : r < 4294967296) (hqr : q * y1 + r = u)
    (hQ : Q = (u * 4294967296 + d) / (y1 * 4294967296 + y0)) (hge : Q ≤ q) : ∃ m1 m2 m3 q' r' : Nat,
    (q < 4294967296 → IntKind.u64.wrap ((q : Int) * (y0 : Int)) = (m1 : Int)) ∧ IntKind.u64.wrap (4294967296 * (r : Int)) = (m2 : Int) ∧ IntKind.u64.wrap ((m2 : Int) + (d : Int)) = (m3 : Int) ∧ (1 ≤ q → IntKind.u64.wrap ((q : Int) - 1) = (q' : Int)) ∧ IntKind.u64.wrap ((r : Int) + (y1 : Int)) = (r' : Int) ∧
      ((q < 4294967296 ∧ m1 ≤ m3 ∧ q = Q) ∨ ((4294967296 ≤ q ∨ (q < 4294967296 ∧ m3 < m1)) ∧ 1 ≤ q ∧ ((4294967296 ≤ r' ∧ q' = Q) ∨ (r' < 4294967296 ∧ q' ≤ 4294967297 ∧ q' * y1 + r' = u ∧ Q ≤ q' ∧ q' < q)))) := by
  refine ⟨q * y0, 4294967296 * r, 4294967296 * r + d, q - 1, r + y1, fun h => ?_, ?_, ?_, fun h => ?_, ?_, ?_⟩
  · have := Nat.mul_le_mul (show q ≤ 4294967295 by omega) (show y0 ≤ 4294967295 by omega)
    rw [← Int.natCast_mul]
    exact wrapN (by omega)
  · rw [show (4294967296 : Int) * (r : Int) = ((4294967296 * r : Nat) : Int) by omega]
    exact wrapN (by omega)
  · rw [show ((4294967296 * r : Nat) : Int) + (d : Int) = ((4294967296 * r + d : Nat) : Int) by omega]
    exact wrapN (by omega)
  · rw [show (q : Int) - 1 = ((q - 1 : Nat) : Int) by omega]
    exact wrapN (by omega)
  · rw [show (r : Int) + (y1 : Int) = ((r + y1 : Nat) : Int) by omega]
    exact wrapN (by omega)
  · have hstep : ∀ (_ : 4294967296 ≤ q ∨ 4294967296 * r + d < q * y0), 1 ≤ q ∧ ((4294967296 ≤ r + y1 ∧ q - 1 = Q) ∨ (r + y1 < 4294967296 ∧ q - 1 ≤ 4294967297 ∧ (q - 1) * y1 + (r + y1) = u ∧ Q ≤ q - 1 ∧ q - 1 < q)) := by
      intro ht
      have hdec := DivLaw.digit_dec hu hd hqr (hQ ▸ hge) ht
      rw [← hQ] at hdec
      have e : (q - 1) * y1 + (r + y1) = u := by
        have h : q * y1 = (q - 1) * y1 + y1 := by
          rw [← Nat.succ_mul]
          congr 1
          omega
        omega
      refine ⟨by omega, ?_⟩
      rcases Nat.lt_or_ge (r + y1) 4294967296 with h | h
      · exact .inr ⟨h, by omega, e, by omega, by omega⟩
      · refine .inl ⟨h, (DivLaw.digit_ok hu e (by rw [← hQ]; omega) ?_).trans hQ.symm⟩
        have := Nat.mul_le_mul (show q - 1 ≤ 4294967296 by omega) (show y0 ≤ 4294967295 by omega)
        omega
    rcases Nat.lt_or_ge q 4294967296 with h | h
    · rcases Nat.lt_or_ge (4294967296 * r + d) (q * y0) with hm | hm
      · exact .inr ⟨.inr ⟨h, hm⟩, hstep (.inr hm)⟩
      · exact .inl ⟨h, hm, (DivLaw.digit_ok hu hqr (hQ ▸ hge) hm).trans hQ.symm⟩
    · exact .inr ⟨.inl h, hstep (.inl h)⟩
def DInv (y1 u Q : Nat) (q r : Int) : Prop := ∃ qn rn : Nat, q = qn ∧ r = rn ∧ qn ≤ 4294967297 ∧ rn < 4294967296 ∧ qn * y1 + rn = u ∧ Q ≤ qn
theorem digit_roundI {y1 y0 u d Q : Nat} {q r : Int} (h1 : 2147483648 ≤ y1) (h2 : y1 < 4294967296) (hy0 : y0 < 4294967296) (hu : u < y1 * 4294967296 + y0) (hd : d < 4294967296) (hI : DInv y1 u Q q r) (hQ : Q = (u * 4294967296 + d) / (y1 * 4294967296 + y0)) :
    ∀ z : Int, z = Q → ∃ m1 m2 m3 q' r' : Int, (q < 4294967296 → IntKind.u64.wrap (q * (y0 : Int)) = m1) ∧ IntKind.u64.wrap (4294967296 * r) = m2 ∧ IntKind.u64.wrap (m2 + (d : Int)) = m3 ∧ (1 ≤ q → IntKind.u64.wrap (q - 1) = q') ∧ IntKind.u64.wrap (r + (y1 : Int)) = r' ∧
      ((q < 4294967296 ∧ ¬ m3 < m1 ∧ q = z) ∨ ((4294967296 ≤ q ∨ (q < 4294967296 ∧ m3 < m1)) ∧ 1 ≤ q ∧ ((4294967296 ≤ r' ∧ q' = z) ∨ (¬ 4294967296 ≤ r' ∧ DInv y1 u Q q' r' ∧ q' < q ∧ 0 ≤ q')))) := by
  rintro z rfl
  obtain ⟨qn, rn, rfl, rfl, i1, i2, i3, i4⟩ := hI
  obtain ⟨m1, m2, m3, q', r', n1, n2, n3, n4, n5, hc⟩ := digit_round h1 h2 hy0 hu hd i1 i2 i3 hQ i4
  refine ⟨m1, m2, m3, q', r', fun h => n1 (by omega), n2, n3, fun h => n4 (by omega), n5, ?_⟩
  rcases hc with ⟨a, b, rfl⟩ | ⟨a, b, c⟩
  · exact .inl ⟨by omega, by omega, rfl⟩
  · refine .inr ⟨by omega, by omega, ?_⟩
    rcases c with ⟨c1, rfl⟩ | ⟨c1, c2, c3, c4, c5⟩
    · exact .inl ⟨by omega, rfl⟩
    · exact .inr ⟨by omega, ⟨q', r', rfl, rfl, c2, c1, c3, c4⟩, by omega, by omega⟩
theorem last_eqs (Q1 Q0 : Nat) (hq1 : Q1 * 4294967296 + Q0 < 18446744073709551616) : ∃ b1 b2 : Nat, IntKind.u64.wrap ((Q1 : Int) * 4294967296) = (b1 : Int) ∧ b2 = Q1 * 4294967296 + Q0 ∧ IntKind.u64.wrap ((b1 : Int) + (Q0 : Int)) = (b2 : Int) := by
  refine ⟨Q1 * 4294967296 % 18446744073709551616, _, ?_, rfl, ?_⟩
  · rw [IntKind.wrap_u64]; omega
  · rw [IntKind.wrap_u64]; omega

set_option maxRecDepth 100000 in
set_option maxHeartbeats 4000000 in
theorem div64_high (hi lo y : Nat) (hh : 0 < hi) (hy : hi < y) (hy2 : y < 18446744073709551616) (hlo : lo < 18446744073709551616) (w : World) :
    Calls Tryz.prog 284 #[.int .u64 (hi : Int), .int .u64 (lo : Int), .int .u64 (y : Int)] w fun e w' => e = .returned (.tuple #[.int .u64 (((hi * 18446744073709551616 + lo) / y : Nat) : Int), .int .u64 (((hi * 18446744073709551616 + lo) % y : Nat) : Int)]) ∧ Ext w w' := by
  have hyz : ¬ (y : Int) = 0 := by omega
  have hl : ¬ (y : Int) ≤ hi := by omega
  have hhz : ¬ (hi : Int) = 0 := by omega
  obtain ⟨qq, hqq⟩ : ∃ q, q = (hi * 18446744073709551616 + lo) / y := ⟨_, rfl⟩
  obtain ⟨rest, hrest⟩ : ∃ q, q = (hi * 18446744073709551616 + lo) % y := ⟨_, rfl⟩
  rw [← hqq, ← hrest]
  have Hqq := Lib.hid hqq
  have Hrest := Lib.hid hrest
  clear hqq hrest
  go_enter Tryz.func284, Tryz.ntmps284
  go_wp2_with fail
  refine (bLz64_c y _ (by omega) hy2).mono ?_
  rintro e w1 ⟨rfl, rfl⟩
  have hb := bitLen_bounds y (by omega) hy2
  generalize Lib.bitLen y = k at *
  obtain ⟨hb1, hb2, hb3, hb4⟩ := hb
  obtain ⟨P, Y, y1, y0, u, d1, d0, hP, hYP, hY, hy0, hy1a, hy1b, hu, hd1, hd0, hN, e1, e2, e3, e4, e5, e6, e7, e8⟩ := div64_prep hi lo y k hy hlo hb1 hb2 hb3 hb4
  obtain ⟨q0, c0, r0, hq0, hqr0, hr0, f1, f2, f3⟩ := start_eqs u y1 (by omega) (by omega)
  obtain ⟨dd, hd⟩ : ∃ dd, dd = d1 * 4294967296 + d0 := ⟨_, rfl⟩
  rw [← hd] at e5 e6 e7
  have hy1z : ¬ (y1 : Int) = 0 := by omega
  have HYP := Lib.hid hYP
  have HY := Lib.hid hY
  have HN := Lib.hid hN
  have HQ0 := Lib.hid hq0
  have HQR := Lib.hid hqr0
  have HD := Lib.hid hd
  have HE8 := Lib.hid e8
  clear hb3 hb4 hYP hY hN hq0 hqr0 hd e8
  obtain ⟨Q1, hQ1⟩ : ∃ Q, Q = (u * 4294967296 + d1) / Y := ⟨_, rfl⟩
  have hYpos : 0 < Y := by omega
  have hY64 : Y < 18446744073709551616 := by have := HY.out; omega
  obtain ⟨R1, a1, a2, a3, hR1, hR1y, g1, g2, g3, g4⟩ := digit_eqs u d1 Y Q1 hYpos hY64 hQ1
  obtain ⟨t0, c1, t1, ht0, htr, ht1, g5, g6, g7⟩ := start_eqs R1 y1 (by omega) (by omega)
  obtain ⟨Q0, hQ0⟩ : ∃ Q, Q = (R1 * 4294967296 + d0) / Y := ⟨_, rfl⟩
  obtain ⟨R0, b1, b2, b3, hR0, hR0y, k1, k2, k3, k4⟩ := digit_eqs R1 d0 Y Q0 hYpos hY64 hQ0
  have htwo := DivLaw.two_digits hYpos hQ1 hR1 hQ0
  rw [← HN.out, ← hR0] at htwo
  rw [HYP.out] at htwo
  obtain ⟨hs1, hs2⟩ := DivLaw.shifted (n := hi * 18446744073709551616 + lo) (y := y) hP
  rw [hs1] at htwo
  rw [← htwo.2] at hs2
  have hqb : Q1 * 4294967296 + Q0 < 18446744073709551616 := by
    rw [htwo.1]
    rw [Nat.div_lt_iff_lt_mul (by omega)]
    have := Nat.mul_le_mul_right 18446744073709551616 (show hi + 1 ≤ y from hy)
    omega
  obtain ⟨v1, v2, hv1, hv2, hv3⟩ := last_eqs Q1 Q0 hqb
  have hsh : (R0 : Int) / 2 ^ (64 - k) = (rest : Int) := by
    rw [Hrest.out, ← hs2, ← HE8.out R0]
    push_cast; rfl
  obtain rfl : v2 = qq := by rw [hv2, htwo.1, Hqq.out]
  obtain ⟨z1, hz1⟩ : ∃ z : Int, z = Q1 := ⟨_, rfl⟩
  obtain ⟨z0, hz0⟩ : ∃ z : Int, z = Q0 := ⟨_, rfl⟩
  rw [← hz1] at g3 hv1
  rw [← hz0] at k3 hv3
  have HZ1 := Lib.hid hz1
  have HZ0 := Lib.hid hz0
  clear hz1 hz0
  have HQ1 := Lib.hid hQ1
  have HQ0' := Lib.hid hQ0
  have HT0 := Lib.hid ht0
  have HTR := Lib.hid htr
  have hu2 : u < y1 * 4294967296 + y0 := by rw [← HY.out]; exact hu
  have hR2 : R1 < y1 * 4294967296 + y0 := by rw [← HY.out]; exact hR1y
  have HQ1y : Hid (Q1 = (u * 4294967296 + d1) / (y1 * 4294967296 + y0)) := Lib.hid (by rw [← HY.out]; exact hQ1)
  have HQ0y : Hid (Q0 = (R1 * 4294967296 + d0) / (y1 * 4294967296 + y0)) := Lib.hid (by rw [← HY.out]; exact hQ0)
  have HS1 : Hid (Q1 ≤ q0) := Lib.hid (by
    rw [HQ1.out, HQ0.out, HY.out]
    rcases DivLaw.digit_start (u := u) (d := d1) (yn0 := y0) hy1a with h | h
    · exact h
    · omega)
  have HS0 : Hid (Q0 ≤ t0) := Lib.hid (by
    rw [HQ0'.out, HT0.out, HY.out]
    rcases DivLaw.digit_start (u := R1) (d := d0) (yn0 := y0) hy1a with h | h
    · exact h
    · omega)
  have HB1 : Hid (q0 ≤ 4294967297) := Lib.hid (by rw [HQ0.out]; exact DivLaw.digit_bound hy1a hy0 hu2)
  have HB0 : Hid (t0 ≤ 4294967297) := Lib.hid (by rw [HT0.out]; exact DivLaw.digit_bound hy1a hy0 hR2)
  have HU2 := Lib.hid hu2
  have HR2 := Lib.hid hR2
  have HR0 := Lib.hid hr0
  have HT1 := Lib.hid ht1
  clear hQ1 hQ0 ht0 htr hR1 hR0 htwo hs1 hs2 hqb hv2 hu2 hR2 hYpos hY64 hu hR1y hR0y hr0 ht1
  go_wp2_with fail
  go_loopw [15, 16] (fun qv rv wr => ∃ q r : Int, qv = .int .u64 q ∧ rv = .int .u64 r ∧ Hid (DInv y1 u Q1 q r) ∧ wr = w1) (fun qv _ _ => (intOf qv).toNat)
  case atStart => exact ⟨q0, r0, rfl, rfl, Lib.hid ⟨q0, r0, rfl, rfl, HB1.out, by have := HR0.out; omega, HQR.out, HS1.out⟩, rfl⟩
  case round =>
    obtain ⟨q, r, rfl, rfl, HI, rfl⟩ := hrel
    obtain ⟨m1, m2, m3, q', r', n1, n2, n3, n4, n5, hcase⟩ := digit_roundI hy1a hy1b hy0 HU2.out hd1 HI.out HQ1y.out z1 HZ1.out
    clear HI
    rcases hcase with ⟨hq1, hm, rfl⟩ | ⟨hq1 | ⟨hq1, hm⟩, hq2, ⟨hr1, rfl⟩ | ⟨hr1, hI, j3, j4⟩⟩
    · have n1a := n1 hq1
      clear n1 n4 n5
      go_wp2_with fail
      obtain ⟨wo, rfl⟩ : ∃ wo : World, wo = wr := ⟨_, rfl⟩
      go_loopw [16, 18] (fun rv qv wr => ∃ q r : Int, qv = .int .u64 q ∧ rv = .int .u64 r ∧ Hid (DInv y1 R1 Q0 q r) ∧ wr = wo) (fun _ qv _ => (intOf qv).toNat)
      case atStart => exact ⟨t0, t1, rfl, rfl, Lib.hid ⟨t0, t1, rfl, rfl, HB0.out, by have := HT1.out; omega, HTR.out, HS0.out⟩, rfl⟩
      case round =>
        obtain ⟨q, r, rfl, rfl, HI2, rfl⟩ := hrel
        obtain ⟨m1, m2, m3, q', r', n1, n2, n3, n4, n5, hcase⟩ := digit_roundI hy1a hy1b hy0 HR2.out hd0 HI2.out HQ0y.out z0 HZ0.out
        clear HI2
        rcases hcase with ⟨hq1, hm, rfl⟩ | ⟨hq1 | ⟨hq1, hm⟩, hq2, ⟨hr1, rfl⟩ | ⟨hr1, hI, j3, j4⟩⟩
        · have n1a := n1 hq1
          clear n1 n4 n5
          go_wp2_with fail
          (try simp only [Exit.inBlock, Exit.then]); apply bodyPost_ret; (focus (simp only [results, Tryz.results284]; go_simp; try rfl)); rfl
          exact ⟨rfl, Ext.refl _⟩
        · have n4a := n4 hq2
          clear n1 n4 n2 n3
          go_wp2_with fail
          (try simp only [Exit.inBlock, Exit.then]); apply bodyPost_ret; (focus (simp only [results, Tryz.results284]; go_simp; try rfl)); rfl
          exact ⟨rfl, Ext.refl _⟩
        · have n4a := n4 hq2
          have HIa := Lib.hid hI
          clear n1 n4 n2 n3 hI
          go_wp2_with fail
          go_roundw
          case rel => exact ⟨q', r', rfl, rfl, HIa, trivial⟩
          case measure => simp [intOf]; omega
        · have n1a := n1 hq1
          have n4a := n4 hq2
          clear n1 n4
          go_wp2_with fail
          (try simp only [Exit.inBlock, Exit.then]); apply bodyPost_ret; (focus (simp only [results, Tryz.results284]; go_simp; try rfl)); rfl
          exact ⟨rfl, Ext.refl _⟩
        · have n1a := n1 hq1
          have n4a := n4 hq2
          have HIa := Lib.hid hI
          clear n1 n4 hI
          go_wp2_with fail
          go_roundw
          case rel => exact ⟨q', r', rfl, rfl, HIa, trivial⟩
          case measure => simp [intOf]; omega
    · have n4a := n4 hq2
      clear n1 n4 n2 n3
      go_wp2_with fail
      obtain ⟨wo, rfl⟩ : ∃ wo : World, wo = wr := ⟨_, rfl⟩
      go_loopw [16, 18] (fun rv qv wr => ∃ q r : Int, qv = .int .u64 q ∧ rv = .int .u64 r ∧ Hid (DInv y1 R1 Q0 q r) ∧ wr = wo) (fun _ qv _ => (intOf qv).toNat)
      case atStart => exact ⟨t0, t1, rfl, rfl, Lib.hid ⟨t0, t1, rfl, rfl, HB0.out, by have := HT1.out; omega, HTR.out, HS0.out⟩, rfl⟩
      case round =>
        obtain ⟨q, r, rfl, rfl, HI2, rfl⟩ := hrel
        obtain ⟨m1, m2, m3, q', r', n1, n2, n3, n4, n5, hcase⟩ := digit_roundI hy1a hy1b hy0 HR2.out hd0 HI2.out HQ0y.out z0 HZ0.out
        clear HI2
        rcases hcase with ⟨hq1, hm, rfl⟩ | ⟨hq1 | ⟨hq1, hm⟩, hq2, ⟨hr1, rfl⟩ | ⟨hr1, hI, j3, j4⟩⟩
        · have n1a := n1 hq1
          clear n1 n4 n5
          go_wp2_with fail
          (try simp only [Exit.inBlock, Exit.then]); apply bodyPost_ret; (focus (simp only [results, Tryz.results284]; go_simp; try rfl)); rfl
          exact ⟨rfl, Ext.refl _⟩
        · have n4a := n4 hq2
          clear n1 n4 n2 n3
          go_wp2_with fail
          (try simp only [Exit.inBlock, Exit.then]); apply bodyPost_ret; (focus (simp only [results, Tryz.results284]; go_simp; try rfl)); rfl
          exact ⟨rfl, Ext.refl _⟩
        · have n4a := n4 hq2
          have HIa := Lib.hid hI
          clear n1 n4 n2 n3 hI
          go_wp2_with fail
          go_roundw
          case rel => exact ⟨q', r', rfl, rfl, HIa, trivial⟩
          case measure => simp [intOf]; omega
        · have n1a := n1 hq1
          have n4a := n4 hq2
          clear n1 n4
          go_wp2_with fail
          (try simp only [Exit.inBlock, Exit.then]); apply bodyPost_ret; (focus (simp only [results, Tryz.results284]; go_simp; try rfl)); rfl
          exact ⟨rfl, Ext.refl _⟩
        · have n1a := n1 hq1
          have n4a := n4 hq2
          have HIa := Lib.hid hI
          clear n1 n4 hI
          go_wp2_with fail
          go_roundw
          case rel => exact ⟨q', r', rfl, rfl, HIa, trivial⟩
          case measure => simp [intOf]; omega
    · have n4a := n4 hq2
      have HIa := Lib.hid hI
      clear n1 n4 n2 n3 hI
      go_wp2_with fail
      go_roundw
      case rel => exact ⟨q', r', rfl, rfl, HIa, trivial⟩
      case measure => simp [intOf]; omega
    · have n1a := n1 hq1
      have n4a := n4 hq2
      clear n1 n4
      go_wp2_with fail
      obtain ⟨wo, rfl⟩ : ∃ wo : World, wo = wr := ⟨_, rfl⟩
      go_loopw [16, 18] (fun rv qv wr => ∃ q r : Int, qv = .int .u64 q ∧ rv = .int .u64 r ∧ Hid (DInv y1 R1 Q0 q r) ∧ wr = wo) (fun _ qv _ => (intOf qv).toNat)
      case atStart => exact ⟨t0, t1, rfl, rfl, Lib.hid ⟨t0, t1, rfl, rfl, HB0.out, by have := HT1.out; omega, HTR.out, HS0.out⟩, rfl⟩
      case round =>
        obtain ⟨q, r, rfl, rfl, HI2, rfl⟩ := hrel
        obtain ⟨m1, m2, m3, q', r', n1, n2, n3, n4, n5, hcase⟩ := digit_roundI hy1a hy1b hy0 HR2.out hd0 HI2.out HQ0y.out z0 HZ0.out
        clear HI2
        rcases hcase with ⟨hq1, hm, rfl⟩ | ⟨hq1 | ⟨hq1, hm⟩, hq2, ⟨hr1, rfl⟩ | ⟨hr1, hI, j3, j4⟩⟩
        · have n1a := n1 hq1
          clear n1 n4 n5
          go_wp2_with fail
          (try simp only [Exit.inBlock, Exit.then]); apply bodyPost_ret; (focus (simp only [results, Tryz.results284]; go_simp; try rfl)); rfl
          exact ⟨rfl, Ext.refl _⟩
        · have n4a := n4 hq2
          clear n1 n4 n2 n3
          go_wp2_with fail
          (try simp only [Exit.inBlock, Exit.then]); apply bodyPost_ret; (focus (simp only [results, Tryz.results284]; go_simp; try rfl)); rfl
          exact ⟨rfl, Ext.refl _⟩
        · have n4a := n4 hq2
          have HIa := Lib.hid hI
          clear n1 n4 n2 n3 hI
          go_wp2_with fail
          go_roundw
          case rel => exact ⟨q', r', rfl, rfl, HIa, trivial⟩
          case measure => simp [intOf]; omega
        · have n1a := n1 hq1
          have n4a := n4 hq2
          clear n1 n4
          go_wp2_with fail
          (try simp only [Exit.inBlock, Exit.then]); apply bodyPost_ret; (focus (simp only [results, Tryz.results284]; go_simp; try rfl)); rfl
          exact ⟨rfl, Ext.refl _⟩
        · have n1a := n1 hq1
          have n4a := n4 hq2
          have HIa := Lib.hid hI
          clear n1 n4 hI
          go_wp2_with fail
          go_roundw
          case rel => exact ⟨q', r', rfl, rfl, HIa, trivial⟩
          case measure => simp [intOf]; omega
    · have n1a := n1 hq1
      have n4a := n4 hq2
      have HIa := Lib.hid hI
      clear n1 n4 hI
      go_wp2_with fail
      go_roundw
      case rel => exact ⟨q', r', rfl, rfl, HIa, trivial⟩
      case measure => simp [intOf]; omega
theorem bDiv64_c (hi lo y : Nat) (hy : hi < y) (hy2 : y < 18446744073709551616) (hlo : lo < 18446744073709551616) (w : World) :
    Calls Tryz.prog 284 #[.int .u64 (hi : Int), .int .u64 (lo : Int), .int .u64 (y : Int)] w fun e w' => e = .returned (.tuple #[.int .u64 (((hi * 18446744073709551616 + lo) / y : Nat) : Int), .int .u64 (((hi * 18446744073709551616 + lo) % y : Nat) : Int)]) ∧ Ext w w' := by
  rcases Nat.eq_zero_or_pos hi with rfl | hh
  · have h := div64_low lo y hy hlo w
    rw [Nat.zero_mul, Nat.zero_add]
    exact h
  · exact div64_high hi lo y hh hy hy2 hlo w
end Go.Proofs.YtiladlangkjoiaaGreat
