/- Missions that are valid: the reference. No condition. Campaigns that are valid: the reference; campaigns that are greater than the statements cover. No condition. -/
import Derived.Test.YtiladlangkjoiaaGreatPushMem
import Derived.Test.YtiladlangkjoiaaGreatPushLaw
import Derived.Test.YtiladlangkjoiaaGreatOwnMis
namespace Go.Proofs.YtiladlangkjoiaaGreat
open Go.RowKit

set_option maxHeartbeats 400000 in
theorem qBetween_c (a b c : Int) (w : World) :
    Calls Tryz.prog 93 #[.int .i64 a, .int .i64 b, .int .i64 c] w fun e w' => e = .returned (.bool (within a b c)) ∧ Ext w w' := by
  go_enter Tryz.func93, Tryz.ntmps93
  go_wp2
  all_goals go_ret
  all_goals exact ⟨ret_b (by simp [within, *] <;> omega), Ext.refl _⟩
set_option maxHeartbeats 400000 in
theorem qSpan_c (lo hi a b : Int) (w : World) :
    Calls Tryz.prog 92 #[.agg #[.int .i64 lo, .int .i64 hi], .int .i64 a, .int .i64 b] w fun e w' => e = .returned (.int .i64 (boundErr ⟨lo, hi⟩ a b)) ∧ Ext w w' := by
  unfold boundErr
  dsimp only
  by_cases h1 : hi < lo
  · rw [if_pos h1]
    go_enter Tryz.func92, Tryz.ntmps92
    go_wp2_with fail
    go_ret
    exact ⟨rfl, ext_by⟩
  · rw [if_neg h1]
    by_cases h2 : lo < a
    · rw [if_pos (.inl h2)]
      go_enter Tryz.func92, Tryz.ntmps92
      go_wp2_with fail
      go_ret
      exact ⟨rfl, ext_by⟩
    · by_cases h3 : b < hi
      · rw [if_pos (.inr h3)]
        go_enter Tryz.func92, Tryz.ntmps92
        go_wp2_with fail
        go_ret
        exact ⟨rfl, ext_by⟩
      · rw [if_neg (by omega)]
        go_enter Tryz.func92, Tryz.ntmps92
        go_wp2_with fail
        go_ret
        exact ⟨rfl, ext_by⟩
set_option maxRecDepth 20000 in
set_option maxHeartbeats 4000000 in
theorem qCheckMission_c (m : Mis) (w : World) :
    Calls Tryz.prog 25 #[.agg #[.int .i64 m.kind, .int .i64 m.launch, .int .i64 m.arrive, .int .i64 m.dur, .int .i64 m.mass.lo, .int .i64 m.mass.hi, .int .i64 m.power.lo, .int .i64 m.power.hi, .int .i64 m.mult.lo, .int .i64 m.mult.hi, .int .i64 m.dir.x, .int .i64 m.dir.y, .bool m.reserve, .int .i64 m.cost]] w fun e w' => e = .returned (.int .i64 (misErr m)) ∧ Ext w w' := by
  have HW := Lib.hid fun x a b W => qBetween_c x a b W
  have H1 := Lib.hid fun W => qSpan_c m.mass.lo m.mass.hi 1 1048576 W
  have H2 := Lib.hid fun W => qSpan_c m.power.lo m.power.hi 0 1099511627776 W
  have H3 := Lib.hid fun W => qSpan_c m.mult.lo m.mult.hi 1000 10000 W
  obtain ⟨R, hR⟩ : ∃ R, misErr m = R := ⟨_, rfl⟩
  rw [hR]
  have HR := Lib.hid hR
  clear hR
  by_cases h1 : m.kind < 1 ∨ 4 < m.kind
  · have h2 : R = 4 := by rw [← HR.out, misErr, if_pos h1]
    subst h2
    rcases h1 with h1 | h1
    all_goals
      go_enter Tryz.func25, Tryz.ntmps25
      go_wp2_with fail
      go_ret
      exact ⟨rfl, ext_by⟩
  · obtain ⟨h1a, h1b⟩ : 1 ≤ m.kind ∧ m.kind ≤ 4 := by omega
    by_cases h2 : m.launch < 0 ∨ m.arrive ≤ m.launch ∨ 1073741824 < m.arrive ∨ m.dur < 1 ∨ 100 < m.dur
    · have h3 : R = 2 := by rw [← HR.out, misErr, if_neg (by omega), if_pos (by omega)]
      subst h3
      clear HR h1
      by_cases h4 : m.launch < 0
      · go_enter Tryz.func25, Tryz.ntmps25
        go_wp2_with fail
        go_ret
        exact ⟨rfl, ext_by⟩
      · by_cases h5 : m.arrive ≤ m.launch
        · go_enter Tryz.func25, Tryz.ntmps25
          go_wp2_with fail
          go_ret
          exact ⟨rfl, ext_by⟩
        · by_cases h6 : 1073741824 < m.arrive
          · go_enter Tryz.func25, Tryz.ntmps25
            go_wp2_with fail
            go_ret
            exact ⟨rfl, ext_by⟩
          · by_cases h7 : m.dur < 1
            · go_enter Tryz.func25, Tryz.ntmps25
              go_wp2_with fail
              go_ret
              exact ⟨rfl, ext_by⟩
            · have h8 : 100 < m.dur := by omega
              go_enter Tryz.func25, Tryz.ntmps25
              go_wp2_with fail
              go_ret
              exact ⟨rfl, ext_by⟩
    · obtain ⟨h2a, h2b, h2c, h2d, h2e⟩ : 0 ≤ m.launch ∧ m.launch < m.arrive ∧ m.arrive ≤ 1073741824 ∧ 1 ≤ m.dur ∧ m.dur ≤ 100 := by omega
      have hR2 := HR.out
      rw [misErr, if_neg h1, if_neg h2] at hR2
      clear HR h1 h2
      by_cases e1 : boundErr ⟨m.mass.lo, m.mass.hi⟩ 1 1048576 = 0
      · rw [if_neg (fun h => h e1)] at hR2
        rw [e1] at H1
        by_cases e2 : boundErr ⟨m.power.lo, m.power.hi⟩ 0 1099511627776 = 0
        · rw [if_neg (fun h => h e2)] at hR2
          rw [e2] at H2
          by_cases e3 : boundErr ⟨m.mult.lo, m.mult.hi⟩ 1000 10000 = 0
          · rw [if_neg (fun h => h e3)] at hR2
            rw [e3] at H3
            have HT := Lib.hid hR2
            clear hR2 e1 e2 e3
            have W1 := Lib.hid fun W => HW.out m.dir.x (-4096) 4096 W
            have W2 := Lib.hid fun W => HW.out m.dir.y (-4096) 4096 W
            have hcost := within_iff m.cost 0 1000
            have hci : Hid (within m.cost 0 1000 = true ↔ 0 ≤ m.cost ∧ m.cost ≤ 1000) := hcost
            generalize within m.dir.x (-4096) 4096 = b1 at *
            generalize within m.dir.y (-4096) 4096 = b2 at *
            generalize within m.cost 0 1000 = b3 at *
            clear HW hcost
            cases b1
            · have h2 : R = 2 := by rw [← HT.out]; rfl
              subst h2
              clear HT hci
              go_enter Tryz.func25, Tryz.ntmps25
              go_wp2_with fail
              refine (H1.out _).mono ?_
              rintro e w1 ⟨rfl, h1⟩
              obtain ⟨hc_w1, hf_w1, hz_w1⟩ := bcell h1; (try simp only [szA] at hz_w1); (try have := wz0 w w1); (try have := wz1 w w1); (try have := wz2 w w1); (try have := wz3 w w1); (try have := wz4 w w1)
              go_wp2_with fail
              refine (H2.out _).mono ?_
              rintro e w2 ⟨rfl, h2⟩
              obtain ⟨hc_w2, hf_w2, hz_w2⟩ := bcell h2; (try simp only [szA] at hz_w2); (try have := wz0 w w2); (try have := wz1 w w2); (try have := wz2 w w2); (try have := wz3 w w2); (try have := wz4 w w2)
              go_wp2_with fail
              refine (H3.out _).mono ?_
              rintro e w3 ⟨rfl, h3⟩
              obtain ⟨hc_w3, hf_w3, hz_w3⟩ := bcell h3; (try simp only [szA] at hz_w3); (try have := wz0 w w3); (try have := wz1 w w3); (try have := wz2 w w3); (try have := wz3 w w3); (try have := wz4 w w3)
              go_wp2_with fail
              refine (W1.out _).mono ?_
              rintro e w4 ⟨rfl, h4⟩
              obtain ⟨hc_w4, hf_w4, hz_w4⟩ := bcell h4; (try simp only [szA] at hz_w4); (try have := wz0 w w4); (try have := wz1 w w4); (try have := wz2 w w4); (try have := wz3 w w4); (try have := wz4 w w4)
              go_wp2_with fail
              go_ret
              exact ⟨rfl, ext_by⟩
            · cases b2
              · have h2 : R = 2 := by rw [← HT.out]; rfl
                subst h2
                clear HT hci
                go_enter Tryz.func25, Tryz.ntmps25
                go_wp2_with fail
                refine (H1.out _).mono ?_
                rintro e w1 ⟨rfl, h1⟩
                obtain ⟨hc_w1, hf_w1, hz_w1⟩ := bcell h1; (try simp only [szA] at hz_w1); (try have := wz0 w w1); (try have := wz1 w w1); (try have := wz2 w w1); (try have := wz3 w w1); (try have := wz4 w w1)
                go_wp2_with fail
                refine (H2.out _).mono ?_
                rintro e w2 ⟨rfl, h2⟩
                obtain ⟨hc_w2, hf_w2, hz_w2⟩ := bcell h2; (try simp only [szA] at hz_w2); (try have := wz0 w w2); (try have := wz1 w w2); (try have := wz2 w w2); (try have := wz3 w w2); (try have := wz4 w w2)
                go_wp2_with fail
                refine (H3.out _).mono ?_
                rintro e w3 ⟨rfl, h3⟩
                obtain ⟨hc_w3, hf_w3, hz_w3⟩ := bcell h3; (try simp only [szA] at hz_w3); (try have := wz0 w w3); (try have := wz1 w w3); (try have := wz2 w w3); (try have := wz3 w w3); (try have := wz4 w w3)
                go_wp2_with fail
                refine (W1.out _).mono ?_
                rintro e w4 ⟨rfl, h4⟩
                obtain ⟨hc_w4, hf_w4, hz_w4⟩ := bcell h4; (try simp only [szA] at hz_w4); (try have := wz0 w w4); (try have := wz1 w w4); (try have := wz2 w w4); (try have := wz3 w w4); (try have := wz4 w w4)
                go_wp2_with fail
                refine (W2.out _).mono ?_
                rintro e w5 ⟨rfl, h5⟩
                obtain ⟨hc_w5, hf_w5, hz_w5⟩ := bcell h5; (try simp only [szA] at hz_w5); (try have := wz0 w w5); (try have := wz1 w w5); (try have := wz2 w w5); (try have := wz3 w w5); (try have := wz4 w w5)
                go_wp2_with fail
                go_ret
                exact ⟨rfl, ext_by⟩
              · by_cases hc1 : m.cost < 0
                · have hb3 : b3 = false := by
                    cases b3
                    · rfl
                    · exact absurd (hci.out.1 rfl) (by omega)
                  have h2 : R = 2 := by rw [← HT.out, hb3]; rfl
                  subst h2
                  clear HT hci hb3
                  go_enter Tryz.func25, Tryz.ntmps25
                  go_wp2_with fail
                  refine (H1.out _).mono ?_
                  rintro e w1 ⟨rfl, h1⟩
                  obtain ⟨hc_w1, hf_w1, hz_w1⟩ := bcell h1; (try simp only [szA] at hz_w1); (try have := wz0 w w1); (try have := wz1 w w1); (try have := wz2 w w1); (try have := wz3 w w1); (try have := wz4 w w1)
                  go_wp2_with fail
                  refine (H2.out _).mono ?_
                  rintro e w2 ⟨rfl, h2⟩
                  obtain ⟨hc_w2, hf_w2, hz_w2⟩ := bcell h2; (try simp only [szA] at hz_w2); (try have := wz0 w w2); (try have := wz1 w w2); (try have := wz2 w w2); (try have := wz3 w w2); (try have := wz4 w w2)
                  go_wp2_with fail
                  refine (H3.out _).mono ?_
                  rintro e w3 ⟨rfl, h3⟩
                  obtain ⟨hc_w3, hf_w3, hz_w3⟩ := bcell h3; (try simp only [szA] at hz_w3); (try have := wz0 w w3); (try have := wz1 w w3); (try have := wz2 w w3); (try have := wz3 w w3); (try have := wz4 w w3)
                  go_wp2_with fail
                  refine (W1.out _).mono ?_
                  rintro e w4 ⟨rfl, h4⟩
                  obtain ⟨hc_w4, hf_w4, hz_w4⟩ := bcell h4; (try simp only [szA] at hz_w4); (try have := wz0 w w4); (try have := wz1 w w4); (try have := wz2 w w4); (try have := wz3 w w4); (try have := wz4 w w4)
                  go_wp2_with fail
                  refine (W2.out _).mono ?_
                  rintro e w5 ⟨rfl, h5⟩
                  obtain ⟨hc_w5, hf_w5, hz_w5⟩ := bcell h5; (try simp only [szA] at hz_w5); (try have := wz0 w w5); (try have := wz1 w w5); (try have := wz2 w w5); (try have := wz3 w w5); (try have := wz4 w w5)
                  go_wp2_with fail
                  go_ret
                  exact ⟨rfl, ext_by⟩
                · by_cases hc2 : 1000 < m.cost
                  · have hb3 : b3 = false := by
                      cases b3
                      · rfl
                      · exact absurd (hci.out.1 rfl) (by omega)
                    have h2 : R = 2 := by rw [← HT.out, hb3]; rfl
                    subst h2
                    clear HT hci hb3
                    go_enter Tryz.func25, Tryz.ntmps25
                    go_wp2_with fail
                    refine (H1.out _).mono ?_
                    rintro e w1 ⟨rfl, h1⟩
                    obtain ⟨hc_w1, hf_w1, hz_w1⟩ := bcell h1; (try simp only [szA] at hz_w1); (try have := wz0 w w1); (try have := wz1 w w1); (try have := wz2 w w1); (try have := wz3 w w1); (try have := wz4 w w1)
                    go_wp2_with fail
                    refine (H2.out _).mono ?_
                    rintro e w2 ⟨rfl, h2⟩
                    obtain ⟨hc_w2, hf_w2, hz_w2⟩ := bcell h2; (try simp only [szA] at hz_w2); (try have := wz0 w w2); (try have := wz1 w w2); (try have := wz2 w w2); (try have := wz3 w w2); (try have := wz4 w w2)
                    go_wp2_with fail
                    refine (H3.out _).mono ?_
                    rintro e w3 ⟨rfl, h3⟩
                    obtain ⟨hc_w3, hf_w3, hz_w3⟩ := bcell h3; (try simp only [szA] at hz_w3); (try have := wz0 w w3); (try have := wz1 w w3); (try have := wz2 w w3); (try have := wz3 w w3); (try have := wz4 w w3)
                    go_wp2_with fail
                    refine (W1.out _).mono ?_
                    rintro e w4 ⟨rfl, h4⟩
                    obtain ⟨hc_w4, hf_w4, hz_w4⟩ := bcell h4; (try simp only [szA] at hz_w4); (try have := wz0 w w4); (try have := wz1 w w4); (try have := wz2 w w4); (try have := wz3 w w4); (try have := wz4 w w4)
                    go_wp2_with fail
                    refine (W2.out _).mono ?_
                    rintro e w5 ⟨rfl, h5⟩
                    obtain ⟨hc_w5, hf_w5, hz_w5⟩ := bcell h5; (try simp only [szA] at hz_w5); (try have := wz0 w w5); (try have := wz1 w w5); (try have := wz2 w w5); (try have := wz3 w w5); (try have := wz4 w w5)
                    go_wp2_with fail
                    go_ret
                    exact ⟨rfl, ext_by⟩
                  · have hb3 : b3 = true := hci.out.2 (by omega)
                    have h2 : R = 0 := by rw [← HT.out, hb3]; rfl
                    subst h2
                    clear HT hci hb3
                    go_enter Tryz.func25, Tryz.ntmps25
                    go_wp2_with fail
                    refine (H1.out _).mono ?_
                    rintro e w1 ⟨rfl, h1⟩
                    obtain ⟨hc_w1, hf_w1, hz_w1⟩ := bcell h1; (try simp only [szA] at hz_w1); (try have := wz0 w w1); (try have := wz1 w w1); (try have := wz2 w w1); (try have := wz3 w w1); (try have := wz4 w w1)
                    go_wp2_with fail
                    refine (H2.out _).mono ?_
                    rintro e w2 ⟨rfl, h2⟩
                    obtain ⟨hc_w2, hf_w2, hz_w2⟩ := bcell h2; (try simp only [szA] at hz_w2); (try have := wz0 w w2); (try have := wz1 w w2); (try have := wz2 w w2); (try have := wz3 w w2); (try have := wz4 w w2)
                    go_wp2_with fail
                    refine (H3.out _).mono ?_
                    rintro e w3 ⟨rfl, h3⟩
                    obtain ⟨hc_w3, hf_w3, hz_w3⟩ := bcell h3; (try simp only [szA] at hz_w3); (try have := wz0 w w3); (try have := wz1 w w3); (try have := wz2 w w3); (try have := wz3 w w3); (try have := wz4 w w3)
                    go_wp2_with fail
                    refine (W1.out _).mono ?_
                    rintro e w4 ⟨rfl, h4⟩
                    obtain ⟨hc_w4, hf_w4, hz_w4⟩ := bcell h4; (try simp only [szA] at hz_w4); (try have := wz0 w w4); (try have := wz1 w w4); (try have := wz2 w w4); (try have := wz3 w w4); (try have := wz4 w w4)
                    go_wp2_with fail
                    refine (W2.out _).mono ?_
                    rintro e w5 ⟨rfl, h5⟩
                    obtain ⟨hc_w5, hf_w5, hz_w5⟩ := bcell h5; (try simp only [szA] at hz_w5); (try have := wz0 w w5); (try have := wz1 w w5); (try have := wz2 w w5); (try have := wz3 w w5); (try have := wz4 w w5)
                    go_wp2_with fail
                    go_ret
                    exact ⟨rfl, ext_by⟩
          · rw [if_pos e3] at hR2
            have HT := Lib.hid hR2
            clear hR2 e1 e2
            generalize boundErr ⟨m.mult.lo, m.mult.hi⟩ 1000 10000 = E3 at *
            have h2 : R = E3 := HT.out.symm
            subst h2
            clear HT
            go_enter Tryz.func25, Tryz.ntmps25
            go_wp2_with fail
            refine (H1.out _).mono ?_
            rintro e w1 ⟨rfl, h1⟩
            obtain ⟨hc_w1, hf_w1, hz_w1⟩ := bcell h1; (try simp only [szA] at hz_w1); (try have := wz0 w w1); (try have := wz1 w w1); (try have := wz2 w w1); (try have := wz3 w w1); (try have := wz4 w w1)
            go_wp2_with fail
            refine (H2.out _).mono ?_
            rintro e w2 ⟨rfl, h2⟩
            obtain ⟨hc_w2, hf_w2, hz_w2⟩ := bcell h2; (try simp only [szA] at hz_w2); (try have := wz0 w w2); (try have := wz1 w w2); (try have := wz2 w w2); (try have := wz3 w w2); (try have := wz4 w w2)
            go_wp2_with fail
            refine (H3.out _).mono ?_
            rintro e w3 ⟨rfl, h3⟩
            obtain ⟨hc_w3, hf_w3, hz_w3⟩ := bcell h3; (try simp only [szA] at hz_w3); (try have := wz0 w w3); (try have := wz1 w w3); (try have := wz2 w w3); (try have := wz3 w w3); (try have := wz4 w w3)
            go_wp2_with fail
            go_ret
            exact ⟨rfl, ext_by⟩
        · rw [if_pos e2] at hR2
          have HT := Lib.hid hR2
          clear hR2 e1
          generalize boundErr ⟨m.power.lo, m.power.hi⟩ 0 1099511627776 = E3 at *
          have h2 : R = E3 := HT.out.symm
          subst h2
          clear HT
          go_enter Tryz.func25, Tryz.ntmps25
          go_wp2_with fail
          refine (H1.out _).mono ?_
          rintro e w1 ⟨rfl, h1⟩
          obtain ⟨hc_w1, hf_w1, hz_w1⟩ := bcell h1; (try simp only [szA] at hz_w1); (try have := wz0 w w1); (try have := wz1 w w1); (try have := wz2 w w1); (try have := wz3 w w1); (try have := wz4 w w1)
          go_wp2_with fail
          refine (H2.out _).mono ?_
          rintro e w2 ⟨rfl, h2⟩
          obtain ⟨hc_w2, hf_w2, hz_w2⟩ := bcell h2; (try simp only [szA] at hz_w2); (try have := wz0 w w2); (try have := wz1 w w2); (try have := wz2 w w2); (try have := wz3 w w2); (try have := wz4 w w2)
          go_wp2_with fail
          go_ret
          exact ⟨rfl, ext_by⟩
      · rw [if_pos e1] at hR2
        have HT := Lib.hid hR2
        clear hR2
        generalize boundErr ⟨m.mass.lo, m.mass.hi⟩ 1 1048576 = E3 at *
        have h2 : R = E3 := HT.out.symm
        subst h2
        clear HT
        go_enter Tryz.func25, Tryz.ntmps25
        go_wp2_with fail
        refine (H1.out _).mono ?_
        rintro e w1 ⟨rfl, h1⟩
        obtain ⟨hc_w1, hf_w1, hz_w1⟩ := bcell h1; (try simp only [szA] at hz_w1); (try have := wz0 w w1); (try have := wz1 w w1); (try have := wz2 w w1); (try have := wz3 w w1); (try have := wz4 w w1)
        go_wp2_with fail
        go_ret
        exact ⟨rfl, ext_by⟩
end Go.Proofs.YtiladlangkjoiaaGreat

namespace Go.Proofs.YtiladlangkjoiaaGreat
open Go.RowKit

section
variable (A1 : Option Addr) (n1 c1 : Nat) (A2 : Option Addr) (n2 c2 : Nat) (C : Camp) (w : World)
set_option maxRecDepth 20000 in
set_option maxHeartbeats 16000000 in
theorem qCamp_c (hM : Miss w A1 n1 C.missions) (hK : Keys w A2 n2 C.keys) :
    Calls Tryz.prog 27 #[.agg #[.slice A1 n1 c1, .int .i64 C.body.lo, .int .i64 C.body.hi, .int .i64 C.fast, .int .i64 C.fails, .int .i64 C.miss, .int .i64 C.ticks, .slice A2 n2 c2]] w fun e w' => e = .returned (.int .i64 (campErr C)) ∧ Ext w w' := by
  have hk0 := hM.le
  have hk2 := hK.le
  have hlen := Lib.hid hM.len
  have HC := Lib.hid fun (m : Mis) W => qCheckMission_c m W
  have HB := Lib.hid fun W => qSpan_c C.body.lo C.body.hi 1 1099511627776 W
  have HW := Lib.hid fun n a b W => qBetween_c n a b W
  have HM := Lib.hid fun W (hW : Ext w W) => Miss.ext hW hM
  obtain ⟨T, hT⟩ : ∃ T, campErr C = T := ⟨_, rfl⟩
  rw [hT]
  unfold campErr at hT
  rw [← hM.len, ← hK.len] at hT
  have HT := Lib.hid hT
  have HL : Hid (C.missions = C.missions) := rfl
  generalize C.missions = L at *
  generalize C.body = body at *
  obtain ⟨b1, b2⟩ := body
  dsimp only at HB
  have W1 := Lib.hid fun W => HW.out C.fast 1 1048576 W
  have W3 := Lib.hid fun W => HW.out C.miss 0 268435456 W
  have hw2 := Lib.hid (within_iff C.fails 0 3)
  have hw4 := Lib.hid (within_iff C.ticks 1 400)
  generalize within C.fast 1 1048576 = q1 at *
  generalize within C.fails 0 3 = q2 at *
  generalize within C.miss 0 268435456 = q3 at *
  generalize within C.ticks 1 400 = q4 at *
  generalize C.fast = cf at *
  generalize C.fails = cg at *
  generalize C.miss = cm at *
  generalize C.ticks = ct at *
  generalize boundErr ⟨b1, b2⟩ 1 1099511627776 = EB at *
  clear hT hM hK HL HW
  dsimp only
  go_enter Tryz.func27, Tryz.ntmps27
  by_cases g1 : 6 < n1
  · have hT := HT.out
    rw [if_pos g1] at hT
    clear HT
    go_wp2_with fail
    go_ret
    exact ⟨ret_i hT, ext_by⟩
  · have hT := HT.out
    rw [if_neg g1] at hT
    have HT2 := Lib.hid hT
    clear hT HT
    go_wp2_with fail
    refine name_world _ ?_
    intro w1 hw1
    have B1 : Blk w1 w.heap.size 36 #[.slice A1 n1 c1, .int .i64 b1, .int .i64 b2, .int .i64 cf, .int .i64 cg, .int .i64 cm, .int .i64 ct, .slice A2 n2 c2] := by rw [hw1]; exact Blk.newAt rfl
    have E : Ext w w1 := by rw [hw1]; exact Ext.alloc0 _ _
    clear hw1
    go_loopw [3] (fun i wr => ∃ k : Nat, k ≤ n1 ∧ i = .int .i64 k ∧ Hid (missErr (L.drop k) = missErr L) ∧ Hid (Blk wr w.heap.size 36 #[.slice A1 n1 c1, .int .i64 b1, .int .i64 b2, .int .i64 cf, .int .i64 cg, .int .i64 cm, .int .i64 ct, .slice A2 n2 c2]) ∧ Ext w wr) (fun i _ => n1 - (intOf i).toNat)
    case atStart => exact ⟨0, Nat.zero_le _, rfl, Lib.hid rfl, Lib.hid B1, E⟩
    case round =>
      obtain ⟨k, hk, rfl, HI, HB1, hb⟩ := hrel
      clear B1 E
      have B1 := HB1.out
      clear HB1
      by_cases hlt : k < n1
      · obtain ⟨mb, off, x, rfl, HDr, hxm, hx⟩ := (HM.out _ hb).one hlt
        obtain ⟨m0, m1, m2, m3, m4, m5, m6, m7, m8, m9, m10, m11, m12, m13⟩ := hx
        have hbl : mb < wr.heap.size := World.block_lt_of_cell? wr _ m0
        have hi := HI.out
        rw [HDr.out, missErr] at hi
        have HX := Lib.hid (HC.out x)
        generalize misErr x = EX at *
        have Hi := Lib.hid hi
        have hk1 : k + 1 ≤ n1 := hlt
        clear hi HC HI
        have c_B1 := B1.cell; have f_B1 := B1.frozen; have l_B1 := B1.lt
        go_wp2_with fail
        refine (HX.out _).mono ?_
        rintro e w2 ⟨rfl, h2⟩
        clear c_B1 f_B1 l_B1
        have E2 : Ext w w2 := hb.trans h2
        replace B1 := B1.ext h2
        clear h2 m1 m2 m3 m4 m5 m6 m7 m8 m9 m10 m11 m12 m13 m0 HX hb
        by_cases gx : EX = 0
        · subst gx
          go_wp2_with fail
          go_roundw
          case rel => exact ⟨k + 1, hk1, by go_num, Lib.hid (by have := Hi.out; simpa using this), Lib.hid B1, E2⟩
          case measure => simp [intOf]; omega
        · go_wp2_with fail
          go_ret
          refine ⟨ret_i ?_, E2⟩
          have h5 := Hi.out
          rw [if_neg gx] at h5
          have h6 := HT2.out
          rw [← h5, if_pos gx] at h6
          exact h6
      · have hkn : k = n1 := by omega
        subst hkn
        have hz : missErr L = 0 := by
          have := HI.out
          rw [hlen.out, List.drop_length] at this
          exact this.symm
        have hT := HT2.out
        rw [hz, if_neg (by simp)] at hT
        have HT3 := Lib.hid hT
        clear HT2 HI hz HC hT
        have c_B1 := B1.cell; have f_B1 := B1.frozen; have l_B1 := B1.lt
        go_wp2_with fail
        refine (HB.out _).mono ?_
        rintro e w3 ⟨rfl, h3⟩
        clear c_B1 f_B1 l_B1
        replace B1 := B1.ext h3
        replace hb := hb.trans h3
        clear h3
        by_cases gb : EB = 0
        · subst gb
          have hT := HT3.out
          rw [if_neg (by simp)] at hT
          have HT4 := Lib.hid hT
          clear hT HT3
          have c_B1 := B1.cell; have f_B1 := B1.frozen; have l_B1 := B1.lt
          go_wp2_with fail
          refine (W1.out _).mono ?_
          rintro e w4 ⟨rfl, h4⟩
          clear c_B1 f_B1 l_B1
          replace B1 := B1.ext h4; have c_B1 := B1.cell; have f_B1 := B1.frozen; have l_B1 := B1.lt
          replace hb := hb.trans h4
          clear h4 W1
          cases q1
          · skip
            have hT := HT4.out
            rw [if_neg (by simp)] at hT
            clear HT4
            go_wp2_with fail
            go_ret
            exact ⟨ret_i hT, hb⟩
          by_cases f1 : cg < 0
          · skip
            have hq : q2 = false := by
              cases q2
              · rfl
              · exact absurd (hw2.out.1 rfl) (by omega)
            subst hq
            have hT := HT4.out
            rw [if_neg (by simp)] at hT
            clear HT4
            go_wp2_with fail
            go_ret
            exact ⟨ret_i hT, hb⟩
          by_cases f2 : 3 < cg
          · skip
            have hq : q2 = false := by
              cases q2
              · rfl
              · exact absurd (hw2.out.1 rfl) (by omega)
            subst hq
            have hT := HT4.out
            rw [if_neg (by simp)] at hT
            clear HT4
            go_wp2_with fail
            go_ret
            exact ⟨ret_i hT, hb⟩
          have hq : q2 = true := hw2.out.2 (by omega)
          subst hq
          go_wp2_with fail
          refine (W3.out _).mono ?_
          rintro e w5 ⟨rfl, h5⟩
          clear c_B1 f_B1 l_B1
          replace B1 := B1.ext h5; have c_B1 := B1.cell; have f_B1 := B1.frozen; have l_B1 := B1.lt
          replace hb := hb.trans h5
          clear h5 W3
          cases q3
          · skip
            have hT := HT4.out
            rw [if_neg (by simp)] at hT
            clear HT4
            go_wp2_with fail
            go_ret
            exact ⟨ret_i hT, hb⟩
          by_cases f3 : ct < 1
          · skip
            have hq : q4 = false := by
              cases q4
              · rfl
              · exact absurd (hw4.out.1 rfl) (by omega)
            subst hq
            have hT := HT4.out
            rw [if_neg (by simp)] at hT
            clear HT4
            go_wp2_with fail
            go_ret
            exact ⟨ret_i hT, hb⟩
          by_cases f4 : 400 < ct
          · skip
            have hq : q4 = false := by
              cases q4
              · rfl
              · exact absurd (hw4.out.1 rfl) (by omega)
            subst hq
            have hT := HT4.out
            rw [if_neg (by simp)] at hT
            clear HT4
            go_wp2_with fail
            go_ret
            exact ⟨ret_i hT, hb⟩
          have hq : q4 = true := hw4.out.2 (by omega)
          subst hq
          have hT := HT4.out
          simp only [Bool.and_self, if_true] at hT
          clear HT4
          by_cases f5 : 40 < n2
          · rw [if_pos f5] at hT
            go_wp2_with fail
            go_ret
            exact ⟨ret_i hT, hb⟩
          · rw [if_neg f5] at hT
            go_wp2_with fail
            go_ret
            exact ⟨ret_i hT, hb⟩
        · have hT := HT3.out
          rw [if_pos gb] at hT
          subst hT
          clear HT3
          go_wp2_with fail
          go_ret
          exact ⟨rfl, hb⟩
def bigCamp (C : Camp) : Bool := (decide (8 < C.missions.length) || decide (42 < C.keys.length)) || (decide (12 < C.ticks) && decide (C.ticks ≤ 400))
set_option maxRecDepth 20000 in
set_option maxHeartbeats 4000000 in
theorem bigCamp_c (hM : Miss w A1 n1 C.missions) (hK : Keys w A2 n2 C.keys) :
    Calls Tryz.prog 20 #[.agg #[.slice A1 n1 c1, .int .i64 C.body.lo, .int .i64 C.body.hi, .int .i64 C.fast, .int .i64 C.fails, .int .i64 C.miss, .int .i64 C.ticks, .slice A2 n2 c2]] w fun e w' => e = .returned (.bool (bigCamp C)) ∧ Ext w w' := by
  unfold bigCamp
  rw [← hM.len, ← hK.len]
  clear hM hK
  by_cases g1 : 8 < n1
  · skip
    go_enter Tryz.func20, Tryz.ntmps20
    go_wp2_with fail
    go_ret
    exact ⟨ret_b (by simp [*]), ext_by⟩
  · by_cases g2 : 42 < n2
    · skip
      go_enter Tryz.func20, Tryz.ntmps20
      go_wp2_with fail
      go_ret
      exact ⟨ret_b (by simp [*]), ext_by⟩
    · by_cases g3 : 12 < C.ticks
      · by_cases g4 : C.ticks ≤ 400
        · skip
          go_enter Tryz.func20, Tryz.ntmps20
          go_wp2_with fail
          go_ret
          exact ⟨ret_b (by first | rfl | (simp [*]; done)), ext_by⟩
        · skip
          go_enter Tryz.func20, Tryz.ntmps20
          go_wp2_with fail
          go_ret
          exact ⟨ret_b (by first | rfl | (simp [*]; done) | (rw [Bool.eq_iff_iff]; simp only [Bool.or_eq_true, decide_eq_true_eq]; omega)), ext_by⟩
      · skip
        go_enter Tryz.func20, Tryz.ntmps20
        go_wp2_with fail
        go_ret
        exact ⟨ret_b (by first | rfl | (simp [*]; done) | (rw [Bool.eq_iff_iff]; simp only [Bool.or_eq_true, Bool.and_eq_true, decide_eq_true_eq]; omega)), ext_by⟩
end
end Go.Proofs.YtiladlangkjoiaaGreat
