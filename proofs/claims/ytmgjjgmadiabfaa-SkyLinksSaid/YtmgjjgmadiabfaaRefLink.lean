/- Which guess links two tracklets: the reference. No condition. -/
import Derived.Test.YtmgjjgmadiabfaaLink
namespace Go.Proofs.Ytmgjjgmadiabfaa
open Go.RowKit

set_option maxRecDepth 4000 in
set_option maxHeartbeats 2000000 in
theorem refLink_c (A1 : Option Addr) (n1 c1 : Nat) (home : Int) (A2 : Option Addr) (n2 c2 : Nat) (A3 : Option Addr) (n3 c3 : Nat) (s : Sky) (A : Option Addr) (n c : Nat) (a : List Sight) (A' : Option Addr) (n' c' : Nat) (b : List Sight) (B : Option Addr) (m d : Nat) (gs : List St) (t0 : Int) (w : World) (hs : IsSky w A1 n1 home A2 n2 A3 n3 s) (ha : Sights w A n a) (hb : Sights w A' n' b) (hg : Sts w B m gs) :
    Calls Try.prog 52 #[.agg #[.slice A1 n1 c1, .int .i64 home, .slice A2 n2 c2, .slice A3 n3 c3], .slice A n c, .slice A' n' c', .slice B m d, .int .i64 t0] w (Ret3 w (linkR s a b gs t0).1 (linkR s a b gs t0).2 (linkErr s a b gs t0)) := by
  have HA := Lib.hid fun W (hW : Ext w W) => refCheckTracklet_c A1 n1 c1 home A2 n2 c2 A3 n3 c3 s A n c a W (hs.ext hW) (Sights.ext hW ha)
  have HB := Lib.hid fun W (hW : Ext w W) => refCheckTracklet_c A1 n1 c1 home A2 n2 c2 A3 n3 c3 s A' n' c' b W (hs.ext hW) (Sights.ext hW hb)
  have HG := Lib.hid fun W (hW : Ext w W) => asked_c B m d gs t0 W (Sts.ext hW hg)
  by_cases h1 : trkErr s a = 0
  · by_cases h2 : trkErr s b = 0
    · have hE : linkErr s a b gs t0 = askErr gs t0 := by rw [linkErr, if_neg (by simp [h1]), if_neg (by simp [h2])]
      rw [h1] at HA
      rw [h2] at HB
      by_cases h3 : askErr gs t0 = 0
      · rw [linkR_yes (hE.trans h3), hE, h3]
        rw [h3] at HG
        have hm := hg.le
        have hok : ∀ x ∈ a ++ b, sightErr2 s x = 0 := fun x hx => (List.mem_append.1 hx).elim (trk_ok h1 x) (trk_ok h2 x)
        have hla := trk_len h1
        have hlb := trk_len h2
        obtain ⟨hm64, ht, hgo⟩ := ask_ok h3
        have HF := Lib.hid fun (g : St) (hgm : g ∈ gs) A0 c0 W (hW : Ext w W) h => refmiss_c A1 n1 c1 home A2 n2 c2 A3 n3 c3 s g.x g.y g.u g.v t0 A0 (a ++ b).length c0 (a ++ b) W (hs.ext hW) h hok (hgo g hgm) ht
        have Hml := Lib.hid hg.len
        have HGS := Lib.hid fun W (hW : Ext w W) => Sts.ext hW hg
        have HSA := Lib.hid fun W (hW : Ext w W) => Sights.ext hW ha
        have HSB := Lib.hid fun W (hW : Ext w W) => Sights.ext hW hb
        have Hna := Lib.hid ha.len
        have Hnb := Lib.hid hb.len
        have hna : n ≤ 64 := by rw [ha.len]; exact hla
        have hnb : n' ≤ 64 := by rw [hb.len]; exact hlb
        have hm64' : m ≤ 64 := by have := hg.len; omega
        obtain ⟨ii, hii, hi0, hi1, hi2⟩ := info_parts info_int
        obtain ⟨is_, his, hs0, hs1, hs2⟩ := info_parts info_sight
        generalize hRR : linkFrom (fun g => missFrom s g t0 (a ++ b) 0) gs 0 [] = RR
        have HRR := Lib.hid hRR
        obtain ⟨R1, R2⟩ := RR
        dsimp only
        clear hE h1 h2 h3 hok hgo ht hs hg hm64 hRR ha hb hla hlb
        go_enter Try.func52, Try.ntmps52
        go_wp2_with fail
        refine (HA.out _ (by (repeat' (first | exact Ext.refl _ | assumption | apply Ext.alloc | apply Ext.drew | refine Ext.set ?_ (by dsimp only; omega) _ | refine Ext.trans ?_ (by assumption))))).mono ?_
        rintro e w1 ⟨rfl, h1⟩; obtain ⟨hc_w1, hf_w1, hz_w1⟩ := bcell h1; (repeat (first | rw [World.size_alloc] at hz_w1 | rw [World.size_drew] at hz_w1 | rw [World.size_setCell] at hz_w1)); have : w.heap.size < w1.heap.size := (by omega)
        go_wp2_with fail
        refine (HB.out _ (by (repeat' (first | exact Ext.refl _ | assumption | apply Ext.alloc | apply Ext.drew | refine Ext.set ?_ (by dsimp only; omega) _ | refine Ext.trans ?_ (by assumption))))).mono ?_
        rintro e w2 ⟨rfl, h2⟩; obtain ⟨hc_w2, hf_w2, hz_w2⟩ := bcell h2; (repeat (first | rw [World.size_alloc] at hz_w2 | rw [World.size_drew] at hz_w2 | rw [World.size_setCell] at hz_w2)); have : w.heap.size < w2.heap.size := (by omega)
        go_wp2_with fail
        refine (HG.out _ (by (repeat' (first | exact Ext.refl _ | assumption | apply Ext.alloc | apply Ext.drew | refine Ext.set ?_ (by dsimp only; omega) _ | refine Ext.trans ?_ (by assumption))))).mono ?_
        rintro e w3 ⟨rfl, h3⟩; obtain ⟨hc_w3, hf_w3, hz_w3⟩ := bcell h3; (repeat (first | rw [World.size_alloc] at hz_w3 | rw [World.size_drew] at hz_w3 | rw [World.size_setCell] at hz_w3)); have : w.heap.size < w3.heap.size := (by omega)
        go_wp2_with (at_builtin; go_loud (refine wpList_append_sl rfl (.tmp 34) (.tmp 35) 51 rfl (w.heap.size + 1) 32 is_ _ 9 72 Try.underlying51 his hs0 hs1 hs2 rfl (by decide) _ 0 [] rfl (own_made (by simp) (by omega)) A n c (a.flatMap sightC) rfl (by rw [flat_len sight_len, ← Hna.out]) (sl_news sight_len (sight_news _) (HSA.out _ (by (repeat' (first | exact Ext.refl _ | assumption | apply Ext.alloc | apply Ext.drew | refine Ext.set ?_ (by dsimp only; omega) _ | refine Ext.trans ?_ (by assumption)))))) (flat_one sight_one _) (by unfold maxLen; omega) (by omega) (by simp; omega) ?_))
        intro v4 w4 ho4 hg4 hn4
        (try simp only [Nat.zero_add, List.nil_append] at ho4)
        have e4 : Ext w3 w4 := grown_ext (Ext.alloc0 _ _) hg4 (by intro j hj; simp [Value.ownBlock] at hj; omega)
        have hz4 := e4.size
        obtain ⟨hc4, hf4, _⟩ := bcell e4
        have Ho4 := Lib.hid ho4
        clear ho4 hg4 hn4
        have hws4 : w.heap.size < w4.heap.size := by omega
        go_wp2_with (at_builtin; go_loud (refine wpList_append_sl rfl (.tmp 36) (.tmp 37) 51 rfl (w.heap.size + 1) 32 is_ _ 9 72 Try.underlying51 his hs0 hs1 hs2 rfl (by decide) v4 n (a.flatMap sightC) rfl Ho4.out A' n' c' (b.flatMap sightC) rfl (by rw [flat_len sight_len, ← Hnb.out]) (sl_news sight_len (sight_news _) (HSB.out _ (by (repeat' (first | exact Ext.refl _ | assumption | apply Ext.alloc | apply Ext.drew | refine Ext.set ?_ (by dsimp only; omega) _ | refine Ext.trans ?_ (by assumption)))))) (flat_one sight_one _) (by unfold maxLen; omega) (by omega) (by omega) ?_))
        intro v5 w5 ho5 hg5 hn5
        have e5 : Ext (w.alloc (.cells #[.slice A1 n1 c1, .int .i64 home, .slice A2 n2 c2, .slice A3 n3 c3] 28)) w5 := own_ext (by (repeat' (first | exact Ext.refl _ | assumption | apply Ext.alloc | apply Ext.drew | refine Ext.set ?_ (by dsimp only; omega) _ | refine Ext.trans ?_ (by assumption)))) Ho4.out hg5 (by simp)
        have hsl : ∃ Ac cc, v5 = .slice Ac (a ++ b).length cc ∧ Sights w5 Ac (a ++ b).length (a ++ b) := by
          refine own_sl (base := w.heap.size + 1) (e := 32) sight_len (sight_read w5) ?_
          rw [List.length_append, List.flatMap_append, ← Hna.out, ← Hnb.out]
          exact ho5
        obtain ⟨Ac, cc, rfl, hS⟩ := hsl
        obtain ⟨hc5, hf5, hz5⟩ := bcell e5
        rw [World.size_alloc] at hz5
        have HS := Lib.hid hS
        have hab : (a ++ b).length ≤ 9223372036854775807 := hS.le
        have hws : w.heap.size < w5.heap.size := by omega
        have e5' : Ext w w5 := by (repeat' (first | exact Ext.refl _ | assumption | apply Ext.alloc | apply Ext.drew | refine Ext.set ?_ (by dsimp only; omega) _ | refine Ext.trans ?_ (by assumption)))
        generalize a ++ b = ab at *
        clear hS ho5 hg5 hn5 Ho4 hc4 hf4 hc_w3 hf_w3 hc_w2 hf_w2 hc_w1 hf_w1
        go_wp2_with fail
        go_loopw [15, 16] (fun v i wr => ∃ (k : Nat) (acc : List Int), k ≤ m ∧ i = .int .i64 k ∧ acc.length ≤ k ∧ Hid (linkFrom (fun g => missFrom s g t0 ab 0) (gs.drop k) k acc = (R1, R2)) ∧ Hid (OwnInts w5.heap.size wr v acc) ∧ Ext w5 wr) (fun _ i _ => m - (intOf i).toNat)
        case atStart => exact ⟨0, [], Nat.zero_le _, rfl, Nat.le_refl _, HRR.out, OwnInts.nil _ _, Ext.refl _⟩
        case round =>
          obtain ⟨k, acc, hk, rfl, hak, HI, HO, hb3⟩ := hrel
          obtain ⟨hcb3, hfb3, hzb3⟩ := bcell hb3
          have hwr3 : w.heap.size < wr.heap.size := by omega
          by_cases hlt : k < m
          · obtain ⟨q, off, g, rfl, HD, hgm, hgc⟩ := (HGS.out _ (e5'.trans hb3)).one hlt
            obtain ⟨hg0, hg1, hg2, hg3⟩ := hgc
            have hq := World.block_lt_of_cell? wr _ hg0
            dsimp only at hq
            have hi := HI.out; rw [HD.out, linkFrom] at hi
            have hcx := HF.out g hgm
            have hee : missFrom s ⟨g.x, g.y, g.u, g.v⟩ t0 ab 0 = missFrom s g t0 ab 0 := rfl
            rw [hee] at hcx
            generalize missFrom s g t0 ab 0 = M at hi hcx
            have HFx := Lib.hid hcx; clear hcx hee
            have Hi := Lib.hid hi; clear hi
            go_wp2_with fail
            refine wp_region_text (by kernel_rfl) (by kernel_rfl) ?_
            repeat' (first | (refine bl_off (by rfl) ?_; simp only [Act.put, List.setIfInBounds_toArray, List.set_cons_zero, List.set_cons_succ]) | (apply bl_op; rfl; (intro w1 h1; obtain ⟨hc, hf, hz⟩ := bcell h1; go_simp; (try go_bits); (first | exact ⟨rfl, Ext.refl _⟩ | (apply gives_call; first | (go_at_call 82; exact HFx.out _ _ _ (by (repeat' (first | exact Ext.refl _ | assumption | apply Ext.alloc | apply Ext.drew | refine Ext.set ?_ (by dsimp only; omega) _ | refine Ext.trans ?_ (by assumption)))) (Sights.ext (by (repeat' (first | exact Ext.refl _ | assumption | apply Ext.alloc | apply Ext.drew | refine Ext.set ?_ (by dsimp only; omega) _ | refine Ext.trans ?_ (by assumption)))) HS.out))) | (go_invoke; go_simp; apply gives_call; first | (go_at_call 82; exact HFx.out _ _ _ (by (repeat' (first | exact Ext.refl _ | assumption | apply Ext.alloc | apply Ext.drew | refine Ext.set ?_ (by dsimp only; omega) _ | refine Ext.trans ?_ (by assumption)))) (Sights.ext (by (repeat' (first | exact Ext.refl _ | assumption | apply Ext.alloc | apply Ext.drew | refine Ext.set ?_ (by dsimp only; omega) _ | refine Ext.trans ?_ (by assumption)))) HS.out))))); simp only [Act.put, List.setIfInBounds_toArray, List.set_cons_zero, List.set_cons_succ]) | (refine bl_split rfl rfl (fun hx => ?_) (fun hx => ?_) <;> simp only [hx]))
            refine bl_nil ?_
            intro w6 h6
            obtain ⟨hc6, hf6, hz6⟩ := bcell h6
            by_cases hM : M < 0
            · go_wp2_with fail
              go_ret3
              have hi := Hi.out
              rw [if_pos hM] at hi
              injection hi with q1 q2
              subst q1 q2
              exact Ret3.mk rfl (by (repeat' (first | exact Ext.refl _ | assumption | apply Ext.alloc | apply Ext.drew | refine Ext.set ?_ (by dsimp only; omega) _ | refine Ext.trans ?_ (by assumption))))
            · have hM' : 0 ≤ M := by omega
              have HO6 := Lib.hid (HO.out.ext h6)
              go_wp2_with (at_builtin; go_loud (refine wpList_append_sl rfl (.tmp 56) (.tmp 58) 38 rfl w5.heap.size 3 ii _ 1 8 Try.underlying38 hii hi0 hi1 hi2 rfl (by decide) _ acc.length (acc.flatMap intC) rfl (own_ext_keep HO6.out (by (repeat' (first | exact Ext.refl _ | assumption | apply Ext.alloc | apply Ext.drew | refine Ext.set ?_ (by dsimp only; omega) _ | refine Ext.trans ?_ (by assumption))))) (some ⟨w6.heap.size, 0, none⟩) 1 1 [.int .i64 M] rfl rfl (.inr ⟨_, rfl, new_cells (by simp)⟩) (by intro u hu; simp at hu; rcases hu with rfl; rfl) (by unfold maxLen; omega) (by omega) (by simp; omega) ?_))
              intro v7 w7 ho7 hg7 hn7
              have e7 : Ext w5 w7 := own_ext (by (repeat' (first | exact Ext.refl _ | assumption | apply Ext.alloc | apply Ext.drew | refine Ext.set ?_ (by dsimp only; omega) _ | refine Ext.trans ?_ (by assumption)))) (own_ext_keep HO6.out (by (repeat' (first | exact Ext.refl _ | assumption | apply Ext.alloc | apply Ext.drew | refine Ext.set ?_ (by dsimp only; omega) _ | refine Ext.trans ?_ (by assumption))))) hg7 (Nat.le_refl _)
              have HO7 := Lib.hid (OwnInts.ofSnoc rfl ho7)
              clear ho7 hg7 hn7
              go_wp2_with fail
              go_roundw
              case rel => exact ⟨k + 1, acc ++ [M], by omega, by go_num, by simp; omega, by have hi := Hi.out; rw [if_neg (by omega)] at hi; exact hi, HO7, e7⟩
              case measure => simp [intOf]; omega
          · have : k = m := by omega
            subst this
            have hi := HI.out
            rw [Hml.out, List.drop_length, linkFrom] at hi
            obtain ⟨A5, c5, hv, hL⟩ := HO.out.sl
            have HI2 := Lib.hid hi
            have HL := Lib.hid hL
            subst hv
            clear hi HI hL HO
            go_wp2_with fail
            go_ret3
            have hi := HI2.out
            injection hi with q1 q2
            subst q1 q2
            exact ⟨A5, c5, rfl, HL.out, by (repeat' (first | exact Ext.refl _ | assumption | apply Ext.alloc | apply Ext.drew | refine Ext.set ?_ (by dsimp only; omega) _ | refine Ext.trans ?_ (by assumption)))⟩
      · have h3' : (askErr gs t0 != 0) = true := by simpa using h3
        rw [linkR_no (by rw [hE]; exact h3), hE]
        generalize askErr gs t0 = E at *
        clear hE h1 h2 hs hg h3 ha hb
        go_enter Try.func52, Try.ntmps52
        go_wp2_with fail
        refine (HA.out _ (by (repeat' (first | exact Ext.refl _ | assumption | apply Ext.alloc | apply Ext.drew | refine Ext.set ?_ (by dsimp only; omega) _ | refine Ext.trans ?_ (by assumption))))).mono ?_
        rintro e w1 ⟨rfl, h1⟩; obtain ⟨hc_w1, hf_w1, hz_w1⟩ := bcell h1; (repeat (first | rw [World.size_alloc] at hz_w1 | rw [World.size_drew] at hz_w1 | rw [World.size_setCell] at hz_w1)); have : w.heap.size < w1.heap.size := (by omega)
        go_wp2_with fail
        refine (HB.out _ (by (repeat' (first | exact Ext.refl _ | assumption | apply Ext.alloc | apply Ext.drew | refine Ext.set ?_ (by dsimp only; omega) _ | refine Ext.trans ?_ (by assumption))))).mono ?_
        rintro e w2 ⟨rfl, h2⟩; obtain ⟨hc_w2, hf_w2, hz_w2⟩ := bcell h2; (repeat (first | rw [World.size_alloc] at hz_w2 | rw [World.size_drew] at hz_w2 | rw [World.size_setCell] at hz_w2)); have : w.heap.size < w2.heap.size := (by omega)
        go_wp2_with fail
        refine (HG.out _ (by (repeat' (first | exact Ext.refl _ | assumption | apply Ext.alloc | apply Ext.drew | refine Ext.set ?_ (by dsimp only; omega) _ | refine Ext.trans ?_ (by assumption))))).mono ?_
        rintro e w3 ⟨rfl, h3⟩; obtain ⟨hc_w3, hf_w3, hz_w3⟩ := bcell h3; (repeat (first | rw [World.size_alloc] at hz_w3 | rw [World.size_drew] at hz_w3 | rw [World.size_setCell] at hz_w3)); have : w.heap.size < w3.heap.size := (by omega)
        go_wp2_with fail
        go_ret3
        exact Ret3.mk rfl (by (repeat' (first | exact Ext.refl _ | assumption | apply Ext.alloc | apply Ext.drew | refine Ext.set ?_ (by dsimp only; omega) _ | refine Ext.trans ?_ (by assumption))))
    · have h2' : (trkErr s b == 0) = false := by simpa using h2
      have h2'' : (trkErr s b != 0) = true := by simpa using h2
      have hE : linkErr s a b gs t0 = trkErr s b := by rw [linkErr, if_neg (by simp [h1]), if_pos h2]
      rw [linkR_no (by rw [hE]; exact h2), hE]
      rw [h1] at HA
      generalize trkErr s b = E at *
      clear hE h1 hs hg h2 ha hb
      go_enter Try.func52, Try.ntmps52
      go_wp2_with fail
      refine (HA.out _ (by (repeat' (first | exact Ext.refl _ | assumption | apply Ext.alloc | apply Ext.drew | refine Ext.set ?_ (by dsimp only; omega) _ | refine Ext.trans ?_ (by assumption))))).mono ?_
      rintro e w1 ⟨rfl, h1⟩; obtain ⟨hc_w1, hf_w1, hz_w1⟩ := bcell h1; (repeat (first | rw [World.size_alloc] at hz_w1 | rw [World.size_drew] at hz_w1 | rw [World.size_setCell] at hz_w1)); have : w.heap.size < w1.heap.size := (by omega)
      go_wp2_with fail
      refine (HB.out _ (by (repeat' (first | exact Ext.refl _ | assumption | apply Ext.alloc | apply Ext.drew | refine Ext.set ?_ (by dsimp only; omega) _ | refine Ext.trans ?_ (by assumption))))).mono ?_
      rintro e w2 ⟨rfl, h2⟩; obtain ⟨hc_w2, hf_w2, hz_w2⟩ := bcell h2; (repeat (first | rw [World.size_alloc] at hz_w2 | rw [World.size_drew] at hz_w2 | rw [World.size_setCell] at hz_w2)); have : w.heap.size < w2.heap.size := (by omega)
      go_wp2_with fail
      go_ret3
      exact Ret3.mk rfl (by (repeat' (first | exact Ext.refl _ | assumption | apply Ext.alloc | apply Ext.drew | refine Ext.set ?_ (by dsimp only; omega) _ | refine Ext.trans ?_ (by assumption))))
  · have h1' : (trkErr s a == 0) = false := by simpa using h1
    have h1'' : (trkErr s a != 0) = true := by simpa using h1
    have hE : linkErr s a b gs t0 = trkErr s a := by rw [linkErr, if_pos h1]
    rw [linkR_no (by rw [hE]; exact h1), hE]
    generalize trkErr s a = E at *
    clear hE hs hg h1 ha hb
    go_enter Try.func52, Try.ntmps52
    go_wp2_with fail
    refine (HA.out _ (by (repeat' (first | exact Ext.refl _ | assumption | apply Ext.alloc | apply Ext.drew | refine Ext.set ?_ (by dsimp only; omega) _ | refine Ext.trans ?_ (by assumption))))).mono ?_
    rintro e w1 ⟨rfl, h1⟩; obtain ⟨hc_w1, hf_w1, hz_w1⟩ := bcell h1; (repeat (first | rw [World.size_alloc] at hz_w1 | rw [World.size_drew] at hz_w1 | rw [World.size_setCell] at hz_w1)); have : w.heap.size < w1.heap.size := (by omega)
    go_wp2_with fail
    go_ret3
    exact Ret3.mk rfl (by (repeat' (first | exact Ext.refl _ | assumption | apply Ext.alloc | apply Ext.drew | refine Ext.set ?_ (by dsimp only; omega) _ | refine Ext.trans ?_ (by assumption))))
end Go.Proofs.Ytmgjjgmadiabfaa
