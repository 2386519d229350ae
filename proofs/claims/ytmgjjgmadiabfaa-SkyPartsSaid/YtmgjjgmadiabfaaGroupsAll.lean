/- Groups of tracklets: the program and the reference, at every input; the law SkyGroups. No condition. -/
import Derived.Test.YtmgjjgmadiabfaaRefGroups
namespace Go.Proofs.Ytmgjjgmadiabfaa
open Go.RowKit

set_option maxRecDepth 8000 in
set_option maxHeartbeats 2000000 in
theorem Groups_c (A1 : Option Addr) (n1 c1 : Nat) (home : Int) (A2 : Option Addr) (n2 c2 : Nat) (A3 : Option Addr) (n3 c3 : Nat) (s : Sky) (A : Option Addr) (n c : Nat) (L : List (List Sight)) (B : Option Addr) (m d : Nat) (gs : List St) (t0 : Int) (w : World) (hs : IsSky w A1 n1 home A2 n2 A3 n3 s) (hl : Trks w A n L) (hg : Sts w B m gs) :
    Calls Try.prog 49 #[.agg #[.slice A1 n1 c1, .int .i64 home, .slice A2 n2 c2, .slice A3 n3 c3], .slice A n c, .slice B m d, .int .i64 t0] w (RetR w (grpR s L gs t0) (grpErr s L gs t0)) := by
  have hnn := hl.le
  have hln := hl.len
  by_cases h0 : skyErr s = 0
  · by_cases h1 : L.length ≤ 16
    · by_cases h2 : trksErr s L = 0 ∧ askErr gs t0 = 0
      · have hE : grpErr s L gs t0 = 0 := by unfold grpErr; rw [if_neg (by simp [h0]), if_neg (by omega), if_neg (by simp [h2.1])]; exact h2.2
        rw [grpR, if_neg (by simp [hE]), hE]
        exact Groups_yes A1 n1 c1 home A2 n2 c2 A3 n3 c3 s A n c L B m d gs t0 w hs hl hg h0 h1 h2.1 h2.2
      · have hE : grpErr s L gs t0 = if trksErr s L ≠ 0 then trksErr s L else askErr gs t0 := by unfold grpErr; rw [if_neg (by simp [h0]), if_neg (by omega)]
        have hne : grpErr s L gs t0 ≠ 0 := by
          rw [hE]
          by_cases h3 : trksErr s L = 0
          · rw [if_neg (by simp [h3])]; exact fun h => h2 ⟨h3, h⟩
          · rw [if_pos h3]; exact h3
        rw [grpR, if_pos hne, hE]
        have HC := Lib.hid fun W (hW : Ext w W) => Check_c A1 n1 c1 home A2 n2 c2 A3 n3 c3 s W (hs.ext hW)
        have HT := Lib.hid fun (x : List Sight) A' n' c' W (hW : Ext w W) h => CheckTracklet_c A1 n1 c1 home A2 n2 c2 A3 n3 c3 s A' n' c' x W (hs.ext hW) h
        have HA := Lib.hid fun W (hW : Ext w W) => checkGuesses_c B m d gs t0 W (Sts.ext hW hg)
        have HLS := Lib.hid fun W (hW : Ext w W) => Trks.ext hW hl
        rw [h0] at HC
        have Hln := Lib.hid hln
        have hn16 : n ≤ 16 := by omega
        rw [hE] at hne
        have Hne := Lib.hid hne
        generalize askErr gs t0 = E at *
        generalize hX : (if trksErr s L ≠ 0 then trksErr s L else E) = X at *
        have HX := Lib.hid hX
        clear h0 h1 h2 hE hne hs hl hg hln hX
        go_enter Try.func49, Try.ntmps49
        go_wp2_with fail
        refine (HC.out _ (by (repeat' (first | exact Ext.refl _ | assumption | apply Ext.alloc | apply Ext.drew | refine Ext.set ?_ (by dsimp only; omega) _ | refine Ext.trans ?_ (by assumption))))).mono ?_
        rintro e w1 ⟨rfl, h1⟩; obtain ⟨hc_w1, hf_w1, hz_w1⟩ := bcell h1; (repeat (first | rw [World.size_alloc] at hz_w1 | rw [World.size_drew] at hz_w1 | rw [World.size_setCell] at hz_w1)); have : w.heap.size < w1.heap.size := (by omega)
        go_wp2_with fail
        go_loopw [35] (fun i wr => ∃ k : Nat, k ≤ n ∧ i = .int .i64 k ∧ Hid (trksErr s (L.drop k) = trksErr s L) ∧ Ext w1 wr) (fun i _ => n - (intOf i).toNat)
        case atStart => exact ⟨0, Nat.zero_le _, rfl, rfl, Ext.refl _⟩
        case round =>
          obtain ⟨k, hk, rfl, HI, hb⟩ := hrel
          obtain ⟨hcb, hfb, hzb⟩ := bcell hb
          have hwr0 : w.heap.size < wr.heap.size := by omega
          by_cases hlt : k < n
          · obtain ⟨q, off, x, rfl, HD, hxm, A', n', c', hx, hx2⟩ := (HLS.out wr (by (repeat' (first | exact Ext.refl _ | assumption | apply Ext.alloc | apply Ext.drew | refine Ext.set ?_ (by dsimp only; omega) _ | refine Ext.trans ?_ (by assumption))))).one hlt
            simp only [Nat.mul_one] at hx
            have hbl : q < wr.heap.size := World.block_lt_of_cell? wr _ hx
            have Hx2 := Lib.hid hx2
            have hn' := hx2.le
            have hi := HI.out
            rw [HD.out, trksErr] at hi
            have HTX := HT.out x
            generalize trkErr s x = M at *
            have HTX := Lib.hid HTX
            by_cases hM : M = 0
            · subst hM
              rw [if_neg (by simp)] at hi
              have Hi := Lib.hid hi
              clear hx2 hi
              go_wp2_with fail
              refine (HTX.out _ _ _ _ (by (repeat' (first | exact Ext.refl _ | assumption | apply Ext.alloc | apply Ext.drew | refine Ext.set ?_ (by dsimp only; omega) _ | refine Ext.trans ?_ (by assumption)))) Hx2.out).mono ?_
              rintro e w2 ⟨rfl, h2⟩; obtain ⟨hc_w2, hf_w2, hz_w2⟩ := bcell h2; (repeat (first | rw [World.size_alloc] at hz_w2 | rw [World.size_drew] at hz_w2 | rw [World.size_setCell] at hz_w2))
              go_wp2_with fail
              go_roundw
              case rel => exact ⟨k + 1, by omega, by go_num, Hi, by (repeat' (first | exact Ext.refl _ | assumption | apply Ext.alloc | apply Ext.drew | refine Ext.set ?_ (by dsimp only; omega) _ | refine Ext.trans ?_ (by assumption)))⟩
              case measure => simp [intOf]; omega
            · have hM' : (M != 0) = true := by simpa using hM
              rw [if_pos hM] at hi
              have Hi := Lib.hid hi
              have HM := Lib.hid hM
              clear hx2 hi hM
              go_wp2_with fail
              refine (HTX.out _ _ _ _ (by (repeat' (first | exact Ext.refl _ | assumption | apply Ext.alloc | apply Ext.drew | refine Ext.set ?_ (by dsimp only; omega) _ | refine Ext.trans ?_ (by assumption)))) Hx2.out).mono ?_
              rintro e w2 ⟨rfl, h2⟩; obtain ⟨hc_w2, hf_w2, hz_w2⟩ := bcell h2; (repeat (first | rw [World.size_alloc] at hz_w2 | rw [World.size_drew] at hz_w2 | rw [World.size_setCell] at hz_w2))
              go_wp2_with fail
              go_ret2
              have h7 := HX.out
              rw [← Hi.out, if_pos HM.out] at h7
              subst h7
              exact RetR.mk rfl (by (repeat' (first | exact Ext.refl _ | assumption | apply Ext.alloc | apply Ext.drew | refine Ext.set ?_ (by dsimp only; omega) _ | refine Ext.trans ?_ (by assumption))))
          · have : k = n := by omega
            subst this
            have hi := HI.out
            rw [Hln.out, List.drop_length, trksErr] at hi
            have hne := Hne.out
            have h7 := HX.out
            rw [← hi, if_neg (by simp)] at h7
            subst h7
            have hE' : (E != 0) = true := by simpa using hne
            clear hi hne Hne HX
            go_wp2_with fail
            refine (HA.out _ (by (repeat' (first | exact Ext.refl _ | assumption | apply Ext.alloc | apply Ext.drew | refine Ext.set ?_ (by dsimp only; omega) _ | refine Ext.trans ?_ (by assumption))))).mono ?_
            rintro e w2 ⟨rfl, h2⟩; obtain ⟨hc_w2, hf_w2, hz_w2⟩ := bcell h2; (repeat (first | rw [World.size_alloc] at hz_w2 | rw [World.size_drew] at hz_w2 | rw [World.size_setCell] at hz_w2)); have : w.heap.size < w2.heap.size := (by omega)
            go_wp2_with fail
            go_ret2
            exact RetR.mk rfl (by (repeat' (first | exact Ext.refl _ | assumption | apply Ext.alloc | apply Ext.drew | refine Ext.set ?_ (by dsimp only; omega) _ | refine Ext.trans ?_ (by assumption))))
    · have h1' : 16 < n := by omega
      have hE : grpErr s L gs t0 = 8 := by unfold grpErr; rw [if_neg (by simp [h0]), if_pos (by omega)]
      rw [grpR, if_pos (by rw [hE]; decide), hE]
      have HC := Lib.hid fun W (hW : Ext w W) => Check_c A1 n1 c1 home A2 n2 c2 A3 n3 c3 s W (hs.ext hW)
      rw [h0] at HC
      clear h0 h1 hE hs hl hg hln
      go_enter Try.func49, Try.ntmps49
      go_wp2_with fail
      refine (HC.out _ (by (repeat' (first | exact Ext.refl _ | assumption | apply Ext.alloc | apply Ext.drew | refine Ext.set ?_ (by dsimp only; omega) _ | refine Ext.trans ?_ (by assumption))))).mono ?_
      rintro e w1 ⟨rfl, h1⟩; obtain ⟨hc_w1, hf_w1, hz_w1⟩ := bcell h1; (repeat (first | rw [World.size_alloc] at hz_w1 | rw [World.size_drew] at hz_w1 | rw [World.size_setCell] at hz_w1)); have : w.heap.size < w1.heap.size := (by omega)
      go_wp2_with fail
      go_ret2
      exact RetR.mk rfl (by (repeat' (first | exact Ext.refl _ | assumption | apply Ext.alloc | apply Ext.drew | refine Ext.set ?_ (by dsimp only; omega) _ | refine Ext.trans ?_ (by assumption))))
  · have h0' : (skyErr s != 0) = true := by simpa using h0
    have hE : grpErr s L gs t0 = skyErr s := by unfold grpErr; rw [if_pos h0]
    rw [grpR, if_pos (by rw [hE]; exact h0), hE]
    have HC := Lib.hid fun W (hW : Ext w W) => Check_c A1 n1 c1 home A2 n2 c2 A3 n3 c3 s W (hs.ext hW)
    generalize skyErr s = E at *
    clear h0 hE hs hl hg hln
    go_enter Try.func49, Try.ntmps49
    go_wp2_with fail
    refine (HC.out _ (by (repeat' (first | exact Ext.refl _ | assumption | apply Ext.alloc | apply Ext.drew | refine Ext.set ?_ (by dsimp only; omega) _ | refine Ext.trans ?_ (by assumption))))).mono ?_
    rintro e w1 ⟨rfl, h1⟩; obtain ⟨hc_w1, hf_w1, hz_w1⟩ := bcell h1; (repeat (first | rw [World.size_alloc] at hz_w1 | rw [World.size_drew] at hz_w1 | rw [World.size_setCell] at hz_w1)); have : w.heap.size < w1.heap.size := (by omega)
    go_wp2_with fail
    go_ret2
    exact RetR.mk rfl (by (repeat' (first | exact Ext.refl _ | assumption | apply Ext.alloc | apply Ext.drew | refine Ext.set ?_ (by dsimp only; omega) _ | refine Ext.trans ?_ (by assumption))))

set_option maxRecDepth 8000 in
set_option maxHeartbeats 2000000 in
theorem refGroups_c (A1 : Option Addr) (n1 c1 : Nat) (home : Int) (A2 : Option Addr) (n2 c2 : Nat) (A3 : Option Addr) (n3 c3 : Nat) (s : Sky) (A : Option Addr) (n c : Nat) (L : List (List Sight)) (B : Option Addr) (m d : Nat) (gs : List St) (t0 : Int) (w : World) (hs : IsSky w A1 n1 home A2 n2 A3 n3 s) (hl : Trks w A n L) (hg : Sts w B m gs) :
    Calls Try.prog 50 #[.agg #[.slice A1 n1 c1, .int .i64 home, .slice A2 n2 c2, .slice A3 n3 c3], .slice A n c, .slice B m d, .int .i64 t0] w (RetR w (grpR s L gs t0) (grpErr s L gs t0)) := by
  have hnn := hl.le
  have hln := hl.len
  by_cases h0 : skyErr s = 0
  · by_cases h1 : L.length ≤ 16
    · by_cases h2 : trksErr s L = 0 ∧ askErr gs t0 = 0
      · have hE : grpErr s L gs t0 = 0 := by unfold grpErr; rw [if_neg (by simp [h0]), if_neg (by omega), if_neg (by simp [h2.1])]; exact h2.2
        rw [grpR, if_neg (by simp [hE]), hE]
        exact refGroups_yes A1 n1 c1 home A2 n2 c2 A3 n3 c3 s A n c L B m d gs t0 w hs hl hg h0 h1 h2.1 h2.2
      · have hE : grpErr s L gs t0 = if trksErr s L ≠ 0 then trksErr s L else askErr gs t0 := by unfold grpErr; rw [if_neg (by simp [h0]), if_neg (by omega)]
        have hne : grpErr s L gs t0 ≠ 0 := by
          rw [hE]
          by_cases h3 : trksErr s L = 0
          · rw [if_neg (by simp [h3])]; exact fun h => h2 ⟨h3, h⟩
          · rw [if_pos h3]; exact h3
        rw [grpR, if_pos hne, hE]
        have HC := Lib.hid fun W (hW : Ext w W) => refCheck_c A1 n1 c1 home A2 n2 c2 A3 n3 c3 s W (hs.ext hW)
        have HT := Lib.hid fun (x : List Sight) A' n' c' W (hW : Ext w W) h => refCheckTracklet_c A1 n1 c1 home A2 n2 c2 A3 n3 c3 s A' n' c' x W (hs.ext hW) h
        have HA := Lib.hid fun W (hW : Ext w W) => asked_c B m d gs t0 W (Sts.ext hW hg)
        have HLS := Lib.hid fun W (hW : Ext w W) => Trks.ext hW hl
        rw [h0] at HC
        have Hln := Lib.hid hln
        have hn16 : n ≤ 16 := by omega
        rw [hE] at hne
        have Hne := Lib.hid hne
        generalize askErr gs t0 = E at *
        generalize hX : (if trksErr s L ≠ 0 then trksErr s L else E) = X at *
        have HX := Lib.hid hX
        clear h0 h1 h2 hE hne hs hl hg hln hX
        go_enter Try.func50, Try.ntmps50
        go_wp2_with fail
        refine (HC.out _ (by (repeat' (first | exact Ext.refl _ | assumption | apply Ext.alloc | apply Ext.drew | refine Ext.set ?_ (by dsimp only; omega) _ | refine Ext.trans ?_ (by assumption))))).mono ?_
        rintro e w1 ⟨rfl, h1⟩; obtain ⟨hc_w1, hf_w1, hz_w1⟩ := bcell h1; (repeat (first | rw [World.size_alloc] at hz_w1 | rw [World.size_drew] at hz_w1 | rw [World.size_setCell] at hz_w1)); have : w.heap.size < w1.heap.size := (by omega)
        go_wp2_with fail
        go_loopw [11] (fun i wr => ∃ k : Nat, k ≤ n ∧ i = .int .i64 k ∧ Hid (trksErr s (L.drop k) = trksErr s L) ∧ Ext w1 wr) (fun i _ => n - (intOf i).toNat)
        case atStart => exact ⟨0, Nat.zero_le _, rfl, rfl, Ext.refl _⟩
        case round =>
          obtain ⟨k, hk, rfl, HI, hb⟩ := hrel
          obtain ⟨hcb, hfb, hzb⟩ := bcell hb
          have hwr0 : w.heap.size < wr.heap.size := by omega
          by_cases hlt : k < n
          · obtain ⟨q, off, x, rfl, HD, hxm, A', n', c', hx, hx2⟩ := (HLS.out wr (by (repeat' (first | exact Ext.refl _ | assumption | apply Ext.alloc | apply Ext.drew | refine Ext.set ?_ (by dsimp only; omega) _ | refine Ext.trans ?_ (by assumption))))).one hlt
            simp only [Nat.mul_one] at hx
            have hbl : q < wr.heap.size := World.block_lt_of_cell? wr _ hx
            have Hx2 := Lib.hid hx2
            have hn' := hx2.le
            have hi := HI.out
            rw [HD.out, trksErr] at hi
            have HTX := HT.out x
            generalize trkErr s x = M at *
            have HTX := Lib.hid HTX
            by_cases hM : M = 0
            · subst hM
              rw [if_neg (by simp)] at hi
              have Hi := Lib.hid hi
              clear hx2 hi
              go_wp2_with fail
              refine wp_region_text (by kernel_rfl) (by kernel_rfl) ?_
              repeat' (first | (refine bl_off (by rfl) ?_; simp only [Act.put, List.setIfInBounds_toArray, List.set_cons_zero, List.set_cons_succ]) | (apply bl_op; rfl; (intro w1 h1; obtain ⟨hc, hf, hz⟩ := bcell h1; go_simp; (try go_bits); (first | exact ⟨rfl, Ext.refl _⟩ | (apply gives_call; first | (go_at_call 37; exact HTX.out _ _ _ _ (by (repeat' (first | exact Ext.refl _ | assumption | apply Ext.alloc | apply Ext.drew | refine Ext.set ?_ (by dsimp only; omega) _ | refine Ext.trans ?_ (by assumption)))) (Sights.ext (by (repeat' (first | exact Ext.refl _ | assumption | apply Ext.alloc | apply Ext.drew | refine Ext.set ?_ (by dsimp only; omega) _ | refine Ext.trans ?_ (by assumption)))) Hx2.out))) | (go_invoke; go_simp; apply gives_call; first | (go_at_call 37; exact HTX.out _ _ _ _ (by (repeat' (first | exact Ext.refl _ | assumption | apply Ext.alloc | apply Ext.drew | refine Ext.set ?_ (by dsimp only; omega) _ | refine Ext.trans ?_ (by assumption)))) (Sights.ext (by (repeat' (first | exact Ext.refl _ | assumption | apply Ext.alloc | apply Ext.drew | refine Ext.set ?_ (by dsimp only; omega) _ | refine Ext.trans ?_ (by assumption)))) Hx2.out))))); simp only [Act.put, List.setIfInBounds_toArray, List.set_cons_zero, List.set_cons_succ]) | (refine bl_split rfl rfl (fun hx => ?_) (fun hx => ?_) <;> simp only [hx]))
              refine bl_nil ?_
              intro w2 h2
              obtain ⟨hc2, hf2, hz2⟩ := bcell h2
              go_wp2_with fail
              go_roundw
              case rel => exact ⟨k + 1, by omega, by go_num, Hi, by (repeat' (first | exact Ext.refl _ | assumption | apply Ext.alloc | apply Ext.drew | refine Ext.set ?_ (by dsimp only; omega) _ | refine Ext.trans ?_ (by assumption)))⟩
              case measure => simp [intOf]; omega
            · have hM' : (M != 0) = true := by simpa using hM
              rw [if_pos hM] at hi
              have Hi := Lib.hid hi
              have HM := Lib.hid hM
              clear hx2 hi hM
              go_wp2_with fail
              refine wp_region_text (by kernel_rfl) (by kernel_rfl) ?_
              repeat' (first | (refine bl_off (by rfl) ?_; simp only [Act.put, List.setIfInBounds_toArray, List.set_cons_zero, List.set_cons_succ]) | (apply bl_op; rfl; (intro w1 h1; obtain ⟨hc, hf, hz⟩ := bcell h1; go_simp; (try go_bits); (first | exact ⟨rfl, Ext.refl _⟩ | (apply gives_call; first | (go_at_call 37; exact HTX.out _ _ _ _ (by (repeat' (first | exact Ext.refl _ | assumption | apply Ext.alloc | apply Ext.drew | refine Ext.set ?_ (by dsimp only; omega) _ | refine Ext.trans ?_ (by assumption)))) (Sights.ext (by (repeat' (first | exact Ext.refl _ | assumption | apply Ext.alloc | apply Ext.drew | refine Ext.set ?_ (by dsimp only; omega) _ | refine Ext.trans ?_ (by assumption)))) Hx2.out))) | (go_invoke; go_simp; apply gives_call; first | (go_at_call 37; exact HTX.out _ _ _ _ (by (repeat' (first | exact Ext.refl _ | assumption | apply Ext.alloc | apply Ext.drew | refine Ext.set ?_ (by dsimp only; omega) _ | refine Ext.trans ?_ (by assumption)))) (Sights.ext (by (repeat' (first | exact Ext.refl _ | assumption | apply Ext.alloc | apply Ext.drew | refine Ext.set ?_ (by dsimp only; omega) _ | refine Ext.trans ?_ (by assumption)))) Hx2.out))))); simp only [Act.put, List.setIfInBounds_toArray, List.set_cons_zero, List.set_cons_succ]) | (refine bl_split rfl rfl (fun hx => ?_) (fun hx => ?_) <;> simp only [hx]))
              refine bl_nil ?_
              intro w2 h2
              obtain ⟨hc2, hf2, hz2⟩ := bcell h2
              go_wp2_with fail
              go_ret2
              have h7 := HX.out
              rw [← Hi.out, if_pos HM.out] at h7
              subst h7
              exact RetR.mk rfl (by (repeat' (first | exact Ext.refl _ | assumption | apply Ext.alloc | apply Ext.drew | refine Ext.set ?_ (by dsimp only; omega) _ | refine Ext.trans ?_ (by assumption))))
          · have : k = n := by omega
            subst this
            have hi := HI.out
            rw [Hln.out, List.drop_length, trksErr] at hi
            have hne := Hne.out
            have h7 := HX.out
            rw [← hi, if_neg (by simp)] at h7
            subst h7
            have hE' : (E != 0) = true := by simpa using hne
            clear hi hne Hne HX
            go_wp2_with fail
            refine (HA.out _ (by (repeat' (first | exact Ext.refl _ | assumption | apply Ext.alloc | apply Ext.drew | refine Ext.set ?_ (by dsimp only; omega) _ | refine Ext.trans ?_ (by assumption))))).mono ?_
            rintro e w2 ⟨rfl, h2⟩; obtain ⟨hc_w2, hf_w2, hz_w2⟩ := bcell h2; (repeat (first | rw [World.size_alloc] at hz_w2 | rw [World.size_drew] at hz_w2 | rw [World.size_setCell] at hz_w2)); have : w.heap.size < w2.heap.size := (by omega)
            go_wp2_with fail
            go_ret2
            exact RetR.mk rfl (by (repeat' (first | exact Ext.refl _ | assumption | apply Ext.alloc | apply Ext.drew | refine Ext.set ?_ (by dsimp only; omega) _ | refine Ext.trans ?_ (by assumption))))
    · have h1' : 16 < n := by omega
      have hE : grpErr s L gs t0 = 8 := by unfold grpErr; rw [if_neg (by simp [h0]), if_pos (by omega)]
      rw [grpR, if_pos (by rw [hE]; decide), hE]
      have HC := Lib.hid fun W (hW : Ext w W) => refCheck_c A1 n1 c1 home A2 n2 c2 A3 n3 c3 s W (hs.ext hW)
      rw [h0] at HC
      clear h0 h1 hE hs hl hg hln
      go_enter Try.func50, Try.ntmps50
      go_wp2_with fail
      refine (HC.out _ (by (repeat' (first | exact Ext.refl _ | assumption | apply Ext.alloc | apply Ext.drew | refine Ext.set ?_ (by dsimp only; omega) _ | refine Ext.trans ?_ (by assumption))))).mono ?_
      rintro e w1 ⟨rfl, h1⟩; obtain ⟨hc_w1, hf_w1, hz_w1⟩ := bcell h1; (repeat (first | rw [World.size_alloc] at hz_w1 | rw [World.size_drew] at hz_w1 | rw [World.size_setCell] at hz_w1)); have : w.heap.size < w1.heap.size := (by omega)
      go_wp2_with fail
      go_ret2
      exact RetR.mk rfl (by (repeat' (first | exact Ext.refl _ | assumption | apply Ext.alloc | apply Ext.drew | refine Ext.set ?_ (by dsimp only; omega) _ | refine Ext.trans ?_ (by assumption))))
  · have h0' : (skyErr s != 0) = true := by simpa using h0
    have hE : grpErr s L gs t0 = skyErr s := by unfold grpErr; rw [if_pos h0]
    rw [grpR, if_pos (by rw [hE]; exact h0), hE]
    have HC := Lib.hid fun W (hW : Ext w W) => refCheck_c A1 n1 c1 home A2 n2 c2 A3 n3 c3 s W (hs.ext hW)
    generalize skyErr s = E at *
    clear h0 hE hs hl hg hln
    go_enter Try.func50, Try.ntmps50
    go_wp2_with fail
    refine (HC.out _ (by (repeat' (first | exact Ext.refl _ | assumption | apply Ext.alloc | apply Ext.drew | refine Ext.set ?_ (by dsimp only; omega) _ | refine Ext.trans ?_ (by assumption))))).mono ?_
    rintro e w1 ⟨rfl, h1⟩; obtain ⟨hc_w1, hf_w1, hz_w1⟩ := bcell h1; (repeat (first | rw [World.size_alloc] at hz_w1 | rw [World.size_drew] at hz_w1 | rw [World.size_setCell] at hz_w1)); have : w.heap.size < w1.heap.size := (by omega)
    go_wp2_with fail
    go_ret2
    exact RetR.mk rfl (by (repeat' (first | exact Ext.refl _ | assumption | apply Ext.alloc | apply Ext.drew | refine Ext.set ?_ (by dsimp only; omega) _ | refine Ext.trans ?_ (by assumption))))

set_option maxRecDepth 4000 in
set_option maxHeartbeats 2000000 in
theorem SkyGroups_c (A1 : Option Addr) (n1 c1 : Nat) (home : Int) (A2 : Option Addr) (n2 c2 : Nat) (A3 : Option Addr) (n3 c3 : Nat) (s : Sky) (A : Option Addr) (n c : Nat) (L : List (List Sight)) (B : Option Addr) (m d : Nat) (gs : List St) (t0 : Int) (w : World) (hs : IsSky w A1 n1 home A2 n2 A3 n3 s) (hl : Trks w A n L) (hg : Sts w B m gs) :
    Calls Try.prog 12 #[.agg #[.slice A1 n1 c1, .int .i64 home, .slice A2 n2 c2, .slice A3 n3 c3], .slice A n c, .slice B m d, .int .i64 t0] w fun e w' => e = .returned (.bool true) ∧ Ext w w' := by
  have hm := hg.le
  have HB := Lib.hid fun W (hW : Ext w W) => big_c A1 n1 c1 home A2 n2 c2 A3 n3 c3 s B m d A n c L W (hs.ext hW) hm (Trks.ext hW hl)
  have HF := Lib.hid fun W (hW : Ext w W) => Groups_c A1 n1 c1 home A2 n2 c2 A3 n3 c3 s A n c L B m d gs t0 W (hs.ext hW) (Trks.ext hW hl) (Sts.ext hW hg)
  have HR := Lib.hid fun W (hW : Ext w W) => refGroups_c A1 n1 c1 home A2 n2 c2 A3 n3 c3 s A n c L B m d gs t0 W (hs.ext hW) (Trks.ext hW hl) (Sts.ext hW hg)
  generalize grpR s L gs t0 = M1 at *
  generalize grpErr s L gs t0 = M2 at *
  generalize bigM s m L = G at *
  clear hs hg hl
  go_enter Try.func12, Try.ntmps12
  go_wp2_with fail
  refine (HB.out _ (by (repeat' (first | exact Ext.refl _ | assumption | apply Ext.alloc | apply Ext.drew | refine Ext.set ?_ (by dsimp only; omega) _ | refine Ext.trans ?_ (by assumption))))).mono ?_
  rintro e w1 ⟨rfl, h1⟩; obtain ⟨hc_w1, hf_w1, hz_w1⟩ := bcell h1; (repeat (first | rw [World.size_alloc] at hz_w1 | rw [World.size_drew] at hz_w1 | rw [World.size_setCell] at hz_w1)); have : w.heap.size < w1.heap.size := (by omega)
  cases G
  · go_wp2_with fail
    refine (HF.out _ (by (repeat' (first | exact Ext.refl _ | assumption | apply Ext.alloc | apply Ext.drew | refine Ext.set ?_ (by dsimp only; omega) _ | refine Ext.trans ?_ (by assumption))))).mono ?_
    rintro e w3 ⟨A3', c3', rfl, hI3, h3⟩
    obtain ⟨hc3, hf3, hz3⟩ := bcell h3
    have hws3 : w.heap.size < w3.heap.size := by omega
    have HI3 := Lib.hid hI3
    have hl3 := hI3.le
    clear hI3
    go_wp2_with fail
    refine (HR.out _ (by (repeat' (first | exact Ext.refl _ | assumption | apply Ext.alloc | apply Ext.drew | refine Ext.set ?_ (by dsimp only; omega) _ | refine Ext.trans ?_ (by assumption))))).mono ?_
    rintro e w4 ⟨A4', c4', rfl, hI4, h4⟩
    obtain ⟨hc4, hf4, hz4⟩ := bcell h4
    have HI4 := Lib.hid hI4
    clear hI4
    go_wp2_with fail
    go_loopw [13] (fun i wr => ∃ k : Nat, k ≤ M1.length ∧ i = .int .i64 k ∧ Ext w4 wr) (fun i _ => M1.length - (intOf i).toNat)
    case atStart => exact ⟨0, Nat.zero_le _, rfl, Ext.refl _⟩
    case round =>
      obtain ⟨k, hk, rfl, hb⟩ := hrel
      obtain ⟨hcb, hfb, hzb⟩ := bcell hb
      by_cases hlt : k < M1.length
      · obtain ⟨b, off, x, rfl, HD, hxm, Ax, nx, cx, hx, hx2⟩ := (IRows.ext (h4.trans hb) HI3.out).one hlt
        obtain ⟨b', off', y, rfl, HD', hym, Ay, ny, cy, hy, hy2⟩ := (IRows.ext hb HI4.out).one hlt
        obtain rfl : x = y := by
          have := HD.out.symm.trans HD'.out
          injection this
        simp only [Nat.mul_one] at hx hy
        have hbl : b < wr.heap.size := World.block_lt_of_cell? wr _ hx
        have hbl' : b' < wr.heap.size := World.block_lt_of_cell? wr _ hy
        have HS := Lib.hid fun W (hW : Ext wr W) => SameInts_c Ax nx cx Ay ny cy x W (Ints.ext hW hx2) (Ints.ext hW hy2)
        clear hx2 hy2
        go_wp2_with fail
        refine wp_region_text (by kernel_rfl) (by kernel_rfl) ?_
        repeat' (first | (refine bl_off (by rfl) ?_; simp only [Act.put, List.setIfInBounds_toArray, List.set_cons_zero, List.set_cons_succ]) | (apply bl_op; rfl; (intro w1 h1; obtain ⟨hc, hf, hz⟩ := bcell h1; go_simp; (try go_bits); (first | exact ⟨rfl, Ext.refl _⟩ | (apply gives_call; first | (go_at_call 45; exact HS.out _ (by (repeat' (first | exact Ext.refl _ | assumption | apply Ext.alloc | apply Ext.drew | refine Ext.set ?_ (by dsimp only; omega) _ | refine Ext.trans ?_ (by assumption)))))) | (go_invoke; go_simp; apply gives_call; first | (go_at_call 45; exact HS.out _ (by (repeat' (first | exact Ext.refl _ | assumption | apply Ext.alloc | apply Ext.drew | refine Ext.set ?_ (by dsimp only; omega) _ | refine Ext.trans ?_ (by assumption)))))))); simp only [Act.put, List.setIfInBounds_toArray, List.set_cons_zero, List.set_cons_succ]) | (refine bl_split rfl rfl (fun hx => ?_) (fun hx => ?_) <;> simp only [hx]))
        refine bl_nil ?_
        intro w5 h5
        go_wp2_with fail
        go_roundw
        case rel => exact ⟨k + 1, by omega, by go_num, by (repeat' (first | exact Ext.refl _ | assumption | apply Ext.alloc | apply Ext.drew | refine Ext.set ?_ (by dsimp only; omega) _ | refine Ext.trans ?_ (by assumption)))⟩
        case measure => simp [intOf]; omega
      · have : k = M1.length := by omega
        subst this
        go_wp2_with fail
        refine (awake_c _).mono ?_
        rintro e w6 ⟨rfl, h6⟩; obtain ⟨hc_w6, hf_w6, hz_w6⟩ := bcell h6; (repeat (first | rw [World.size_alloc] at hz_w6 | rw [World.size_drew] at hz_w6 | rw [World.size_setCell] at hz_w6))
        go_wp2_with fail
        go_ret
        exact ⟨rfl, by (repeat' (first | exact Ext.refl _ | assumption | apply Ext.alloc | apply Ext.drew | refine Ext.set ?_ (by dsimp only; omega) _ | refine Ext.trans ?_ (by assumption)))⟩
  · go_wp2_with fail
    refine (awake_c _).mono ?_
    rintro e w2 ⟨rfl, h2⟩; obtain ⟨hc_w2, hf_w2, hz_w2⟩ := bcell h2; (repeat (first | rw [World.size_alloc] at hz_w2 | rw [World.size_drew] at hz_w2 | rw [World.size_setCell] at hz_w2))
    go_wp2_with fail
    go_ret
    exact ⟨rfl, by (repeat' (first | exact Ext.refl _ | assumption | apply Ext.alloc | apply Ext.drew | refine Ext.set ?_ (by dsimp only; omega) _ | refine Ext.trans ?_ (by assumption)))⟩
end Go.Proofs.Ytmgjjgmadiabfaa
