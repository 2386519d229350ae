/- Tracklets: their errors, by the reference. No condition. -/
import Derived.Test.YtmgjjgmadiabfaaMiss
namespace Go.Proofs.Ytmgjjgmadiabfaa
open Go.RowKit

theorem sightErr2_of {s : Sky} (h : skyErr s = 0) (x : Sight) : sightErr2 s x = sightErr s x := by
  rw [sightErr2, if_neg (by simp [h])]

set_option maxRecDepth 4000 in
set_option maxHeartbeats 1000000 in
theorem refCheckTracklet_c (A1 : Option Addr) (n1 c1 : Nat) (home : Int) (A2 : Option Addr) (n2 c2 : Nat) (A3 : Option Addr) (n3 c3 : Nat) (s : Sky) (A : Option Addr) (n c : Nat) (l : List Sight) (w : World) (hs : IsSky w A1 n1 home A2 n2 A3 n3 s) (hl : Sights w A n l) :
    Calls Try.prog 37 #[.agg #[.slice A1 n1 c1, .int .i64 home, .slice A2 n2 c2, .slice A3 n3 c3], .slice A n c] w fun e w' => e = .returned (.int .i64 (trkErr s l)) ∧ Ext w w' := by
  have hn := hl.le
  have hln := Lib.hid hl.len
  have HC := Lib.hid fun W (hW : Ext w W) => refCheck_c A1 n1 c1 home A2 n2 c2 A3 n3 c3 s W (hs.ext hW)
  have HS := Lib.hid fun (x : Sight) W (hW : Ext w W) => refSight_c A1 n1 c1 home A2 n2 c2 A3 n3 c3 s x.kind x.station x.catalog x.tick x.dx x.dy x.err x.lo x.hi W (hs.ext hW)
  have HT : Hid (trkErr s l = if skyErr s ≠ 0 then skyErr s else if l.length = 0 then 6 else if 64 < l.length then 8 else trkFrom s l 0) := Lib.hid rfl
  by_cases hM : skyErr s = 0
  · have H0 : Hid (∀ x : Sight, sightErr s x = 0 → 0 ≤ x.tick) := Lib.hid fun x hx => (sight_ok (by rw [sightErr2_of hM]; exact hx)).tick.1
    have H2 : Hid (∀ x : Sight, sightErr2 s x = sightErr s x) := Lib.hid fun x => sightErr2_of hM x
    rw [hM] at HC HT
    clear hM hs
    by_cases h8 : 1 ≤ n ∧ n ≤ 64
    · obtain ⟨h1, h8⟩ := h8
      have h0 : ((n : Int) == 0) = false := by simp; omega
      have HT2 : Hid (trkErr s l = trkFrom s l 0) := by
        have h4 := hln.out; have h5 := HT.out
        exact Lib.hid (by rw [h5, if_neg (by simp), if_neg (by omega), if_neg (by omega)])
      clear HT
      go_enter Try.func37, Try.ntmps37
      go_wp2_with fail
      refine (HC.out _ (by (repeat' (first | exact Ext.refl _ | assumption | apply Ext.alloc | apply Ext.drew | refine Ext.set ?_ (by dsimp only; omega) _ | refine Ext.trans ?_ (by assumption))))).mono ?_
      rintro e w1 ⟨rfl, h1⟩; obtain ⟨hc_w1, hf_w1, hz_w1⟩ := bcell h1; (repeat (first | rw [World.size_alloc] at hz_w1 | rw [World.size_drew] at hz_w1 | rw [World.size_setCell] at hz_w1)); have : w.heap.size < w1.heap.size := (by omega)
      go_wp2_with fail
      go_loopw [5, 6] (fun ev i wr => ∃ (k : Nat) (m q : Int), k ≤ n ∧ i = .int .i64 k ∧ ev = .int .i64 q ∧ Hid (trkFrom s (l.drop k) m = trkFrom s l 0) ∧ (k = 0 ∧ m = 0 ∨ ∃ j : Nat, k = j + 1 ∧ Hid (∃ y, l[j]? = some y ∧ y.tick = m)) ∧ Ext w1 wr) (fun _ i _ => n - (intOf i).toNat)
      case atStart => exact ⟨0, 0, 0, Nat.zero_le _, rfl, rfl, rfl, .inl ⟨rfl, rfl⟩, Ext.refl _⟩
      case round =>
        obtain ⟨k, m, q, hk, rfl, rfl, HI, HK, hb⟩ := hrel
        obtain ⟨hcb, hfb, hzb⟩ := bcell hb
        by_cases hlt : k < n
        · obtain ⟨b, off, x, rfl, HD, hxm, hx⟩ := hl.one hlt
          have Hxk : Hid (l[k]? = some x) := by
            have h4 := HD.out
            exact Lib.hid (by rw [← List.head?_drop, h4]; rfl)
          obtain ⟨hx0, hx1, hx2, hx3, hx4, hx5, hx6, hx7, hx8⟩ := sightAt.ext (Ext.trans (by (repeat' (first | exact Ext.refl _ | assumption | apply Ext.alloc | apply Ext.drew | refine Ext.set ?_ (by dsimp only; omega) _ | refine Ext.trans ?_ (by assumption)))) hb) hx
          have hi := HI.out; rw [HD.out, trkFrom, H2.out] at hi
          have hcx := HS.out x
          have h0x := H0.out x
          generalize sightErr s x = M at hi hcx h0x
          have HSx := Lib.hid hcx; clear hcx
          have Hi := Lib.hid hi; clear hi
          have hwr0 : w.heap.size < wr.heap.size := by omega
          have hbw := World.block_lt_of_cell? wr _ hx0
          dsimp only at hbw
          go_wp2_with fail
          refine wp_region_text (by kernel_rfl) (by kernel_rfl) ?_
          repeat' (first | (refine bl_off (by rfl) ?_; simp only [Act.put, List.setIfInBounds_toArray, List.set_cons_zero, List.set_cons_succ]) | (apply bl_op; rfl; (intro w1 h1; obtain ⟨hc, hf, hz⟩ := bcell h1; go_simp; (try go_bits); (first | exact ⟨rfl, Ext.refl _⟩ | (apply gives_call; first | (go_at_call 61; exact HSx.out _ (by (repeat' (first | exact Ext.refl _ | assumption | apply Ext.alloc | apply Ext.drew | refine Ext.set ?_ (by dsimp only; omega) _ | refine Ext.trans ?_ (by assumption)))))) | (go_invoke; go_simp; apply gives_call; first | (go_at_call 61; exact HSx.out _ (by (repeat' (first | exact Ext.refl _ | assumption | apply Ext.alloc | apply Ext.drew | refine Ext.set ?_ (by dsimp only; omega) _ | refine Ext.trans ?_ (by assumption)))))))); simp only [Act.put, List.setIfInBounds_toArray, List.set_cons_zero, List.set_cons_succ]) | (refine bl_split rfl rfl (fun hx => ?_) (fun hx => ?_) <;> simp only [hx]))
          refine bl_nil ?_
          intro w2 h2
          obtain ⟨hc2, hf2, hz2⟩ := bcell h2
          have hwr1 : w.heap.size < w2.heap.size := by omega
          have hbw2 : b < w2.heap.size := by omega
          by_cases hp : M = 0
          · subst hp
            have htk := h0x rfl
            clear h0x
            have hi := Hi.out; rw [if_neg (by simp)] at hi
            rcases HK with ⟨rfl, rfl⟩ | ⟨j, hk', HK⟩
            · rw [if_neg (by omega)] at hi
              have Hj := Lib.hid hi; clear hi
              go_wp2_with fail
              refine wp_region_text (by kernel_rfl) (by kernel_rfl) ?_
              repeat' (first | (refine bl_off (by rfl) ?_; simp only [Act.put, List.setIfInBounds_toArray, List.set_cons_zero, List.set_cons_succ]) | (apply bl_op; rfl; (intro w1 h1; obtain ⟨hc, hf, hz⟩ := bcell h1; go_simp; (try go_bits); (first | exact ⟨rfl, Ext.refl _⟩)); simp only [Act.put, List.setIfInBounds_toArray, List.set_cons_zero, List.set_cons_succ]) | (refine bl_split rfl rfl (fun hx => ?_) (fun hx => ?_) <;> simp only [hx]))
              all_goals refine bl_nil ?_
              all_goals intro w3 h3
              all_goals obtain ⟨hc3, hf3, hz3⟩ := bcell h3
              all_goals go_wp2_with fail
              all_goals go_roundw
              case rel => exact ⟨1, x.tick, 0, by omega, by go_num, rfl, Hj, .inr ⟨0, rfl, Lib.hid ⟨x, Hxk.out, rfl⟩⟩, by (repeat' (first | exact Ext.refl _ | assumption | apply Ext.alloc | apply Ext.drew | refine Ext.set ?_ (by dsimp only; omega) _ | refine Ext.trans ?_ (by assumption)))⟩
              case measure => simp [intOf]; omega
            · have hjk : (k : Int) - 1 = j := by omega
              have hk0 : 0 < k := by omega
              obtain ⟨y, hy1, hy2⟩ := HK.out
              obtain ⟨_, b', off', hA', hy⟩ := hl.get hy1
              obtain ⟨rfl, rfl⟩ : b = b' ∧ off = off' := by simpa using hA'
              obtain ⟨-, -, -, hy3, -⟩ := sightAt.ext (Ext.trans (by (repeat' (first | exact Ext.refl _ | assumption | apply Ext.alloc | apply Ext.drew | refine Ext.set ?_ (by dsimp only; omega) _ | refine Ext.trans ?_ (by assumption)))) hb) hy
              rw [hy2] at hy3
              have hbw := World.block_lt_of_cell? wr _ hy3
              dsimp only at hbw
              have hj : j < n := by omega
              clear hk'
              clear hy hy1 hy2 hA'
              by_cases ht : x.tick < m
              · rw [if_pos ht] at hi
                have Hj := Lib.hid hi; clear hi
                go_wp2_with fail
                refine wp_region_text (by kernel_rfl) (by kernel_rfl) ?_
                repeat' (first | (refine bl_off (by rfl) ?_; simp only [Act.put, List.setIfInBounds_toArray, List.set_cons_zero, List.set_cons_succ]) | (apply bl_op; rfl; (intro w1 h1; obtain ⟨hc, hf, hz⟩ := bcell h1; go_simp; (try go_bits); (first | exact ⟨rfl, Ext.refl _⟩)); simp only [Act.put, List.setIfInBounds_toArray, List.set_cons_zero, List.set_cons_succ]) | (refine bl_split rfl rfl (fun hx => ?_) (fun hx => ?_) <;> simp only [hx]))
                all_goals refine bl_nil ?_
                all_goals intro w3 h3
                all_goals obtain ⟨hc3, hf3, hz3⟩ := bcell h3
                all_goals go_wp2_with fail
                all_goals go_ret
                all_goals exact ⟨ret_i (by rw [HT2.out, ← Hj.out]), by (repeat' (first | exact Ext.refl _ | assumption | apply Ext.alloc | apply Ext.drew | refine Ext.set ?_ (by dsimp only; omega) _ | refine Ext.trans ?_ (by assumption)))⟩
              · have ht' : m ≤ x.tick := by omega
                rw [if_neg ht] at hi
                have Hj := Lib.hid hi; clear hi
                clear ht
                go_wp2_with fail
                refine wp_region_text (by kernel_rfl) (by kernel_rfl) ?_
                repeat' (first | (refine bl_off (by rfl) ?_; simp only [Act.put, List.setIfInBounds_toArray, List.set_cons_zero, List.set_cons_succ]) | (apply bl_op; rfl; (intro w1 h1; obtain ⟨hc, hf, hz⟩ := bcell h1; go_simp; (try go_bits); (first | exact ⟨rfl, Ext.refl _⟩)); simp only [Act.put, List.setIfInBounds_toArray, List.set_cons_zero, List.set_cons_succ]) | (refine bl_split rfl rfl (fun hx => ?_) (fun hx => ?_) <;> simp only [hx]))
                all_goals refine bl_nil ?_
                all_goals intro w3 h3
                all_goals obtain ⟨hc3, hf3, hz3⟩ := bcell h3
                all_goals go_wp2_with fail
                all_goals go_roundw
                case rel => exact ⟨k + 1, x.tick, 0, by omega, by go_num, rfl, Hj, .inr ⟨k, rfl, Lib.hid ⟨x, Hxk.out, rfl⟩⟩, by (repeat' (first | exact Ext.refl _ | assumption | apply Ext.alloc | apply Ext.drew | refine Ext.set ?_ (by dsimp only; omega) _ | refine Ext.trans ?_ (by assumption)))⟩
                case measure => simp [intOf]; omega
          · have hp' : (M != 0) = true := by simpa using hp
            have hi := Hi.out; rw [if_pos hp] at hi
            have Hj := Lib.hid hi; clear hi
            go_wp2_with fail
            go_ret
            exact ⟨ret_i (by rw [HT2.out, ← Hj.out]), by (repeat' (first | exact Ext.refl _ | assumption | apply Ext.alloc | apply Ext.drew | refine Ext.set ?_ (by dsimp only; omega) _ | refine Ext.trans ?_ (by assumption)))⟩
        · have : k = n := by omega
          subst this
          have hi := HI.out; rw [hln.out, List.drop_length, trkFrom] at hi
          have Hj := Lib.hid hi; clear hi
          go_wp2_with fail
          go_ret
          exact ⟨ret_i (by rw [HT2.out, ← Hj.out]), by (repeat' (first | exact Ext.refl _ | assumption | apply Ext.alloc | apply Ext.drew | refine Ext.set ?_ (by dsimp only; omega) _ | refine Ext.trans ?_ (by assumption)))⟩
    · by_cases h0 : n = 0
      · have HT2 : Hid (trkErr s l = 6) := by
          have h4 := hln.out; have h5 := HT.out
          exact Lib.hid (by rw [h5, if_neg (by simp), if_pos (by omega)])
        have h0' : ((n : Int) == 0) = true := by simp; omega
        go_enter Try.func37, Try.ntmps37
        go_wp2_with fail
        refine (HC.out _ (by (repeat' (first | exact Ext.refl _ | assumption | apply Ext.alloc | apply Ext.drew | refine Ext.set ?_ (by dsimp only; omega) _ | refine Ext.trans ?_ (by assumption))))).mono ?_
        rintro e w1 ⟨rfl, h1⟩; obtain ⟨hc_w1, hf_w1, hz_w1⟩ := bcell h1; (repeat (first | rw [World.size_alloc] at hz_w1 | rw [World.size_drew] at hz_w1 | rw [World.size_setCell] at hz_w1)); have : w.heap.size < w1.heap.size := (by omega)
        go_wp2_with fail
        go_ret
        exact ⟨ret_i (by rw [HT2.out]), by (repeat' (first | exact Ext.refl _ | assumption | apply Ext.alloc | apply Ext.drew | refine Ext.set ?_ (by dsimp only; omega) _ | refine Ext.trans ?_ (by assumption)))⟩
      · have HT2 : Hid (trkErr s l = 8) := by
          have h4 := hln.out; have h5 := HT.out
          exact Lib.hid (by rw [h5, if_neg (by simp), if_neg (by omega), if_pos (by omega)])
        have h0' : ((n : Int) == 0) = false := by simp; omega
        have h9 : 64 < n := by omega
        clear h8 h0
        go_enter Try.func37, Try.ntmps37
        go_wp2_with fail
        refine (HC.out _ (by (repeat' (first | exact Ext.refl _ | assumption | apply Ext.alloc | apply Ext.drew | refine Ext.set ?_ (by dsimp only; omega) _ | refine Ext.trans ?_ (by assumption))))).mono ?_
        rintro e w1 ⟨rfl, h1⟩; obtain ⟨hc_w1, hf_w1, hz_w1⟩ := bcell h1; (repeat (first | rw [World.size_alloc] at hz_w1 | rw [World.size_drew] at hz_w1 | rw [World.size_setCell] at hz_w1)); have : w.heap.size < w1.heap.size := (by omega)
        go_wp2_with fail
        go_ret
        exact ⟨ret_i (by rw [HT2.out]), by (repeat' (first | exact Ext.refl _ | assumption | apply Ext.alloc | apply Ext.drew | refine Ext.set ?_ (by dsimp only; omega) _ | refine Ext.trans ?_ (by assumption)))⟩
  · have hM' : (skyErr s != 0) = true := by simpa using hM
    go_enter Try.func37, Try.ntmps37
    go_wp2_with fail
    refine (HC.out _ (by (repeat' (first | exact Ext.refl _ | assumption | apply Ext.alloc | apply Ext.drew | refine Ext.set ?_ (by dsimp only; omega) _ | refine Ext.trans ?_ (by assumption))))).mono ?_
    rintro e w1 ⟨rfl, h1⟩; obtain ⟨hc_w1, hf_w1, hz_w1⟩ := bcell h1; (repeat (first | rw [World.size_alloc] at hz_w1 | rw [World.size_drew] at hz_w1 | rw [World.size_setCell] at hz_w1)); have : w.heap.size < w1.heap.size := (by omega)
    go_wp2_with fail
    go_ret
    exact ⟨ret_i (by rw [HT.out, if_pos hM]), by (repeat' (first | exact Ext.refl _ | assumption | apply Ext.alloc | apply Ext.drew | refine Ext.set ?_ (by dsimp only; omega) _ | refine Ext.trans ?_ (by assumption)))⟩
end Go.Proofs.Ytmgjjgmadiabfaa
