/- Groups of tracklets: the reference. No condition. -/
import Derived.Test.YtmgjjgmadiabfaaGroups
namespace Go.Proofs.Ytmgjjgmadiabfaa
open Go.RowKit

set_option maxRecDepth 8000 in
set_option maxHeartbeats 4000000 in
theorem refGroups_yes (A1 : Option Addr) (n1 c1 : Nat) (home : Int) (A2 : Option Addr) (n2 c2 : Nat) (A3 : Option Addr) (n3 c3 : Nat) (s : Sky) (A : Option Addr) (n c : Nat) (L : List (List Sight)) (B : Option Addr) (m d : Nat) (gs : List St) (t0 : Int) (w : World) (hs : IsSky w A1 n1 home A2 n2 A3 n3 s) (hl : Trks w A n L) (hg : Sts w B m gs)
    (h0 : skyErr s = 0) (h1 : L.length ≤ 16) (h2 : trksErr s L = 0) (h3 : askErr gs t0 = 0) :
    Calls Try.prog 50 #[.agg #[.slice A1 n1 c1, .int .i64 home, .slice A2 n2 c2, .slice A3 n3 c3], .slice A n c, .slice B m d, .int .i64 t0] w (RetR w ((grpOf s L gs t0).2 ++ singlesFrom (grpOf s L gs t0).1 0) 0) := by
  have HC := Lib.hid fun W (hW : Ext w W) => refCheck_c A1 n1 c1 home A2 n2 c2 A3 n3 c3 s W (hs.ext hW)
  have HT := Lib.hid fun (x : List Sight) (hx : x ∈ L) A' n' c' W (hW : Ext w W) h => refCheckTracklet_c A1 n1 c1 home A2 n2 c2 A3 n3 c3 s A' n' c' x W (hs.ext hW) h
  have HA := Lib.hid fun W (hW : Ext w W) => asked_c B m d gs t0 W (Sts.ext hW hg)
  rw [h0] at HC
  rw [h3] at HA
  have hm := hg.le
  have hok := trks_ok h2
  obtain ⟨hm64, ht, hgo⟩ := ask_ok h3
  have HF := Lib.hid fun (g : St) (hgm : g ∈ gs) (x : List Sight) (hx : x ∈ L) A' n' c' W (hW : Ext w W) h => refmiss_c A1 n1 c1 home A2 n2 c2 A3 n3 c3 s g.x g.y g.u g.v t0 A' n' c' x W (hs.ext hW) h (trk_ok (hok x hx)) (hgo g hgm) ht
  have HT0 := Lib.hid fun (x : List Sight) (hx : x ∈ L) => hok x hx
  have Hml := Lib.hid hg.len
  have Hln := Lib.hid hl.len
  have HGS := Lib.hid fun W (hW : Ext w W) => Sts.ext hW hg
  have HLS := Lib.hid fun W (hW : Ext w W) => Trks.ext hW hl
  have hm64' : m ≤ 64 := by have := hg.len; omega
  have hn16 : n ≤ 16 := by have := hl.len; omega
  obtain ⟨ii, hii, hi0, hi1, hi2⟩ := info_parts info_int
  obtain ⟨ib, hib, hb0, hb1, hb2⟩ := info_parts info_bool
  obtain ⟨ir, hir, hr0, hr1, hr2⟩ := info_parts info_ints
  generalize hRR : grpOf s L gs t0 = RR
  have HRR := Lib.hid (show groupsFrom (takes s t0) L gs (List.replicate n false) [] = RR by rw [hl.len]; exact hRR)
  obtain ⟨R1, R2⟩ := RR
  dsimp only
  clear h0 h1 h2 h3 hok hgo ht hs hg hl hm64 hRR
  go_enter Try.func50, Try.ntmps50
  go_wp2_with fail
  refine (HC.out _ (by (repeat' (first | exact Ext.refl _ | assumption | apply Ext.alloc | apply Ext.drew | refine Ext.set ?_ (by dsimp only; omega) _ | refine Ext.trans ?_ (by assumption))))).mono ?_
  rintro e w1 ⟨rfl, h1⟩; obtain ⟨hc_w1, hf_w1, hz_w1⟩ := bcell h1; (repeat (first | rw [World.size_alloc] at hz_w1 | rw [World.size_drew] at hz_w1 | rw [World.size_setCell] at hz_w1)); have : w.heap.size < w1.heap.size := (by omega)
  go_wp2_with fail
  go_loopw [11] (fun i wr => ∃ k : Nat, k ≤ n ∧ i = .int .i64 k ∧ Ext w1 wr) (fun i _ => n - (intOf i).toNat)
  case atStart => exact ⟨0, Nat.zero_le _, rfl, Ext.refl _⟩
  case round =>
    obtain ⟨k, hk, rfl, hb⟩ := hrel
    obtain ⟨hcb, hfb, hzb⟩ := bcell hb
    have hwr0 : w.heap.size < wr.heap.size := by omega
    have eW : Ext w wr := by (repeat' (first | exact Ext.refl _ | assumption | apply Ext.alloc | apply Ext.drew | refine Ext.set ?_ (by dsimp only; omega) _ | refine Ext.trans ?_ (by assumption)))
    by_cases hlt : k < n
    · obtain ⟨q, off, x, rfl, HD, hxm, A', n', c', hx, hx2⟩ := (HLS.out _ eW).one hlt
      simp only [Nat.mul_one] at hx
      have hbl : q < wr.heap.size := World.block_lt_of_cell? wr _ hx
      have Hx2 := Lib.hid hx2
      have hn' := hx2.le
      clear hx2
      have HTx := HT.out x hxm
      rw [HT0.out x hxm] at HTx
      have HTX := Lib.hid HTx
      clear HTx
      go_wp2_with fail
      refine wp_region_text (by kernel_rfl) (by kernel_rfl) ?_
      repeat' (first | (refine bl_off (by rfl) ?_; simp only [Act.put, List.setIfInBounds_toArray, List.set_cons_zero, List.set_cons_succ]) | (apply bl_op; rfl; (intro w1 h1; obtain ⟨hc, hf, hz⟩ := bcell h1; go_simp; (try go_bits); (first | exact ⟨rfl, Ext.refl _⟩ | (apply gives_call; first | (go_at_call 37; exact HTX.out _ _ _ _ (by (repeat' (first | exact Ext.refl _ | assumption | apply Ext.alloc | apply Ext.drew | refine Ext.set ?_ (by dsimp only; omega) _ | refine Ext.trans ?_ (by assumption)))) (Sights.ext (by (repeat' (first | exact Ext.refl _ | assumption | apply Ext.alloc | apply Ext.drew | refine Ext.set ?_ (by dsimp only; omega) _ | refine Ext.trans ?_ (by assumption)))) Hx2.out))) | (go_invoke; go_simp; apply gives_call; first | (go_at_call 37; exact HTX.out _ _ _ _ (by (repeat' (first | exact Ext.refl _ | assumption | apply Ext.alloc | apply Ext.drew | refine Ext.set ?_ (by dsimp only; omega) _ | refine Ext.trans ?_ (by assumption)))) (Sights.ext (by (repeat' (first | exact Ext.refl _ | assumption | apply Ext.alloc | apply Ext.drew | refine Ext.set ?_ (by dsimp only; omega) _ | refine Ext.trans ?_ (by assumption)))) Hx2.out))))); simp only [Act.put, List.setIfInBounds_toArray, List.set_cons_zero, List.set_cons_succ]) | (refine bl_split rfl rfl (fun hx => ?_) (fun hx => ?_) <;> simp only [hx]))
      refine bl_nil ?_
      intro w2 h2
      go_wp2_with fail
      go_roundw
      case rel => exact ⟨k + 1, by omega, by go_num, by (repeat' (first | exact Ext.refl _ | assumption | apply Ext.alloc | apply Ext.drew | refine Ext.set ?_ (by dsimp only; omega) _ | refine Ext.trans ?_ (by assumption)))⟩
      case measure => simp [intOf]; omega
    · have : k = n := by omega
      subst this
      go_wp2_with fail
      refine (HA.out _ (by (repeat' (first | exact Ext.refl _ | assumption | apply Ext.alloc | apply Ext.drew | refine Ext.set ?_ (by dsimp only; omega) _ | refine Ext.trans ?_ (by assumption))))).mono ?_
      rintro e w2 ⟨rfl, h2⟩; obtain ⟨hc_w2, hf_w2, hz_w2⟩ := bcell h2; (repeat (first | rw [World.size_alloc] at hz_w2 | rw [World.size_drew] at hz_w2 | rw [World.size_setCell] at hz_w2)); have : w.heap.size < w2.heap.size := (by omega)
      have e2 : Ext w w2 := by (repeat' (first | exact Ext.refl _ | assumption | apply Ext.alloc | apply Ext.drew | refine Ext.set ?_ (by dsimp only; omega) _ | refine Ext.trans ?_ (by assumption)))
      obtain ⟨wo, rfl⟩ : ∃ wo : World, wo = wr := ⟨_, rfl⟩
      go_wp2_with (go_loud (refine wpList_make_full _ rfl (.tmp 49) (.tmp 49) 89 rfl w2.heap.size 4 ib _ 1 Try.underlying89 hib hb0 hb1 .i64 .i64 _ _ k rfl rfl rfl rfl (by rw [hb2]; omega) (by unfold maxLen; omega) (Nat.le_refl _) ?_))
      intro w3 ho3 hg3
      rw [made_bools2] at ho3
      have hB3 := own_full (by simp) ho3
      have e3 : Ext w2 w3 := grown_ext (Ext.refl _) hg3 (by intro j hj; cases hj)
      have HB3 := Lib.hid hB3
      obtain ⟨hc3, hf3, hz3⟩ := bcell e3
      clear ho3 hg3 hB3
      go_wp2_with fail
      go_loopw [13, 14] (fun v i wr => ∃ (k' : Nat) (tk : List Bool) (rows : List (List Int)), k' ≤ m ∧ i = .int .i64 k' ∧ Hid (tk.length = k) ∧ Hid (rows.length ≤ k') ∧ Hid (groupsFrom (takes s t0) L (gs.drop k') tk rows = (R1, R2)) ∧ Hid (OwnRows w2.heap.size wr v rows) ∧ Hid (Blk wr w2.heap.size 4 (boolC tk)) ∧ Ext w2 wr) (fun _ i _ => m - (intOf i).toNat)
      case atStart => exact ⟨0, _, [], Nat.zero_le _, rfl, List.length_replicate, Nat.le_refl _, HRR.out, OwnRows.nil _ _, HB3.out, e3⟩
      case round =>
        obtain ⟨k', tk, rows, hk', rfl, Htk, Hrk, HI, HO, HB, hb3⟩ := hrel
        obtain ⟨hcb3, hfb3, hzb3⟩ := bcell hb3
        have hwr3 : w.heap.size < wr.heap.size := by omega
        have hT3 : w2.heap.size < wr.heap.size := HB.out.lt
        by_cases hlt : k' < m
        · obtain ⟨q, off, g, rfl, HD, hgm, hgc⟩ := (HGS.out _ (e2.trans hb3)).one hlt
          obtain ⟨hg0, hg1, hg2, hg3⟩ := hgc
          have hq := World.block_lt_of_cell? wr _ hg0
          dsimp only at hq
          have hi := HI.out; rw [HD.out, groupsFrom] at hi
          have Hi := Lib.hid hi; clear hi
          obtain ⟨wo, rfl⟩ : ∃ wo : World, wo = wr := ⟨_, rfl⟩
          go_wp2_with fail
          go_loopw [15, 16] (fun v i wr => ∃ (j : Nat) (acc : List Int), j ≤ k ∧ i = .int .i64 j ∧ Hid (acc.length ≤ j) ∧ Hid (acc ++ groupFrom (takes s t0 g) tk (L.drop j) j = groupFrom (takes s t0 g) tk L 0) ∧ Hid (OwnInts wo.heap.size wr v acc) ∧ Ext wo wr) (fun _ i _ => k - (intOf i).toNat)
          case atStart => exact ⟨0, [], Nat.zero_le _, rfl, Nat.le_refl _, rfl, OwnInts.nil _ _, Ext.refl _⟩
          case round =>
            obtain ⟨j, acc, hj, rfl, Hak, HJ, HG, hb4⟩ := hrel
            obtain ⟨hcb4, hfb4, hzb4⟩ := bcell hb4
            have hwr4 : w.heap.size < wr.heap.size := by omega
            have hT4 : w2.heap.size < wr.heap.size := by omega
            have hq4 : q < wr.heap.size := by omega
            have EWr := Lib.hid (show Ext w wr from e2.trans (hb3.trans hb4))
            by_cases hlt2 : j < k
            · obtain ⟨qq, off2, x, rfl, HE, hxm, A', n', c', hx, hx2⟩ := (HLS.out _ EWr.out).one hlt2
              simp only [Nat.mul_one] at hx
              have hbl : qq < wr.heap.size := World.block_lt_of_cell? wr _ hx
              have Hx2 := Lib.hid hx2
              have hn' := hx2.le
              have hTc : wo.cell? ⟨w2.heap.size, j, none⟩ = some (.bool (tk.getD j false)) := by
                rw [HB.out.cell j, boolC_get _ _ (by rw [Htk.out]; exact hlt2)]
              have hjj := HJ.out; rw [HE.out, groupFrom] at hjj
              have hcx := HF.out g hgm x hxm
              have hee : missFrom s ⟨g.x, g.y, g.u, g.v⟩ t0 x 0 = missFrom s g t0 x 0 := rfl
              rw [hee] at hcx
              have htk : takes s t0 g x = decide (missFrom s g t0 x 0 < 0) := rfl
              rw [htk] at hjj
              generalize missFrom s g t0 x 0 = M at hjj hcx
              have HFx := Lib.hid hcx
              have Hj := Lib.hid hjj
              clear hcx hee htk hjj hx2
              cases hb5 : tk.getD j false
              · rw [hb5] at hTc
                have hj2 := Hj.out
                rw [hb5] at hj2
                have Hj2 := Lib.hid hj2
                clear hj2 hb5
                go_wp2_with fail
                refine wp_region_text (by kernel_rfl) (by kernel_rfl) ?_
                repeat' (first | (refine bl_off (by rfl) ?_; simp only [Act.put, List.setIfInBounds_toArray, List.set_cons_zero, List.set_cons_succ]) | (apply bl_op; rfl; (intro w1 h1; obtain ⟨hc, hf, hz⟩ := bcell h1; go_simp; (try go_bits); (first | exact ⟨rfl, Ext.refl _⟩ | (apply gives_call; first | (go_at_call 82; exact HFx.out _ _ _ _ (EWr.out.trans (by assumption)) (Sights.ext (by (repeat' (first | exact Ext.refl _ | assumption | apply Ext.alloc | apply Ext.drew | refine Ext.set ?_ (by dsimp only; omega) _ | refine Ext.trans ?_ (by assumption)))) Hx2.out))) | (go_invoke; go_simp; apply gives_call; first | (go_at_call 82; exact HFx.out _ _ _ _ (EWr.out.trans (by assumption)) (Sights.ext (by (repeat' (first | exact Ext.refl _ | assumption | apply Ext.alloc | apply Ext.drew | refine Ext.set ?_ (by dsimp only; omega) _ | refine Ext.trans ?_ (by assumption)))) Hx2.out))))); simp only [Act.put, List.setIfInBounds_toArray, List.set_cons_zero, List.set_cons_succ]) | (refine bl_split rfl rfl (fun hx => ?_) (fun hx => ?_) <;> simp only [hx]))
                refine bl_nil ?_
                intro w5 h5
                obtain ⟨hc5, hf5, hz5⟩ := bcell h5
                have hw5 : w.heap.size < w5.heap.size := by omega
                by_cases hM : M < 0
                · have HG5 := Lib.hid (HG.out.ext h5)
                  have hak : acc.length ≤ 16 := by have := Hak.out; omega
                  go_wp2_with (at_builtin; go_loud (refine wpList_append_sl rfl (.tmp 82) (.tmp 84) 38 rfl wo.heap.size 3 ii _ 1 8 Try.underlying38 hii hi0 hi1 hi2 rfl (by decide) _ acc.length (acc.flatMap intC) rfl (own_ext_keep HG5.out (by (repeat' (first | exact Ext.refl _ | assumption | apply Ext.alloc | apply Ext.drew | refine Ext.set ?_ (by dsimp only; omega) _ | refine Ext.trans ?_ (by assumption))))) (some ⟨w5.heap.size, 0, none⟩) 1 1 [.int .i64 j] rfl rfl (.inr ⟨_, rfl, new_cells (by simp)⟩) (by intro u hu; simp at hu; rcases hu with rfl; rfl) (by unfold maxLen; omega) (by omega) (by simp; omega) ?_))
                  intro v6 w6 ho6 hg6 hn6
                  have e6 := own_ext (w0 := wo) (by (repeat' (first | exact Ext.refl _ | assumption | apply Ext.alloc | apply Ext.drew | refine Ext.set ?_ (by dsimp only; omega) _ | refine Ext.trans ?_ (by assumption)))) (own_ext_keep HG5.out (by (repeat' (first | exact Ext.refl _ | assumption | apply Ext.alloc | apply Ext.drew | refine Ext.set ?_ (by dsimp only; omega) _ | refine Ext.trans ?_ (by assumption))))) hg6 (Nat.le_refl _)
                  have HG6 := Lib.hid (OwnInts.ofSnoc rfl ho6)
                  clear ho6 hg6 hn6
                  go_wp2_with fail
                  go_roundw
                  case rel => exact ⟨j + 1, acc ++ [(j : Int)], by omega, by go_num, by (show (acc ++ [(j : Int)]).length ≤ j + 1); have := Hak.out; simp; omega, by have hi := Hj2.out; rw [if_pos (by simp [hM])] at hi; simpa [Hid] using hi, HG6, e6⟩
                  case measure => simp [intOf]; omega
                · have hM' : 0 ≤ M := by omega
                  go_wp2_with fail
                  go_roundw
                  case rel => exact ⟨j + 1, acc, by omega, by go_num, Nat.le_succ_of_le Hak.out, by have hi := Hj2.out; rw [if_neg (by simp; omega)] at hi; exact hi, HG.out.ext (by (repeat' (first | exact Ext.refl _ | assumption | apply Ext.alloc | apply Ext.drew | refine Ext.set ?_ (by dsimp only; omega) _ | refine Ext.trans ?_ (by assumption)))), by (repeat' (first | exact Ext.refl _ | assumption | apply Ext.alloc | apply Ext.drew | refine Ext.set ?_ (by dsimp only; omega) _ | refine Ext.trans ?_ (by assumption)))⟩
                  case measure => simp [intOf]; omega
              · rw [hb5] at hTc
                have hj2 := Hj.out
                rw [hb5, if_neg (by simp)] at hj2
                have Hj2 := Lib.hid hj2
                clear hj2 hb5
                go_wp2_with fail
                refine wp_region_text (by kernel_rfl) (by kernel_rfl) ?_
                repeat' (first | (refine bl_off (by rfl) ?_; simp only [Act.put, List.setIfInBounds_toArray, List.set_cons_zero, List.set_cons_succ]) | (apply bl_op; rfl; (intro w1 h1; obtain ⟨hc, hf, hz⟩ := bcell h1; go_simp; (try go_bits); (first | exact ⟨rfl, Ext.refl _⟩)); simp only [Act.put, List.setIfInBounds_toArray, List.set_cons_zero, List.set_cons_succ]) | (refine bl_split rfl rfl (fun hx => ?_) (fun hx => ?_) <;> simp only [hx]))
                refine bl_nil ?_
                intro w5 h5
                go_wp2_with fail
                go_roundw
                case rel => exact ⟨j + 1, acc, by omega, by go_num, Nat.le_succ_of_le Hak.out, Hj2.out, HG.out.ext (by (repeat' (first | exact Ext.refl _ | assumption | apply Ext.alloc | apply Ext.drew | refine Ext.set ?_ (by dsimp only; omega) _ | refine Ext.trans ?_ (by assumption)))), by (repeat' (first | exact Ext.refl _ | assumption | apply Ext.alloc | apply Ext.drew | refine Ext.set ?_ (by dsimp only; omega) _ | refine Ext.trans ?_ (by assumption)))⟩
                case measure => simp [intOf]; omega
            · have : j = k := by omega
              subst this
              have hjj := HJ.out
              rw [Hln.out, List.drop_length, groupFrom, List.append_nil] at hjj
              have hi := Hi.out
              rw [← hjj] at hi
              have Hi2 := Lib.hid hi
              have Hmem := Lib.hid (show ∀ i ∈ acc, ∃ q : Nat, i = q ∧ 0 ≤ q ∧ q < 0 + L.length by rw [hjj]; exact group_lt _ _ _ _)
              obtain ⟨A5, c5, hv, hL5⟩ := HG.out.sl
              have HL5 := Lib.hid hL5
              have hak : acc.length ≤ 16 := by have := Hak.out; omega
              have hB4 := HB.out.ext hb4
              have HB4 := Lib.hid hB4
              have HO4 := Lib.hid (HO.out.ext hb4)
              clear hi hjj Hi HJ HI hL5 HB HO hB4
              by_cases h2l : acc.length < 2
              · have hi := Hi2.out
                rw [if_pos h2l] at hi
                have Hi3 := Lib.hid hi
                subst hv
                clear hi Hi2
                go_wp2_with fail
                go_roundw
                case rel => exact ⟨k' + 1, tk, rows, by omega, by go_num, Htk.out, Nat.le_succ_of_le Hrk.out, Hi3.out, HO4.out, HB4.out, hb3.trans hb4⟩
                case measure => simp [intOf]; omega
              · have hi := Hi2.out
                rw [if_neg h2l] at hi
                have Hi3 := Lib.hid hi
                have h2l' : 2 ≤ acc.length := by omega
                have HGv := Lib.hid (show OwnInts wo.heap.size wr (.slice A5 acc.length c5) acc from hv ▸ HG.out)
                subst hv
                obtain ⟨raw, r1, r2, r3⟩ := HO4.out
                have Hraw := Lib.hid (And.intro r1 (And.intro r2 r3))
                have hrr : rows.length ≤ 64 := by have := Hrk.out; omega
                clear hi Hi2 HG h2l r1 r2 r3
                go_wp2_with (at_builtin; go_loud (refine wpList_append_sl rfl (.tmp 89) (.tmp 91) 80 rfl w2.heap.size 38 ir _ 1 24 Try.underlying80 hir hr0 hr1 hr2 rfl (by decide) _ rows.length raw rfl (own_ext_keep Hraw.out.2.1 (by (repeat' (first | exact Ext.refl _ | assumption | apply Ext.alloc | apply Ext.drew | refine Ext.set ?_ (by dsimp only; omega) _ | refine Ext.trans ?_ (by assumption))))) (some ⟨wr.heap.size, 0, none⟩) 1 1 [.slice A5 acc.length c5] rfl rfl (.inr ⟨_, rfl, new_cells (by simp)⟩) (by intro u hu; simp at hu; rcases hu with rfl; rfl) (by unfold maxLen; omega) (by omega) (by simp; omega) ?_))
                intro v7 w7 ho7 hg7 hn7
                have HO7 : Hid (OwnRows w2.heap.size w7 v7 (rows ++ [acc])) := by
                  obtain ⟨r1, r2, r3⟩ := Hraw.out
                  refine OwnRows.snoc rfl r1 (own_ext_keep r2 (Ext.alloc0 _ _)) (fun k hk => ?_) (own_mono (HGv.out.ext (Ext.alloc0 _ _)) (by omega)) hg7 ho7
                  obtain ⟨u, q1, q2⟩ := r3 k hk
                  exact ⟨u, q1, q2.ext (Ext.alloc0 _ _)⟩
                have HB7 : Hid (Blk w7 w2.heap.size 4 (boolC tk)) := Lib.hid ((HB4.out.alloc _).grown hg7 (own_blk Hraw.out.2.1 HB4.out (by decide)))
                have HG7 : Hid (OwnInts wo.heap.size w7 (.slice A5 acc.length c5) acc) := Lib.hid (World.ownsRow.kept (HGv.out.ext (Ext.alloc0 _ _)) hg7 (own_ne HGv.out Hraw.out.2.1 (by decide)))
                have e7 : Ext w2 w7 := grown_ext (Ext.trans (hb3.trans hb4) (Ext.alloc0 _ _)) hg7 (fun b hb => (Hraw.out.2.1.lt b hb).1)
                obtain ⟨hc7, hf7, hz7⟩ := bcell e7
                have hT7 : w2.heap.size < w7.heap.size := HB7.out.lt
                clear ho7 hg7 hn7
                go_wp2_with fail
                go_loopw [17] (fun i wr => ∃ j : Nat, j ≤ acc.length ∧ i = .int .i64 j ∧ Hid (Blk wr w2.heap.size 4 (boolC (marks tk (acc.take j)))) ∧ Hid (Wr w7 w2.heap.size wr)) (fun i _ => acc.length - (intOf i).toNat)
                case atStart => exact ⟨0, Nat.zero_le _, rfl, HB7.out, Wr.refl _ _⟩
                case round =>
                  obtain ⟨i, hi, rfl, HM, HW⟩ := hrel
                  have hWc := HW.out.cells
                  obtain ⟨hcW, hfW, hzW⟩ := hWc
                  have hTW : w2.heap.size < wr.heap.size := by omega
                  have HGW := Lib.hid (HG7.out.grow HB7.out (by decide) HW.out)
                  by_cases hlt3 : i < acc.length
                  · obtain ⟨bb, oo, y, rfl, HY, hym, hy⟩ := (show Ints wr A5 acc.length acc from by
                      obtain ⟨A6, c6, e6, h6⟩ := HGW.out.sl
                      injection e6 with e6a e6b e6c
                      rw [e6a]; exact h6).one hlt3
                    simp only [Nat.mul_one] at hy
                    have hy : wr.cell? ⟨bb, oo + i, none⟩ = some (.int .i64 y) := hy
                    obtain ⟨z, rfl, _, hz⟩ := Hmem.out y hym
                    have hz' : z < j := by have := Hln.out; omega
                    have hbb : bb < wr.heap.size := World.block_lt_of_cell? wr _ hy
                    have hTc := HM.out.cell
                    have hTf := HM.out.frozen
                    have hts := HM.out.cell z
                    have hzl : z < (marks tk (acc.take i)).length := by rw [marks_len, Htk.out]; exact hz'
                    rw [boolC_get _ _ hzl] at hts
                    have Hset := Lib.hid (show Blk (wr.setCell ⟨w2.heap.size, z, none⟩ (.bool true)) w2.heap.size 4 (boolC (marks tk (acc.take (i + 1)))) by
                      have := HM.out.set_ z (.bool true)
                      rw [boolC_set] at this
                      rw [take_snoc HY.out, marks_snoc]
                      exact this)
                    clear hTc hcW hfW
                    go_wp2_with fail
                    go_roundw
                    case rel => exact ⟨i + 1, by omega, by go_num, Hset.out, HW.out.set rfl _⟩
                    case measure => simp [intOf]; omega
                  · have : i = acc.length := by omega
                    subst this
                    have hM := HM.out
                    rw [List.take_length] at hM
                    have HM2 := Lib.hid hM
                    have HO8 := Lib.hid (HO7.out.grow HB7.out (by decide) (by decide) HW.out)
                    have eW2 : Ext w2 wr := HW.out.ext e7 (Nat.le_refl _)
                    clear hM HM hcW hfW
                    go_wp2_with fail
                    go_roundw
                    case rel => exact ⟨k' + 1, marks tk acc, rows ++ [acc], by omega, by go_num, (marks_len _ _).trans Htk.out, by (show (rows ++ [acc]).length ≤ k' + 1); have := Hrk.out; simp; omega, Hi3.out, HO8.out, HM2.out, eW2⟩
                    case measure => simp [intOf]; omega
        · have : k' = m := by omega
          subst this
          have hi := HI.out
          rw [Hml.out, List.drop_length, groupsFrom] at hi
          have E1 := Lib.hid (congrArg Prod.fst hi)
          have E2 := Lib.hid (congrArg Prod.snd hi)
          dsimp only at E1 E2
          have hrr : rows.length ≤ 64 := by have := Hrk.out; omega
          clear hi HI
          obtain ⟨wo, rfl⟩ : ∃ wo : World, wo = wr := ⟨_, rfl⟩
          go_wp2_with fail
          go_loopw [13, 18] (fun v i wr => ∃ (j : Nat) (rr : List (List Int)), j ≤ k ∧ i = .int .i64 j ∧ Hid (rr.length ≤ 64 + j) ∧ Hid (rr ++ singlesFrom (tk.drop j) j = rows ++ singlesFrom tk 0) ∧ Hid (OwnRows w2.heap.size wr v rr) ∧ Hid (Blk wr w2.heap.size 4 (boolC tk)) ∧ Ext w2 wr) (fun _ i _ => k - (intOf i).toNat)
          case atStart => exact ⟨0, rows, Nat.zero_le _, rfl, hrr, rfl, HO.out, HB.out, hb3⟩
          case round =>
            obtain ⟨j, rr, hj, rfl, Hrl, HJ, HQ, HV, hb4⟩ := hrel
            obtain ⟨hcb4, hfb4, hzb4⟩ := bcell hb4
            have hT4 : w2.heap.size < wr.heap.size := HV.out.lt
            by_cases hlt2 : j < k
            · have htl : j < tk.length := by rw [Htk.out]; exact hlt2
              have hTc : wr.cell? ⟨w2.heap.size, j, none⟩ = some (.bool (tk.getD j false)) := by rw [HV.out.cell j, boolC_get _ _ htl]
              have hjj := HJ.out
              rw [List.drop_eq_getElem_cons htl, singlesFrom] at hjj
              have hgd : tk.getD j false = tk[j] := by simp [List.getD_eq_getElem?_getD, htl]
              rw [← hgd] at hjj
              generalize tk.getD j false = b at hTc hjj
              have Hj := Lib.hid hjj
              clear hjj hgd
              cases b
              · obtain ⟨raw, r1, r2, r3⟩ := HQ.out
                have Hraw := Lib.hid (And.intro r1 (And.intro r2 r3))
                have hrl : rr.length ≤ 80 := by have := Hrl.out; omega
                clear r1 r2 r3
                go_wp2_with (at_builtin; go_loud (refine wpList_append_sl rfl (.tmp 116) (.tmp 119) 80 rfl w2.heap.size 38 ir _ 1 24 Try.underlying80 hir hr0 hr1 hr2 rfl (by decide) _ rr.length raw rfl (own_ext_keep Hraw.out.2.1 (by (repeat' (first | exact Ext.refl _ | assumption | apply Ext.alloc | apply Ext.drew | refine Ext.set ?_ (by dsimp only; omega) _ | refine Ext.trans ?_ (by assumption))))) (some ⟨wr.heap.size + 1, 0, none⟩) 1 1 [.slice (some ⟨wr.heap.size, 0, none⟩) 1 1] rfl rfl (.inr ⟨_, rfl, new_cells (by simp)⟩) (by intro u hu; simp at hu; rcases hu with rfl; rfl) (by unfold maxLen; omega) (by omega) (by simp; omega) ?_))
                intro v7 w7 ho7 hg7 hn7
                have HO7 : Hid (OwnRows w2.heap.size w7 v7 (rr ++ [[(j : Int)]])) := by
                  obtain ⟨r1, r2, r3⟩ := Hraw.out
                  refine OwnRows.snoc rfl r1 (own_ext_keep r2 ((Ext.alloc0 _ _).alloc _)) (fun k hk => ?_) (OwnInts.ext (l := [(j : Int)]) (own_one rfl (by omega)) (Ext.alloc0 _ _)) hg7 ho7
                  obtain ⟨u, q1, q2⟩ := r3 k hk
                  exact ⟨u, q1, q2.ext ((Ext.alloc0 _ _).alloc _)⟩
                have HB7 : Hid (Blk w7 w2.heap.size 4 (boolC tk)) := Lib.hid (((HV.out.alloc _).alloc _).grown hg7 (own_blk Hraw.out.2.1 HV.out (by decide)))
                have e7 : Ext w2 w7 := grown_ext (by (repeat' (first | exact Ext.refl _ | assumption | apply Ext.alloc | apply Ext.drew | refine Ext.set ?_ (by dsimp only; omega) _ | refine Ext.trans ?_ (by assumption)))) hg7 (fun b hb => (Hraw.out.2.1.lt b hb).1)
                clear ho7 hg7 hn7
                go_wp2_with fail
                go_roundw
                case rel => exact ⟨j + 1, rr ++ [[(j : Int)]], by omega, by go_num, by (show (rr ++ [[(j : Int)]]).length ≤ 64 + (j + 1)); have := Hrl.out; simp; omega, by have hi := Hj.out; simpa [Hid] using hi, HO7.out, HB7.out, e7⟩
                case measure => simp [intOf]; omega
              · go_wp2_with fail
                go_roundw
                case rel => exact ⟨j + 1, rr, by omega, by go_num, Nat.le_succ_of_le Hrl.out, by have hi := Hj.out; simpa [Hid] using hi, HQ.out, HV.out, hb4⟩
                case measure => simp [intOf]; omega
            · have : j = k := by omega
              subst this
              have hjj := HJ.out
              rw [List.drop_of_length_le (by rw [Htk.out]; exact Nat.le_refl _), singlesFrom, List.append_nil, E1.out, E2.out] at hjj
              obtain ⟨A9, c9, hv, hL9⟩ := HQ.out.sl
              rw [hjj] at hv hL9
              have HL9 := Lib.hid hL9
              subst hv
              clear hjj hL9 HJ HQ
              go_wp2_with fail
              go_ret2
              exact ⟨A9, c9, rfl, HL9.out, by (repeat' (first | exact Ext.refl _ | assumption | apply Ext.alloc | apply Ext.drew | refine Ext.set ?_ (by dsimp only; omega) _ | refine Ext.trans ?_ (by assumption)))⟩
end Go.Proofs.Ytmgjjgmadiabfaa
