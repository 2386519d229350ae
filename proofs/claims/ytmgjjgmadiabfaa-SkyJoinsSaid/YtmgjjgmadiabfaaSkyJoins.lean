/- Links do not depend on the order (not finished: see NOTES). No condition. -/
import Derived.Test.YtmgjjgmadiabfaaManyLaw
import Derived.Test.YtmgjjgmadiabfaaJoinLaw
import Derived.Test.YtmgjjgmadiabfaaAwake
import Derived.Test.YtmgjjgmadiabfaaGenA
namespace Go.Proofs.Ytmgjjgmadiabfaa
open Go.RowKit

theorem missM_ok {s : Sky} {l : List Sight} {g : St} (h : trkErr s l = 0) (hg : gOK g = true) : missM s l g 0 = missFrom s g 0 l 0 := by
  rw [missM, if_neg]
  have : within 0 0 1073741824 = true := (within_iff _ _ _).2 (by omega)
  simp [h, hg, this]
theorem miss_good (A1 : Option Addr) (n1 c1 : Nat) (home : Int) (A2 : Option Addr) (n2 c2 : Nat) (A3 : Option Addr) (n3 c3 : Nat) (s : Sky) (A : Option Addr) (n c : Nat) (l : List Sight) (g : St) (w : World) (hs : IsSky w A1 n1 home A2 n2 A3 n3 s) (h : Sights w A n l ∧ trkErr s l = 0) (hg : GoodG g) :
    Calls Try.prog 38 #[.agg #[.slice A1 n1 c1, .int .i64 home, .slice A2 n2 c2, .slice A3 n3 c3], .slice A n c, .agg #[.int .i64 g.x, .int .i64 g.y, .int .i64 g.u, .int .i64 g.v], .int .i64 0] w fun e w' => e = .returned (.int .i64 (missFrom s g 0 l 0)) ∧ Ext w w' := by
  have := Miss_c A1 n1 c1 home A2 n2 c2 A3 n3 c3 s g.x g.y g.u g.v 0 A n c l w hs h.1
  rw [missM_ok h.2 hg.ok] at this
  exact this

theorem st_news (w : World) (x : St) (b o : Nat) (h : stAt w x b o) : ∀ i u, (stC x)[i]? = some u → w.cell? ⟨b, o + i, none⟩ = some u := by
  obtain ⟨h0, h1, h2, h3⟩ := h
  intro i u hu
  match i with
  | 0 => rw [← hu]; exact h0
  | 1 => rw [← hu]; exact h1
  | 2 => rw [← hu]; exact h2
  | 3 => rw [← hu]; exact h3
  | i + 4 => simp [stC] at hu
theorem st_one : ∀ x : St, ∀ u ∈ stC x, u.oneCell' = true := by intro x u hu; simp [stC] at hu; rcases hu with rfl | rfl | rfl | rfl <;> rfl
theorem blk_ne {w : World} {b b' : Nat} {t : TypeId} {cs cs' : Array Value} (h : Blk w b t cs) (h' : Blk w b' t cs') (hs : cs.size ≠ cs'.size) : b ≠ b' := by
  rintro rfl
  have := h.symm.trans h'
  simp only [Option.some.injEq, Obj.cells.injEq] at this
  exact hs (by rw [this.1])

set_option maxRecDepth 4000 in
set_option maxHeartbeats 4000000 in
theorem SkyJoins_c (A : Option Addr) (n c : Nat) (l : List Int) (ai ak : Int) (w : World) (hl : Ints w A n l) :
    Calls Try.prog 15 #[.slice A n c, .int .i64 ai, .int .i64 ak] w fun e w' => e = .returned (.bool true) ∧ Ext w w' := by
  go_enter Try.func15, Try.ntmps15
  go_wp2_with fail
  refine (manyOf_c A n c l _ hl).mono ?_
  rintro e w1 ⟨A1, n1, c1, home, A2, n2, c2, A3, n3, c3, s, AL, nl, cl, L, AG, ng, cg, G, rfl, hs, hm, hL, hG, ⟨hL1, hL2⟩, hLg, ⟨hG1, hG2⟩, hGg, h1⟩
  have hnl : L.length = nl := hL.len.symm
  have hng : G.length = ng := hG.len.symm
  go_wp2_with fail
  obtain ⟨W1, hW1⟩ : ∃ W, W = w1.alloc (.cells #[.slice A1 n1 c1, .int .i64 home, .slice A2 n2 c2, .slice A3 n3 c3] 28) := ⟨_, rfl⟩
  rw [← hW1]
  have e1 : Ext w1 W1 := by rw [hW1]; exact Ext.alloc0 _ _
  have hA : Blk W1 w1.heap.size 28 #[.slice A1 n1 c1, .int .i64 home, .slice A2 n2 c2, .slice A3 n3 c3] := by rw [hW1]; exact Blk.newAt rfl
  clear hW1
  have hs1 := hs.ext e1
  have hE1 := h1.trans e1
  obtain ⟨ki, hki⟩ : ∃ k : Nat, ai % nl = (k : Int) := ⟨(ai % nl).toNat, (Int.toNat_of_nonneg (Int.emod_nonneg _ (by omega))).symm⟩
  obtain ⟨kk, hkk⟩ : ∃ k : Nat, ak % nl = (k : Int) := ⟨(ak % nl).toNat, (Int.toNat_of_nonneg (Int.emod_nonneg _ (by omega))).symm⟩
  have hki1 : ki < nl := by have := Int.emod_lt_of_pos ai (show (0 : Int) < nl by omega); omega
  have hkk1 : kk < nl := by have := Int.emod_lt_of_pos ak (show (0 : Int) < nl by omega); omega
  obtain ⟨q, off, rfl, hcell⟩ := hL.at_ (by omega)
  obtain ⟨Ba, na, ca, hca, hsa⟩ := hcell ki (by omega)
  obtain ⟨Bb, nb, cb, hcb, hsb⟩ := hcell kk (by omega)
  rw [Nat.mul_one] at hca hcb
  have hca1 := e1.cell hca
  have hcb1 := e1.cell hcb
  have hql : q < W1.heap.size := World.block_lt_of_cell? W1 _ hca1
  have hsa1 := Sights.ext e1 hsa
  have hsb1 := Sights.ext e1 hsb
  have hcA := hA.cell
  have hlA := hA.lt
  refine wp_region_text (by kernel_rfl) (by kernel_rfl) ?_
  repeat' (first | (refine bl_off (by rfl) ?_; simp only [Act.put, List.setIfInBounds_toArray, List.set_cons_zero, List.set_cons_succ]) | (apply bl_op; rfl; (intro w1 h1; obtain ⟨hc, hf, hz⟩ := bcell h1; go_simp; (try go_bits); (first | exact ⟨rfl, Ext.refl _⟩ | (apply gives_call; go_at_call 47; exact (Mod_c _ _ _ (by omega) (by omega)).mono fun _ _ ⟨h, hw⟩ => ⟨h, hw ▸ Ext.refl _⟩) | (go_invoke; go_simp; apply gives_call; go_at_call 47; exact (Mod_c _ _ _ (by omega) (by omega)).mono fun _ _ ⟨h, hw⟩ => ⟨h, hw ▸ Ext.refl _⟩))); simp only [Act.put, List.setIfInBounds_toArray, List.set_cons_zero, List.set_cons_succ]) | (refine bl_split rfl rfl (fun hx => ?_) (fun hx => ?_) <;> simp only [hx]))
  refine bl_nil ?_
  intro W2 h2
  have hta := hLg L[ki] (List.getElem_mem _)
  have htb := hLg L[kk] (List.getElem_mem _)
  have hs2 := hs1.ext h2
  have hsa2 := Sights.ext h2 hsa1
  have hsb2 := Sights.ext h2 hsb1
  have hG2 := Sts.ext (e1.trans h2) hG
  have hA2 := hA.ext h2
  have hE2 := hE1.trans h2
  generalize L[ki] = a at *
  generalize L[kk] = b at *
  have eab : linkErr s a b G 0 = 0 := by rw [linkErr, hta.ok hm, if_neg (by simp), htb.ok hm, if_neg (by simp), asks_ok (by omega) hGg]
  have eba : linkErr s b a G 0 = 0 := by rw [linkErr, htb.ok hm, if_neg (by simp), hta.ok hm, if_neg (by simp), asks_ok (by omega) hGg]
  obtain ⟨nn, X, Y, hX, hY, hXY, hres⟩ := join_law s a b G
  have Hres := Lib.hid hres
  clear hres
  have HLab := Lib.hid fun W (hW : Ext W2 W) => Link_c A1 n1 c1 home A2 n2 c2 A3 n3 c3 s Ba na ca a Bb nb cb b AG ng cg G 0 W (hs2.ext hW) (Sights.ext hW hsa2) (Sights.ext hW hsb2) (Sts.ext hW hG2)
  have HLba := Lib.hid fun W (hW : Ext W2 W) => Link_c A1 n1 c1 home A2 n2 c2 A3 n3 c3 s Bb nb cb b Ba na ca a AG ng cg G 0 W (hs2.ext hW) (Sights.ext hW hsb2) (Sights.ext hW hsa2) (Sts.ext hW hG2)
  rw [eab, linkR_yes eab, hX] at HLab
  rw [eba, linkR_yes eba, hY] at HLba
  clear hX hY
  have hcA2 := hA2.cell
  have hlA2 := hA2.lt
  clear hcA hlA hA hs1 hsa1 hsb1 hE1 h2 hs hL hG hsa hsb hca hcb hca1 hcb1 hql hcell e1 h1 hl
  go_wp2_with fail
  refine (HLab.out _ (by (repeat' (first | exact Ext.refl _ | assumption | apply Ext.alloc | apply Ext.drew | refine Ext.set ?_ (by dsimp only; omega) _ | refine Ext.trans ?_ (by assumption))))).mono ?_
  rintro e W3 ⟨B3, d3, rfl, hi3, h3⟩
  have hA3 := hA2.ext h3
  have hcA3 := hA3.cell
  have hlA3 := hA3.lt
  go_wp2_with fail
  refine (HLba.out _ (by (repeat' (first | exact Ext.refl _ | assumption | apply Ext.alloc | apply Ext.drew | refine Ext.set ?_ (by dsimp only; omega) _ | refine Ext.trans ?_ (by assumption))))).mono ?_
  rintro e W4 ⟨B4, d4, rfl, hi4, h4⟩
  have hA4 := hA3.ext h4
  have hcA4 := hA4.cell
  have hlA4 := hA4.lt
  have hE4 : Ext w W4 := (hE2.trans h3).trans h4
  clear hcA2 hlA2 hcA3 hlA3 HLab HLba
  try dsimp only at hi3 hi4
  go_wp2_with fail
  clear hA3 hcA4 hlA4 hi4
  have HX := Lib.hid (Ints.ext h4 hi3)
  have h24 := h3.trans h4
  have HA4 := Lib.hid hA4
  have HS4 := Lib.hid (hs2.ext h24)
  have HG4 := Lib.hid (Sts.ext h24 hG2)
  have HAB := Lib.hid (And.intro (And.intro (Sights.ext h24 hsa2) (hta.ok hm)) (And.intro (Sights.ext h24 hsb2) (htb.ok hm)))
  have HGg := Lib.hid hGg
  have Heab := Lib.hid eab
  have hna : a.length = na := hsa2.len.symm
  have hnb : b.length = nb := hsb2.len.symm
  have hXY2 : Y.length = X.length := hXY.symm
  rw [hXY2]
  obtain ⟨nX, hnX⟩ : ∃ k, k = X.length := ⟨_, rfl⟩
  have hnX' := HX.out.le
  rw [← hnX] at HX ⊢ hnX'
  have HnX := Lib.hid hnX
  have hna4 := hta.2.2
  have hnb4 := htb.2.2
  clear hnX h3 h4 hs2 hG2 hA2 hsa2 hsb2 eab eba hXY hXY2 hi3 h24 hA4 hta htb hLg hGg hE2 hm
  go_wp2_with fail
  go_loopw [18] (fun i wr => ∃ j : Nat, j ≤ ng ∧ i = .int .i64 j ∧ Ext W4 wr) (fun i _ => ng - (intOf i).toNat)
  case atStart => exact ⟨0, Nat.zero_le _, rfl, Ext.refl _⟩
  case round =>
    obtain ⟨j, hj, rfl, hb⟩ := hrel
    have HAw := HA4.out.ext hb
    have hcA := HAw.cell
    have hlA := HAw.lt
    by_cases hlt : j < ng
    · obtain ⟨qg, og, g, rfl, HD, hgm, hgc⟩ := (Sts.ext hb HG4.out).one hlt
      obtain ⟨hg0, hg1, hg2, hg3⟩ := hgc
      have hq := World.block_lt_of_cell? wr _ hg0
      dsimp only at hq
      have Hgj : Hid (G[j]? = some g) := Lib.hid (by rw [← List.head?_drop, HD.out]; rfl)
      have HM := Lib.hid (miss_append s g 0 a b)
      have hP := miss_ge s g 0 a
      have hQ := miss_ge s g 0 b
      have hQ2 := miss_le s g 0 b
      rw [hna] at HM
      have hMs := Lib.hid (miss_good A1 n1 c1 home A2 n2 c2 A3 n3 c3 s)
      go_wp2_with fail
      refine wp_region_text (by kernel_rfl) (by kernel_rfl) ?_
      repeat' (first | (refine bl_off (by rfl) ?_; simp only [Act.put, List.setIfInBounds_toArray, List.set_cons_zero, List.set_cons_succ]) | (apply bl_op; rfl; (intro w1 h1; obtain ⟨hc, hf, hz⟩ := bcell h1; go_simp; (try go_bits); (first | exact ⟨rfl, Ext.refl _⟩ | (apply gives_call; go_at_call 38; exact hMs.out _ _ _ _ g _ (HS4.out.ext (hb.trans h1)) (by first | exact ⟨Sights.ext (hb.trans h1) HAB.out.1.1, HAB.out.1.2⟩ | exact ⟨Sights.ext (hb.trans h1) HAB.out.2.1, HAB.out.2.2⟩) (HGg.out g hgm)) | (go_invoke; go_simp; apply gives_call; go_at_call 38; exact hMs.out _ _ _ _ g _ (HS4.out.ext (hb.trans h1)) (by first | exact ⟨Sights.ext (hb.trans h1) HAB.out.1.1, HAB.out.1.2⟩ | exact ⟨Sights.ext (hb.trans h1) HAB.out.2.1, HAB.out.2.2⟩) (HGg.out g hgm)))); simp only [Act.put, List.setIfInBounds_toArray, List.set_cons_zero, List.set_cons_succ]) | (refine bl_split rfl rfl (fun hx => ?_) (fun hx => ?_) <;> simp only [hx]))
      refine bl_nil ?_
      intro w5 h5
      have hb5 := hb.trans h5
      obtain ⟨hc5, hf5, hz5⟩ := bcell h5
      obtain ⟨M, hMM⟩ : ∃ M, missFrom s g 0 (a ++ b) 0 = M := ⟨_, rfl⟩
      rw [hMM] at HM
      generalize missFrom s g 0 a 0 = P at *
      generalize missFrom s g 0 b 0 = Q at *
      rcases Hres.out with ⟨hn1, hXe, hno⟩ | ⟨k, hk, hnk, hX0, hY0, hyes, hno⟩
      · have hM0 : 0 ≤ M := hMM ▸ hno g hgm
        have hnXg : ng = nX := by rw [HnX.out, hXe, List.length_map]; exact hng.symm
        obtain ⟨bx, ox, y, rfl, HDx, hym, hy⟩ := (Ints.ext hb5 HX.out).one (k := j) (by omega)
        simp only [Nat.mul_one] at hy
        have hbx : bx < w5.heap.size := World.block_lt_of_cell? w5 _ hy
        have hyM : y = M := by
          have h7 : X[j]? = some y := by rw [← List.head?_drop, HDx.out]; rfl
          rw [hXe, List.getElem?_map, Hgj.out] at h7
          injection h7 with h7
          rw [← h7]; exact hMM
        have hM2 := HM.out
        have hlt2 : j < nX := by omega
        have hy : w5.cell? ⟨bx, ox + j, none⟩ = some (.int .i64 y) := hy
        clear hXe hno HDx hMM hg0 hg1 hg2 hg3 HM HX
        subst hn1
        by_cases hP0 : P < 0
        · rw [if_pos hP0] at hM2
          have hQ0 : 0 ≤ Q := by
            rcases Int.lt_or_le Q 0 with h | h
            · rw [if_pos h] at hM2; omega
            · exact h
          rw [if_neg (by omega)] at hM2
          rw [hyM, hM2] at hy
          clear hyM hM2 hM0
          subst hnXg
          go_wp2_with fail
          go_roundw
          case rel => exact ⟨j + 1, by omega, by go_num, hb5⟩
          case measure => simp [intOf]; omega
        · have hP1 : 0 ≤ P := by omega
          rw [if_neg hP0] at hM2
          rw [hyM, hM2] at hy
          clear hyM hM2 hM0 hP0
          subst hnXg
          go_wp2_with fail
          go_roundw
          case rel => exact ⟨j + 1, by omega, by go_num, hb5⟩
          case measure => simp [intOf]; omega
      · clear HX hg0 hg1 hg2 hg3
        subst hnk
        have hM2 := HM.out
        rcases Nat.lt_trichotomy j k with hjk | hjk | hjk
        · have hM0 : 0 ≤ M := by
            have h7 := hno j (by omega) hjk
            have h8 : G[j] = g := by
              have := Hgj.out
              rw [List.getElem?_eq_getElem (by omega)] at this
              injection this
            rw [h8, hMM] at h7
            exact h7
          clear hno hyes HM hMM Hgj
          by_cases hP0 : P < 0
          · rw [if_pos hP0] at hM2
            have hQ0 : 0 ≤ Q := by
              rcases Int.lt_or_le Q 0 with h | h
              · rw [if_pos h] at hM2; omega
              · exact h
            clear hM2
            go_wp2_with fail
            go_roundw
            case rel => exact ⟨j + 1, by omega, by go_num, hb5⟩
            case measure => simp [intOf]; omega
          · have hP1 : 0 ≤ P := by omega
            clear hM2 hP0
            go_wp2_with fail
            go_roundw
            case rel => exact ⟨j + 1, by omega, by go_num, hb5⟩
            case measure => simp [intOf]; omega
        · subst hjk
          have h8 : G[j] = g := by
            have := Hgj.out
            rw [List.getElem?_eq_getElem (by omega)] at this
            injection this
          rw [h8, hMM] at hyes
          have hPQ : P = -1 ∧ Q = -1 := by
            by_cases hP0 : P < 0
            · rw [if_pos hP0] at hM2
              by_cases hQ0 : Q < 0
              · omega
              · rw [if_neg hQ0] at hM2; omega
            · rw [if_neg hP0] at hM2; omega
          obtain ⟨rfl, rfl⟩ := hPQ
          clear hno hyes hM2 HM hMM Hgj h8
          go_wp2_with fail
          go_roundw
          case rel => exact ⟨j + 1, by omega, by go_num, hb5⟩
          case measure => simp [intOf]; omega
        · clear hno hyes hM2 HM hMM Hgj
          go_wp2_with fail
          go_roundw
          case rel => exact ⟨j + 1, by omega, by go_num, hb5⟩
          case measure => simp [intOf]; omega
    · have hjn : j = ng := by omega
      rcases Hres.out with ⟨hn1, hXe, hno⟩ | ⟨k, hk, hnk, hX0, hY0, hyes, hno⟩
      · subst hn1
        subst hjn
        go_wp2_with fail
        refine (awake_c _).mono ?_
        rintro e w6 ⟨rfl, h6⟩
        go_wp2_with fail
        go_ret
        exact ⟨rfl, by (repeat' (first | exact Ext.refl _ | assumption | apply Ext.alloc | apply Ext.drew | refine Ext.set ?_ (by dsimp only; omega) _ | refine Ext.trans ?_ (by assumption)))⟩
      · subst hnk
        subst hjn
        clear HX
        have hX00 : nX = 0 := by rw [HnX.out, hX0]; rfl
        subst hX00
        obtain ⟨qg, og, rfl, hgc⟩ := (Sts.ext hb HG4.out).at_ (by omega)
        have hg00 := hgc 0 (by omega)
        rw [Nat.zero_mul, Nat.add_zero] at hg00
        obtain ⟨hg0, hg1, hg2, hg3⟩ := hg00
        have hq := World.block_lt_of_cell? wr _ hg0
        dsimp only at hq
        go_wp2_with fail
        obtain ⟨igs, higs, hg00, hg01, hg02⟩ := info_parts info_state
        have hj0 : 0 < j := by omega
        have HLk := Lib.hid fun AQ cQ W (hW : Ext wr W) (hQ : Sts W AQ (j + 1) (G ++ [G[0]])) => Link_c A1 n1 c1 home A2 n2 c2 A3 n3 c3 s Ba na ca a Bb nb cb b AQ (j + 1) cQ (G ++ [G[0]]) 0 W (HS4.out.ext (hb.trans hW)) (Sights.ext (hb.trans hW) HAB.out.1.1) (Sights.ext (hb.trans hW) HAB.out.2.1) hQ
        have hle : linkErr s a b (G ++ [G[0]]) 0 = 0 := by
          rw [linkErr, HAB.out.1.2, if_neg (by simp), HAB.out.2.2, if_neg (by simp)]
          refine asks_ok (by simp; omega) fun x hx => ?_
          rcases List.mem_append.1 hx with hx | hx
          · exact HGg.out x hx
          · simp at hx
            subst hx
            exact HGg.out _ (List.getElem_mem _)
        rw [hle, linkR_yes hle, link_more (fun g => missFrom s g 0 (a ++ b) 0) G [G[0]] k hk hyes (fun i hi hl => by have := hno i hi hl; omega)] at HLk
        have Hgn := Lib.hid (show G.length = j from hng)
        have HGs := Lib.hid (Sts.ext hb HG4.out)
        have hjm : j ≤ 6 := by omega
        generalize hg0e : G[0] = g0 at *
        clear hyes hno hle Hres HGg Heab HG4 hgc hg0e hng hG1 hG2
        refine wp_region_rel [0, 1, 2, 4, 6, 7, 8] [⟨3, [], none⟩, ⟨5, [3], some ([3], [9])⟩, ⟨9, [], none⟩, ⟨10, [5, 9], some ([3, 5, 9], [])⟩, ⟨11, [10], none⟩, ⟨12, [11], none⟩, ⟨13, [12], none⟩, ⟨14, [12], none⟩, ⟨15, [12], none⟩, ⟨16, [13], none⟩, ⟨17, [14], none⟩, ⟨18, [15], none⟩]
          [(⟨3, [], none⟩, fun _ v w => ∃ b, v = .slice (some ⟨b, 0, none⟩) 0 0 ∧ Blk w b 53 #[] ∧ wr.heap.size ≤ b),
           (⟨5, [3], some ([3], [9])⟩, fun _ v w => w.ownsRow wr.heap.size 53 4 v j (G.flatMap stC)),
           (⟨9, [], none⟩, fun _ v w => ∃ b, v = .slice (some ⟨b, 0, none⟩) 1 1 ∧ Blk w b 53 #[.int .i64 g0.x, .int .i64 g0.y, .int .i64 g0.u, .int .i64 g0.v] ∧ wr.heap.size ≤ b),
           (⟨10, [5, 9], some ([3, 5, 9], [])⟩, fun _ v w => ∃ A c, v = .slice A (j + 1) c ∧ Sts w A (j + 1) (G ++ [g0])),
           (⟨11, [10], none⟩, fun _ v _ => ∃ A c, v = .tuple #[.int .i64 k, .slice A 0 c, .int .i64 0]),
           (⟨12, [11], none⟩, fun _ v _ => ∃ A c, v = .tuple #[.int .i64 k, .slice A 0 c, .int .i64 0]),
           (⟨13, [12], none⟩, fun _ v _ => v = .int .i64 k),
           (⟨14, [12], none⟩, fun _ v _ => ∃ A c, v = .slice A 0 c),
           (⟨15, [12], none⟩, fun _ v _ => v = .int .i64 0),
           (⟨16, [13], none⟩, fun _ v _ => v = .int .i64 k),
           (⟨17, [14], none⟩, fun _ v _ => ∃ A c, v = .slice A 0 c),
           (⟨18, [15], none⟩, fun _ v _ => v = .int .i64 0)] (Ext wr) (Ext wr) (Stable.ext _) (fun _ h => h) (Ext.drew (Ext.refl _)) (by kernel_rfl) rfl (by kernel_rfl) ?_
        simp only [pick, List.drop_succ_cons, List.drop_zero]
        repeat' (first | (refine bl_off (by rfl) ?_; simp only [Act.put, List.setIfInBounds_toArray, List.set_cons_zero, List.set_cons_succ]) | (apply bl_op; rfl; (intro w1 h1; obtain ⟨hc, hf, hz⟩ := bcell h1; go_simp; (try go_bits); (first | exact ⟨rfl, Ext.refl _⟩)); simp only [Act.put, List.setIfInBounds_toArray, List.set_cons_zero, List.set_cons_succ]) | (refine bl_split rfl rfl (fun hx => ?_) (fun hx => ?_) <;> simp only [hx]))
        refine bl_nil ?_
        simp only [obF, finF, useF, useEq, spoilF, keepF, getG, Nat.reduceEqDiff, reduceIte, putP, pick1, List.drop_succ_cons, List.drop_zero, List.map_cons, List.map_nil, spoils, List.all_cons, List.all_nil, List.contains_cons, List.contains_nil, Nat.reduceBEq, Bool.or_false, Bool.or_true, Bool.not_true, Bool.not_false, Bool.and_true, Bool.and_false]
        refine ⟨⟨?_, ?_, ?_, ?_, ?_, ?_, ?_, ?_, ?_, ?_, ?_, ?_, trivial⟩, ?_⟩
        · exact ⟨fun val v w w' ⟨b, h1, h2, h3⟩ e => ⟨b, h1, h2.ext e, h3⟩, fun _ _ _ _ _ h => h, fun val w hw _ => runs_to (w1 := w.alloc (.cells #[] 53)) (by go_simp) ⟨⟨_, rfl, Blk.new _ _ _, hw.size⟩, Ext.alloc0 _ _⟩⟩
        · refine ⟨fun val v w w' h e => own_ext_keep h e, fun _ _ _ _ _ h => h, fun val w hw hu => ?_⟩
          obtain ⟨⟨b, h1, h2, h3⟩, _⟩ := hu
          rw [h1]
          simp only [Act.put, List.setIfInBounds_toArray, List.set_cons_zero, List.set_cons_succ]
          refine runs_append (.tmp 168) (.tmp 169) 69 rfl wr.heap.size 53 igs _ 4 32 Try.underlying69 higs hg00 hg01 hg02 rfl (by decide) _ 0 [] rfl (own_empty h2 h3) _ j cg (G.flatMap stC) rfl (by rw [flat_len st_len, Hgn.out]) (sl_news st_len (st_news _) (Sts.ext hw HGs.out)) (flat_one st_one _) (by unfold maxLen; omega) (by omega) hw.size ?_
          intro v' w' ho hg _
          exact ⟨by simpa using ho, own_ext (sz := 4) hw (own_empty h2 h3) hg (Nat.le_refl _), fun val u ⟨b9, k1, k2, k3⟩ => ⟨b9, k1, k2.grown hg (fun e => blk_ne h2 k2 (by simp) (Option.some.inj e)), k3⟩, trivial⟩
        · exact ⟨fun val v w w' ⟨b, h1, h2, h3⟩ e => ⟨b, h1, h2.ext e, h3⟩, fun _ _ _ _ _ h => h, fun val w hw _ => runs_to (w1 := w.alloc (.cells #[.int .i64 g0.x, .int .i64 g0.y, .int .i64 g0.u, .int .i64 g0.v] 53)) (by go_simp) ⟨⟨_, rfl, Blk.new _ _ _, hw.size⟩, Ext.alloc0 _ _⟩⟩
        · refine ⟨fun val v w w' ⟨A, c, h1, h2⟩ e => ⟨A, c, h1, Sts.ext e h2⟩, fun _ _ _ _ _ h => h, fun val w hw hu => ?_⟩
          obtain ⟨h5, ⟨b, h1, h2, h3⟩, _⟩ := hu
          rw [h1]
          simp only [Act.put, List.setIfInBounds_toArray, List.set_cons_zero, List.set_cons_succ]
          refine runs_append (.tmp 170) (.tmp 174) 69 rfl wr.heap.size 53 igs _ 4 32 Try.underlying69 higs hg00 hg01 hg02 rfl (by decide) (val 5) j (G.flatMap stC) rfl h5 _ 1 1 [.int .i64 g0.x, .int .i64 g0.y, .int .i64 g0.u, .int .i64 g0.v] rfl rfl (.inr ⟨_, rfl, fun q u hq => by rw [add_none, h2.cell, ← hq]; simp⟩) (by intro u hu; simp at hu; rcases hu with rfl | rfl | rfl | rfl <;> rfl) (by unfold maxLen; omega) (by omega) hw.size ?_
          intro v' w' ho hg _
          refine ⟨?_, own_ext hw h5 hg (Nat.le_refl _), trivial⟩
          have := own_sl (base := wr.heap.size) (e := 53) (l := G ++ [g0]) st_len (st_read w') (by rw [List.length_append, Hgn.out, List.flatMap_append]; exact ho)
          rw [List.length_append, Hgn.out] at this
          exact this
        · refine ⟨fun _ _ _ _ h _ => h, fun _ _ _ _ _ h => h, fun val w hw hu => ?_⟩
          obtain ⟨⟨A, c, h1, h2⟩, _⟩ := hu
          rw [h1]
          simp only [Act.put, List.setIfInBounds_toArray, List.set_cons_zero, List.set_cons_succ]
          exact runs_call (by go_simp) ((HLk.out A c w hw h2).mono fun e w' ⟨A', c', he, _, hE⟩ => ⟨_, he, ⟨A', c', rfl⟩, hE⟩)
        · refine ⟨fun _ _ _ _ h _ => h, fun _ _ _ _ _ h => h, fun val w hw hu => ?_⟩
          simp only [Act.put, List.setIfInBounds_toArray, List.set_cons_zero, List.set_cons_succ]
          exact runs_val (by go_simp) ⟨hu.1, Ext.refl _⟩
        · refine ⟨fun _ _ _ _ h _ => h, fun _ _ _ _ _ h => h, fun val w hw hu => ?_⟩
          obtain ⟨⟨A, c, h1⟩, _⟩ := hu
          rw [h1]
          simp only [Act.put, List.setIfInBounds_toArray, List.set_cons_zero, List.set_cons_succ]
          exact runs_val (by go_simp) ⟨rfl, Ext.refl _⟩
        · refine ⟨fun _ _ _ _ h _ => h, fun _ _ _ _ _ h => h, fun val w hw hu => ?_⟩
          obtain ⟨⟨A, c, h1⟩, _⟩ := hu
          rw [h1]
          simp only [Act.put, List.setIfInBounds_toArray, List.set_cons_zero, List.set_cons_succ]
          exact runs_val (by go_simp) ⟨⟨A, c, rfl⟩, Ext.refl _⟩
        · refine ⟨fun _ _ _ _ h _ => h, fun _ _ _ _ _ h => h, fun val w hw hu => ?_⟩
          obtain ⟨⟨A, c, h1⟩, _⟩ := hu
          rw [h1]
          simp only [Act.put, List.setIfInBounds_toArray, List.set_cons_zero, List.set_cons_succ]
          exact runs_val (by go_simp) ⟨rfl, Ext.refl _⟩
        · refine ⟨fun _ _ _ _ h _ => h, fun _ _ _ _ _ h => h, fun val w hw hu => ?_⟩
          simp only [Act.put, List.setIfInBounds_toArray, List.set_cons_zero, List.set_cons_succ]
          exact runs_val (by go_simp) ⟨hu.1, Ext.refl _⟩
        · refine ⟨fun _ _ _ _ h _ => h, fun _ _ _ _ _ h => h, fun val w hw hu => ?_⟩
          simp only [Act.put, List.setIfInBounds_toArray, List.set_cons_zero, List.set_cons_succ]
          exact runs_val (by go_simp) ⟨hu.1, Ext.refl _⟩
        · refine ⟨fun _ _ _ _ h _ => h, fun _ _ _ _ _ h => h, fun val w hw hu => ?_⟩
          simp only [Act.put, List.setIfInBounds_toArray, List.set_cons_zero, List.set_cons_succ]
          exact runs_val (by go_simp) ⟨hu.1, Ext.refl _⟩
        · intro val w6 h6 hfin
          obtain ⟨_, _, _, _, _, _, _, _, _, f16, f17, f18, _⟩ := hfin
          obtain ⟨A7, c7, f17⟩ := f17 trivial
          rw [f16 trivial, f17, f18 trivial]
          simp only [Act.put, List.setIfInBounds_toArray, List.set_cons_zero, List.set_cons_succ]
          clear f16 f17 f18 HLk HGs
          have hE6 : Ext w w6 := hE4.trans (hb.trans h6)
          clear hg0 hg1 hg2 hg3 HAw hcA hlA
          go_wp2_with fail
          refine (awake_c _).mono ?_
          rintro e w7 ⟨rfl, h7⟩
          go_wp2_with fail
          go_ret
          exact ⟨rfl, hE6.trans h7⟩
end Go.Proofs.Ytmgjjgmadiabfaa
