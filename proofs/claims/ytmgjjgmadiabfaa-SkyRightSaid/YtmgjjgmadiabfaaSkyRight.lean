/- The guess that is believed agrees with all sights but those that are named, and no guess agrees with more. No condition. -/
import Derived.Test.YtmgjjgmadiabfaaRightLaw
import Derived.Test.YtmgjjgmadiabfaaAwake
import Derived.Test.YtmgjjgmadiabfaaHasInt
namespace Go.Proofs.Ytmgjjgmadiabfaa
open Go.RowKit

theorem missM_ok {s : Sky} {l : List Sight} {g : St} (h : trkErr s l = 0) (hg : gOK g = true) : missM s l g 0 = missFrom s g 0 l 0 := by
  rw [missM, if_neg]
  have : within 0 0 1073741824 = true := (within_iff _ _ _).2 (by omega)
  simp [h, hg, this]
theorem miss_one (A1 : Option Addr) (n1 c1 : Nat) (home : Int) (A2 : Option Addr) (n2 c2 : Nat) (A3 : Option Addr) (n3 c3 : Nat) (s : Sky) (b o c : Nat) (x : Sight) (g : St) (w : World) (hs : IsSky w A1 n1 home A2 n2 A3 n3 s) (hx : sightAt w x b o) (h : trkErr s [x] = 0) (hg : GoodG g) :
    Calls Try.prog 38 #[.agg #[.slice A1 n1 c1, .int .i64 home, .slice A2 n2 c2, .slice A3 n3 c3], .slice (some ⟨b, o, none⟩) 1 c, .agg #[.int .i64 g.x, .int .i64 g.y, .int .i64 g.u, .int .i64 g.v], .int .i64 0] w fun e w' => e = .returned (.int .i64 (if fitsM s x g 0 then -1 else 0)) ∧ Ext w w' := by
  have h1 : Sights w (some ⟨b, o, none⟩) 1 [x] := ⟨rfl, by decide, .inr ⟨b, o, rfl, fun k hk => by
    have : k = 0 := by simp at hk; omega
    subst this
    rw [Nat.zero_mul, Nat.add_zero]
    exact hx⟩⟩
  have := Miss_c A1 n1 c1 home A2 n2 c2 A3 n3 c3 s g.x g.y g.u g.v 0 _ _ c [x] w hs h1
  rw [missM_ok h hg.ok, one_miss] at this
  exact this
theorem sight_read1 (x : Sight) : ∀ u ∈ sightC x, u.oneCell' = true := by
  intro u hu
  simp [sightC] at hu
  rcases hu with rfl | rfl | rfl | rfl | rfl | rfl | rfl | rfl | rfl <;> rfl

set_option maxRecDepth 4000 in
set_option maxHeartbeats 16000000 in
theorem SkyRight_c (A : Option Addr) (n c : Nat) (l : List Int) (ai ak : Int) (w : World) (hl : Ints w A n l) :
    Calls Try.prog 11 #[.slice A n c, .int .i64 ai, .int .i64 ak] w fun e w' => e = .returned (.bool true) ∧ Ext w w' := by
  obtain ⟨is_, his, hs0, hs1, hs2⟩ := info_parts info_sight
  go_enter Try.func11, Try.ntmps11
  go_wp2_with fail
  refine (manyOf_c A n c l _ hl).mono ?_
  rintro e w1 ⟨A1, n1, c1, home, A2, n2, c2, A3, n3, c3, s, AL, nl, cl, L, AG, ng, cg, G, rfl, hs, hm, hL, hG, ⟨hL1, hL2⟩, hLg, ⟨hG1, hG2⟩, hGg, h1⟩
  have hnl : L.length = nl := hL.len.symm
  have hng : G.length = ng := hG.len.symm
  go_wp2_with fail
  obtain ⟨W1, hW1⟩ : ∃ W, W = w1.alloc (.cells #[.slice A1 n1 c1, .int .i64 home, .slice A2 n2 c2, .slice A3 n3 c3] 28) := ⟨_, rfl⟩
  rw [← hW1]
  have e1 : Ext w1 W1 := by rw [hW1]; exact Ext.alloc0 _ _
  have hA : Blk W1 w1.heap.size 28 #[.slice A1 n1 c1, .int .i64 home, .slice A2 n2 c2, .slice A3 n3 c3] := by rw [hW1]; exact Blk.newAt rfl
  clear hW1
  have hs1' := hs.ext e1
  have hE1 := h1.trans e1
  obtain ⟨ki, hki⟩ : ∃ k : Nat, ai % nl = (k : Int) := ⟨(ai % nl).toNat, (Int.toNat_of_nonneg (Int.emod_nonneg _ (by omega))).symm⟩
  obtain ⟨kk, hkk⟩ : ∃ k : Nat, ak % nl = (k : Int) := ⟨(ak % nl).toNat, (Int.toNat_of_nonneg (Int.emod_nonneg _ (by omega))).symm⟩
  have hki1 : ki < nl := by have := Int.emod_lt_of_pos ai (show (0 : Int) < nl by omega); omega
  have hkk1 : kk < nl := by have := Int.emod_lt_of_pos ak (show (0 : Int) < nl by omega); omega
  obtain ⟨q, off, rfl, hcell⟩ := hL.at_ (by omega)
  obtain ⟨Ba, na, ca, hca, hsa⟩ := hcell ki (by omega)
  obtain ⟨Bb, nb, cb, hcb, hsb⟩ := hcell kk (by omega)
  rw [Nat.mul_one] at hca hcb
  have hca1 := e1.cell hca
  have hcb1 := e1.cell hcb
  have hql : q < W1.heap.size := World.block_lt_of_cell? W1 _ hca1
  have hsa1 := Sights.ext e1 hsa
  have hsb1 := Sights.ext e1 hsb
  have hcA := hA.cell
  have hlA := hA.lt
  refine wp_region_text (by kernel_rfl) (by kernel_rfl) ?_
  repeat' (first | (refine bl_off (by rfl) ?_; simp only [Act.put, List.setIfInBounds_toArray, List.set_cons_zero, List.set_cons_succ]) | (apply bl_op; rfl; (intro w1 h1; obtain ⟨hc, hf, hz⟩ := bcell h1; go_simp; (try go_bits); (first | exact ⟨rfl, Ext.refl _⟩ | (apply gives_call; go_at_call 47; exact (Mod_c _ _ _ (by omega) (by omega)).mono fun _ _ ⟨h, hw⟩ => ⟨h, hw ▸ Ext.refl _⟩) | (go_invoke; go_simp; apply gives_call; go_at_call 47; exact (Mod_c _ _ _ (by omega) (by omega)).mono fun _ _ ⟨h, hw⟩ => ⟨h, hw ▸ Ext.refl _⟩))); simp only [Act.put, List.setIfInBounds_toArray, List.set_cons_zero, List.set_cons_succ]) | (refine bl_split rfl rfl (fun hx => ?_) (fun hx => ?_) <;> simp only [hx]))
  refine bl_nil ?_
  intro W2 h2
  have hta := hLg L[ki] (List.getElem_mem _)
  have htb := hLg L[kk] (List.getElem_mem _)
  have HS2 := Lib.hid (hs1'.ext h2)
  have HA2 := Lib.hid (Sights.ext h2 hsa1)
  have HB2 := Lib.hid (Sights.ext h2 hsb1)
  have HG2 := Lib.hid (Sts.ext (e1.trans h2) hG)
  have HK2 := Lib.hid (hA.ext h2)
  have hE2 := hE1.trans h2
  generalize L[ki] = a at *
  generalize L[kk] = b at *
  have eok := merge_ok hm hta htb
  have eg := asks_ok (G := G) (by omega) hGg
  obtain ⟨bi, hbi, r1, r2, r3, r4⟩ := right_law s (mergeT a b) G eok eg (by omega)
  have Hml := Lib.hid (merge_len a b)
  have Hmt : Hid (∀ x ∈ mergeT a b, trkErr s [x] = 0) := Lib.hid fun x hx => one_ok eok hx (by
    rcases merge_mem a b x hx with h | h
    · exact (hta.1.2 x h).1.tick.1
    · exact (htb.1.2 x h).1.tick.1)
  obtain ⟨al, hal⟩ : ∃ al, mergeT a b = al := ⟨_, rfl⟩
  rw [hal] at Hml Hmt r1 r2 r3 r4
  have Hal := Lib.hid hal
  have R1 := Lib.hid r1
  have R2 := Lib.hid r2
  have R3 := Lib.hid r3
  have R4 := Lib.hid r4
  have hna : a.length = na := HA2.out.len.symm
  have hnb : b.length = nb := HB2.out.len.symm
  have hna1 := hta.2
  have hnb1 := htb.2
  have HGg := Lib.hid hGg
  clear hal hcA hlA hA hs1' hsa1 hsb1 hE1 h2 hs hL hG hsa hsb hca hcb hca1 hcb1 hql hcell e1 h1 hl r1 r2 r3 r4 eok eg hta htb hLg hm hGg hki hkk
  obtain ⟨hna1, hna2⟩ := hna1
  obtain ⟨hnb1, hnb2⟩ := hnb1
  go_wp2_with fail
  go_loopw [12, 13, 14] (fun av pi qi wr => ∃ (p q : Nat) (acc : List Sight), p ≤ na ∧ q ≤ nb ∧ pi = .int .i64 p ∧ qi = .int .i64 q ∧ acc.length ≤ 8 ∧ Hid (acc.length = p + q) ∧ Hid (acc ++ mergeT (a.drop p) (b.drop q) = al) ∧ Hid (wr.ownsRow W2.heap.size 32 9 av acc.length (acc.flatMap sightC)) ∧ Ext W2 wr) (fun _ pi qi _ => na + nb - ((intOf pi).toNat + (intOf qi).toNat))
  case atStart => exact ⟨0, 0, [], by omega, by omega, rfl, rfl, by simp, rfl, Lib.hid (by simpa using Hal.out), World.ownsRow_nil _ _ _ _, Ext.refl _⟩
  case round =>
    obtain ⟨p, q, acc, hp, hq, rfl, rfl, hacc8, hacc, HM, HO, hb⟩ := hrel
    by_cases hp1 : p < na
    · obtain ⟨blx, ox, x, rfl, HDx, hxm, hx⟩ := (Sights.ext hb HA2.out).one hp1
      obtain ⟨hx0, hx1, hx2, hx3, hx4, hx5, hx6, hx7, hx8⟩ := hx
      have hlx : blx < wr.heap.size := World.block_lt_of_cell? wr _ hx0
      try dsimp only at hlx
      by_cases hq1 : q < nb
      · obtain ⟨bly, oy, y, rfl, HDy, hym, hy⟩ := (Sights.ext hb HB2.out).one hq1
        obtain ⟨hy0, hy1, hy2, hy3, hy4, hy5, hy6, hy7, hy8⟩ := hy
        have hly : bly < wr.heap.size := World.block_lt_of_cell? wr _ hy0
        try dsimp only at hly
        have hd1 : decide (nb ≤ q) = false := by simp; omega
        by_cases ht : x.tick ≤ y.tick
        · have hd2 : decide (x.tick ≤ y.tick) = true := by simpa using ht
          have HM2 : Hid ((acc ++ [x]) ++ mergeT (a.drop (p + 1)) (b.drop q) = al) := Lib.hid (by
            have h := HM.out
            rw [HDx.out, HDy.out, merge_l ht, ← HDy.out] at h
            rw [List.append_assoc]
            exact h)
          clear HM
          go_wp2_with fail
          refine wp_region_text (by kernel_rfl) (by kernel_rfl) ?_
          repeat' (first | (refine bl_off (by rfl) ?_; simp only [Act.put, List.setIfInBounds_toArray, List.set_cons_zero, List.set_cons_succ]) | (apply bl_op; rfl; (intro w1 h1; obtain ⟨hc, hf, hz⟩ := bcell h1; go_simp; (try go_bits); (first | exact ⟨rfl, Ext.refl _⟩)); simp only [Act.put, List.setIfInBounds_toArray, List.set_cons_zero, List.set_cons_succ]) | (refine bl_split rfl rfl (fun hx => ?_) (fun hx => ?_) <;> simp only [hx]))
          refine bl_nil ?_
          intro w5 h5
          have HO5 := Lib.hid (own_ext_keep HO.out h5)
          have hb5 := hb.trans h5
          have g0 := h5.cell hx0
          have g1 := h5.cell hx1
          have g2 := h5.cell hx2
          have g3 := h5.cell hx3
          have g4 := h5.cell hx4
          have g5 := h5.cell hx5
          have g6 := h5.cell hx6
          have g7 := h5.cell hx7
          have g8 := h5.cell hx8
          have hl5 : blx < w5.heap.size := World.block_lt_of_cell? w5 _ g0
          clear hx0 hx1 hx2 hx3 hx4 hx5 hx6 hx7 hx8 hy0 hy1 hy2 hy3 hy4 hy5 hy6 hy7 hy8 HO h5
          try dsimp only at g0 g1 g2 g3 g4 g5 g6 g7 g8
          go_wp2_with (at_builtin; go_loud (refine wpList_append_sl rfl (.tmp 75) (.tmp 80) 51 rfl W2.heap.size 32 is_ _ 9 72 Try.underlying51 his hs0 hs1 hs2 rfl (by decide) _ acc.length (acc.flatMap sightC) rfl (own_ext_keep HO5.out (Ext.alloc0 _ _)) (some ⟨w5.heap.size, 0, none⟩) 1 1 (sightC x) rfl rfl (.inr ⟨_, rfl, new_cells rfl⟩) (sight_read1 x) (by unfold maxLen; omega) (by omega) (by have := hb5.size; simp; omega) ?_))
          intro v' w6 ho6 hg6 _
          have hb6 : Ext W2 w6 := own_ext (hb5.trans (Ext.alloc0 _ _)) (own_ext_keep HO5.out (Ext.alloc0 _ _)) hg6 (Nat.le_refl _)
          have HO6 : Hid (w6.ownsRow W2.heap.size 32 9 v' (acc ++ [x]).length ((acc ++ [x]).flatMap sightC)) := Lib.hid (by rw [List.length_append, List.flatMap_append]; simpa using ho6)
          clear HO5 hg6 ho6 g0 g1 g2 g3 g4 g5 g6 g7 g8 hl5
          go_wp2_with fail
          go_roundw
          case rel => exact ⟨p + 1, q, acc ++ [x], by omega, by omega, by go_num, rfl, by have := hacc.out; rw [List.length_append]; simp; omega, Lib.hid (by have := hacc.out; rw [List.length_append]; simp; omega), HM2, HO6, hb6⟩
          case measure => simp [intOf]; omega
        · have hd2 : decide (x.tick ≤ y.tick) = false := by simpa using ht
          have HM2 : Hid ((acc ++ [y]) ++ mergeT (a.drop p) (b.drop (q + 1)) = al) := Lib.hid (by
            have h := HM.out
            rw [HDx.out, HDy.out, merge_r ht, ← HDx.out] at h
            rw [List.append_assoc]
            exact h)
          clear HM
          go_wp2_with fail
          refine wp_region_text (by kernel_rfl) (by kernel_rfl) ?_
          repeat' (first | (refine bl_off (by rfl) ?_; simp only [Act.put, List.setIfInBounds_toArray, List.set_cons_zero, List.set_cons_succ]) | (apply bl_op; rfl; (intro w1 h1; obtain ⟨hc, hf, hz⟩ := bcell h1; go_simp; (try go_bits); (first | exact ⟨rfl, Ext.refl _⟩)); simp only [Act.put, List.setIfInBounds_toArray, List.set_cons_zero, List.set_cons_succ]) | (refine bl_split rfl rfl (fun hx => ?_) (fun hx => ?_) <;> simp only [hx]))
          refine bl_nil ?_
          intro w5 h5
          have HO5 := Lib.hid (own_ext_keep HO.out h5)
          have hb5 := hb.trans h5
          have g0 := h5.cell hy0
          have g1 := h5.cell hy1
          have g2 := h5.cell hy2
          have g3 := h5.cell hy3
          have g4 := h5.cell hy4
          have g5 := h5.cell hy5
          have g6 := h5.cell hy6
          have g7 := h5.cell hy7
          have g8 := h5.cell hy8
          have hl5 : bly < w5.heap.size := World.block_lt_of_cell? w5 _ g0
          clear hx0 hx1 hx2 hx3 hx4 hx5 hx6 hx7 hx8 hy0 hy1 hy2 hy3 hy4 hy5 hy6 hy7 hy8 HO h5
          try dsimp only at g0 g1 g2 g3 g4 g5 g6 g7 g8
          go_wp2_with (at_builtin; go_loud (refine wpList_append_sl rfl (.tmp 84) (.tmp 89) 51 rfl W2.heap.size 32 is_ _ 9 72 Try.underlying51 his hs0 hs1 hs2 rfl (by decide) _ acc.length (acc.flatMap sightC) rfl (own_ext_keep HO5.out (Ext.alloc0 _ _)) (some ⟨w5.heap.size, 0, none⟩) 1 1 (sightC y) rfl rfl (.inr ⟨_, rfl, new_cells rfl⟩) (sight_read1 y) (by unfold maxLen; omega) (by omega) (by have := hb5.size; simp; omega) ?_))
          intro v' w6 ho6 hg6 _
          have hb6 : Ext W2 w6 := own_ext (hb5.trans (Ext.alloc0 _ _)) (own_ext_keep HO5.out (Ext.alloc0 _ _)) hg6 (Nat.le_refl _)
          have HO6 : Hid (w6.ownsRow W2.heap.size 32 9 v' (acc ++ [y]).length ((acc ++ [y]).flatMap sightC)) := Lib.hid (by rw [List.length_append, List.flatMap_append]; simpa using ho6)
          clear HO5 hg6 ho6 g0 g1 g2 g3 g4 g5 g6 g7 g8 hl5
          go_wp2_with fail
          go_roundw
          case rel => exact ⟨p, q + 1, acc ++ [y], by omega, by omega, rfl, by go_num, by have := hacc.out; rw [List.length_append]; simp; omega, Lib.hid (by have := hacc.out; rw [List.length_append]; simp; omega), HM2, HO6, hb6⟩
          case measure => simp [intOf]; omega
      · have hd1 : decide (nb ≤ q) = true := by simp; omega
        have hqn : nb ≤ q := by omega
        have Hbe := Lib.hid (show b.drop q = [] from List.drop_of_length_le (by omega))
        have HM2 : Hid ((acc ++ [x]) ++ mergeT (a.drop (p + 1)) (b.drop q) = al) := Lib.hid (by
          have h := HM.out
          rw [HDx.out, Hbe.out, merge_nil] at h
          rw [Hbe.out, merge_nil]
          rw [List.append_assoc]
          exact h)
        clear HM
        go_wp2_with fail
        refine wp_region_text (by kernel_rfl) (by kernel_rfl) ?_
        repeat' (first | (refine bl_off (by rfl) ?_; simp only [Act.put, List.setIfInBounds_toArray, List.set_cons_zero, List.set_cons_succ]) | (apply bl_op; rfl; (intro w1 h1; obtain ⟨hc, hf, hz⟩ := bcell h1; go_simp; (try go_bits); (first | exact ⟨rfl, Ext.refl _⟩)); simp only [Act.put, List.setIfInBounds_toArray, List.set_cons_zero, List.set_cons_succ]) | (refine bl_split rfl rfl (fun hx => ?_) (fun hx => ?_) <;> simp only [hx]))
        refine bl_nil ?_
        intro w5 h5
        have HO5 := Lib.hid (own_ext_keep HO.out h5)
        have hb5 := hb.trans h5
        have g0 := h5.cell hx0
        have g1 := h5.cell hx1
        have g2 := h5.cell hx2
        have g3 := h5.cell hx3
        have g4 := h5.cell hx4
        have g5 := h5.cell hx5
        have g6 := h5.cell hx6
        have g7 := h5.cell hx7
        have g8 := h5.cell hx8
        have hl5 : blx < w5.heap.size := World.block_lt_of_cell? w5 _ g0
        clear hx0 hx1 hx2 hx3 hx4 hx5 hx6 hx7 hx8  HO h5
        try dsimp only at g0 g1 g2 g3 g4 g5 g6 g7 g8
        go_wp2_with (at_builtin; go_loud (refine wpList_append_sl rfl (.tmp 75) (.tmp 80) 51 rfl W2.heap.size 32 is_ _ 9 72 Try.underlying51 his hs0 hs1 hs2 rfl (by decide) _ acc.length (acc.flatMap sightC) rfl (own_ext_keep HO5.out (Ext.alloc0 _ _)) (some ⟨w5.heap.size, 0, none⟩) 1 1 (sightC x) rfl rfl (.inr ⟨_, rfl, new_cells rfl⟩) (sight_read1 x) (by unfold maxLen; omega) (by omega) (by have := hb5.size; simp; omega) ?_))
        intro v' w6 ho6 hg6 _
        have hb6 : Ext W2 w6 := own_ext (hb5.trans (Ext.alloc0 _ _)) (own_ext_keep HO5.out (Ext.alloc0 _ _)) hg6 (Nat.le_refl _)
        have HO6 : Hid (w6.ownsRow W2.heap.size 32 9 v' (acc ++ [x]).length ((acc ++ [x]).flatMap sightC)) := Lib.hid (by rw [List.length_append, List.flatMap_append]; simpa using ho6)
        clear HO5 hg6 ho6 g0 g1 g2 g3 g4 g5 g6 g7 g8 hl5
        go_wp2_with fail
        go_roundw
        case rel => exact ⟨p + 1, q, acc ++ [x], by omega, by omega, by go_num, rfl, by have := hacc.out; rw [List.length_append]; simp; omega, Lib.hid (by have := hacc.out; rw [List.length_append]; simp; omega), HM2, HO6, hb6⟩
        case measure => simp [intOf]; omega
    · by_cases hq1 : q < nb
      · obtain ⟨bly, oy, y, rfl, HDy, hym, hy⟩ := (Sights.ext hb HB2.out).one hq1
        obtain ⟨hy0, hy1, hy2, hy3, hy4, hy5, hy6, hy7, hy8⟩ := hy
        have hly : bly < wr.heap.size := World.block_lt_of_cell? wr _ hy0
        try dsimp only at hly
        have hd1 : decide (nb ≤ q) = false := by simp; omega
        have hd2 : decide (p < na) = false := by simp; omega
        have Hae := Lib.hid (show a.drop p = [] from List.drop_of_length_le (by omega))
        have HM2 : Hid ((acc ++ [y]) ++ mergeT (a.drop p) (b.drop (q + 1)) = al) := Lib.hid (by
          have h := HM.out
          rw [HDy.out, Hae.out, merge_nil'] at h
          rw [Hae.out, merge_nil']
          rw [List.append_assoc]
          exact h)
        clear HM
        go_wp2_with fail
        refine wp_region_text (by kernel_rfl) (by kernel_rfl) ?_
        repeat' (first | (refine bl_off (by rfl) ?_; simp only [Act.put, List.setIfInBounds_toArray, List.set_cons_zero, List.set_cons_succ]) | (apply bl_op; rfl; (intro w1 h1; obtain ⟨hc, hf, hz⟩ := bcell h1; go_simp; (try go_bits); (first | exact ⟨rfl, Ext.refl _⟩)); simp only [Act.put, List.setIfInBounds_toArray, List.set_cons_zero, List.set_cons_succ]) | (refine bl_split rfl rfl (fun hx => ?_) (fun hx => ?_) <;> simp only [hx]))
        refine bl_nil ?_
        intro w5 h5
        have HO5 := Lib.hid (own_ext_keep HO.out h5)
        have hb5 := hb.trans h5
        have g0 := h5.cell hy0
        have g1 := h5.cell hy1
        have g2 := h5.cell hy2
        have g3 := h5.cell hy3
        have g4 := h5.cell hy4
        have g5 := h5.cell hy5
        have g6 := h5.cell hy6
        have g7 := h5.cell hy7
        have g8 := h5.cell hy8
        have hl5 : bly < w5.heap.size := World.block_lt_of_cell? w5 _ g0
        clear  hy0 hy1 hy2 hy3 hy4 hy5 hy6 hy7 hy8 HO h5
        try dsimp only at g0 g1 g2 g3 g4 g5 g6 g7 g8
        go_wp2_with (at_builtin; go_loud (refine wpList_append_sl rfl (.tmp 84) (.tmp 89) 51 rfl W2.heap.size 32 is_ _ 9 72 Try.underlying51 his hs0 hs1 hs2 rfl (by decide) _ acc.length (acc.flatMap sightC) rfl (own_ext_keep HO5.out (Ext.alloc0 _ _)) (some ⟨w5.heap.size, 0, none⟩) 1 1 (sightC y) rfl rfl (.inr ⟨_, rfl, new_cells rfl⟩) (sight_read1 y) (by unfold maxLen; omega) (by omega) (by have := hb5.size; simp; omega) ?_))
        intro v' w6 ho6 hg6 _
        have hb6 : Ext W2 w6 := own_ext (hb5.trans (Ext.alloc0 _ _)) (own_ext_keep HO5.out (Ext.alloc0 _ _)) hg6 (Nat.le_refl _)
        have HO6 : Hid (w6.ownsRow W2.heap.size 32 9 v' (acc ++ [y]).length ((acc ++ [y]).flatMap sightC)) := Lib.hid (by rw [List.length_append, List.flatMap_append]; simpa using ho6)
        clear HO5 hg6 ho6 g0 g1 g2 g3 g4 g5 g6 g7 g8 hl5
        go_wp2_with fail
        go_roundw
        case rel => exact ⟨p, q + 1, acc ++ [y], by omega, by omega, rfl, by go_num, by have := hacc.out; rw [List.length_append]; simp; omega, Lib.hid (by have := hacc.out; rw [List.length_append]; simp; omega), HM2, HO6, hb6⟩
        case measure => simp [intOf]; omega
      · have hM := HM.out
        rw [show a.drop p = [] from List.drop_of_length_le (by omega), show b.drop q = [] from List.drop_of_length_le (by omega), merge_nil, List.append_nil] at hM
        have hpn : na = p := by omega
        have hqn : nb = q := by omega
        subst hpn hqn
        obtain ⟨we, rfl⟩ : ∃ wo : World, wo = wr := ⟨_, rfl⟩
        have hacc := hacc.out
        rw [hM] at HO hacc hacc8
        clear HM hM
        rcases HO.out.2 with ⟨rfl, h0⟩ | ⟨gm, cap, cur, rfl, hbg, hgc, hnc, hcm, hcs, htk⟩
        · exfalso; omega
        have hSm : Sights we (some ⟨gm, 0, none⟩) al.length al := by
          obtain ⟨Am, cm, hAm, hSm⟩ := own_sl sight_len (sight_read we) HO.out
          injection hAm with e1 e2 e3
          rw [e1]
          exact hSm
        clear htk hcs hgc hbg HO hcm
        generalize hnm : al.length = nm at *
        have Hnm := Lib.hid hacc
        clear hacc
        have HBel := Believe_c A1 n1 c1 home A2 n2 c2 A3 n3 c3 s (some ⟨gm, 0, none⟩) nm cap al AG ng cg G 0 we (HS2.out.ext hb) hSm (Sts.ext hb HG2.out)
        obtain ⟨WL, hWL⟩ : ∃ WL, WL = wrongL s al G[bi] 0 := ⟨_, rfl⟩
        rw [R1.out, R2.out, R3.out, ← hWL] at HBel
        have HWL := Lib.hid hWL
        have HSm := Lib.hid hSm
        have Hlm := Lib.hid hnm
        have hcK := (HK2.out.ext hb).cell
        have hlK := (HK2.out.ext hb).lt
        clear hWL hSm hnm R1 R2 R3
        go_wp2_with fail
        refine HBel.mono ?_
        rintro e w7 ⟨AW, cW, rfl, hW, h7⟩
        have hb7 := hb.trans h7
        have HWs := Lib.hid hW
        obtain ⟨nW, hnW⟩ : ∃ k, k = WL.length := ⟨_, rfl⟩
        have hnW2 := hW.le
        rw [← hnW] at HWs hnW2 ⊢
        have HnW := Lib.hid hnW
        clear hW hnW hcK hlK HBel
        have hd1 : decide ((bi : Int) < 0) = false := by simp
        have hd2 : decide (ng ≤ bi) = false := by simp; omega
        go_wp2_with fail
        clear hd1 hd2
        go_loopw [18] (fun gi wr => ∃ j : Nat, j ≤ ng ∧ gi = .int .i64 j ∧ Ext w7 wr) (fun gi _ => ng - (intOf gi).toNat)
        case atStart => exact ⟨0, Nat.zero_le _, rfl, Ext.refl _⟩
        case round =>
          obtain ⟨j, hj, rfl, hb8⟩ := hrel
          obtain ⟨wo, rfl⟩ : ∃ wo : World, wo = wr := ⟨_, rfl⟩
          have hbo := hb7.trans hb8
          by_cases hjl : j < ng
          · obtain ⟨qg, og, g, hAG, HDg, hgm, hgc⟩ := (Sts.ext hbo HG2.out).one hjl
            subst hAG
            have Hgc := Lib.hid hgc
            have Hgj : Hid (G[j]'(by omega) = g) := Lib.hid (by
              have h := HDg.out
              rw [List.drop_eq_getElem_cons (by omega)] at h
              injection h)
            have Hrj := Lib.hid (R4.out j (by omega))
            rw [Hgj.out] at Hrj
            have Hbg : Hid (j = bi → G[bi] = g) := Lib.hid (fun e => by subst e; exact Hgj.out)
            clear hgc Hgj
            go_wp2_with fail
            go_loopw [19, 20] (fun mi ni wr => ∃ (p m : Nat), p ≤ nm ∧ ni = .int .i64 p ∧ mi = .int .i64 m ∧ m ≤ p ∧ Hid (m + (wrongFrom s g 0 (al.drop p) p).length = (wrongL s al g 0).length) ∧ Ext wo wr) (fun _ ni _ => nm - (intOf ni).toNat)
            case atStart => exact ⟨0, 0, Nat.zero_le _, rfl, rfl, Nat.le_refl _, Lib.hid (by rw [Nat.zero_add]; rfl), Ext.refl _⟩
            case round =>
              obtain ⟨p, m, hp, rfl, rfl, hmp, HM, hb9⟩ := hrel
              have hb10 := hbo.trans hb9
              by_cases hpl : p < nm
              · obtain ⟨b', o', x, hA', HDx, hxm, hx⟩ := (Sights.ext (h7.trans (hb8.trans hb9)) HSm.out).one hpl
                cases hA'
                rw [Nat.zero_add] at hx
                have Hm := Lib.hid fun W (hW : Ext wr W) cc => miss_one A1 n1 c1 home A2 n2 c2 A3 n3 c3 s gm (p * 9) cc x g W (HS2.out.ext (hb10.trans hW)) (sightAt.ext hW hx) (Hmt.out x hxm) (HGg.out g hgm)
                have hbm : gm < wr.heap.size := World.block_lt_of_cell? wr _ hx.1
                have Hhas : Hid (j = bi → (WL.any fun x => x == (p : Int)) = !fitsM s x g 0) := Lib.hid (fun e => by
                  have h := wrong_has s g al p (by rw [Hlm.out]; omega)
                  have h2 := HDx.out
                  rw [List.drop_eq_getElem_cons (by rw [Hlm.out]; omega)] at h2
                  injection h2 with h2
                  rw [HWL.out, Hbg.out e, h, h2])
                have hM2 := HM.out
                rw [HDx.out, wrongFrom] at hM2
                obtain ⟨hg0, hg1, hg2, hg3⟩ := stAt.ext hb9 Hgc.out
                have hqg : qg < wr.heap.size := World.block_lt_of_cell? wr _ hg0
                try dsimp only at hqg hbm
                have hcK := (HK2.out.ext hb10).cell
                have hlK := (HK2.out.ext hb10).lt
                have HHI := Lib.hid fun W (hW : Ext wr W) => HasInt_c AW nW cW WL p W (Ints.ext ((hb8.trans hb9).trans hW) HWs.out)
                obtain ⟨P, hP⟩ : ∃ P : Int, P = if fitsM s x g 0 then -1 else 0 := ⟨_, rfl⟩
                rw [← hP] at Hm
                clear hx
                have hpc : p + 1 ≤ cap := by omega
                have hpc2 : (0 : Int) ≤ (p : Int) + 1 := by omega
                have hpc3 : (p : Int) + 1 ≤ (cap : Int) := by omega
                have hpc4 : ¬ cap = p := by omega
                by_cases hji : j = bi
                · have hH := Hhas.out hji
                  subst hji
                  rw [hH] at HHI
                  cases hF : fitsM s x g 0
                  · rw [hF] at hP HHI hM2
                    simp only [Bool.false_eq_true, if_false, List.length_cons] at hP hM2
                    subst hP
                    have HM2 := Lib.hid (show (m + 1) + (wrongFrom s g 0 (al.drop (p + 1)) (p + 1)).length = (wrongL s al g 0).length by omega)
                    clear hH Hhas hF hM2 HM
                    go_wp2_with fail
                    refine wp_region_text (by kernel_rfl) (by kernel_rfl) ?_
                    repeat' (first | (refine bl_off (by rfl) ?_; simp only [Act.put, List.setIfInBounds_toArray, List.set_cons_zero, List.set_cons_succ]) | (apply bl_op; rfl; (intro w1 h1; obtain ⟨hc, hf, hz⟩ := bcell h1; go_simp; (try go_bits); (first | exact ⟨rfl, Ext.refl _⟩ | (apply gives_call; go_at_call 38; exact Hm.out _ h1 _) | (go_invoke; go_simp; apply gives_call; go_at_call 38; exact Hm.out _ h1 _))); simp only [Act.put, List.setIfInBounds_toArray, List.set_cons_zero, List.set_cons_succ]) | (refine bl_split rfl rfl (fun hx => ?_) (fun hx => ?_) <;> simp only [hx]))
                    refine bl_nil ?_
                    intro w11 h11
                    go_wp2_with fail
                    refine (HHI.out _ (by (repeat' (first | exact Ext.refl _ | assumption | apply Ext.alloc | apply Ext.drew | refine Ext.set ?_ (by dsimp only; omega) _ | refine Ext.trans ?_ (by assumption))))).mono ?_
                    rintro e w12 ⟨rfl, h12⟩
                    go_wp2_with fail
                    go_roundw
                    case rel => exact ⟨p + 1, m + 1, by omega, by go_num, by go_num, by omega, HM2, (hb9.trans h11).trans h12⟩
                    case measure => simp [intOf]; omega
                  · rw [hF] at hP HHI hM2
                    simp only [if_true] at hP hM2
                    subst hP
                    have HM2 := Lib.hid hM2
                    clear hH Hhas hF hM2 HM
                    go_wp2_with fail
                    refine wp_region_text (by kernel_rfl) (by kernel_rfl) ?_
                    repeat' (first | (refine bl_off (by rfl) ?_; simp only [Act.put, List.setIfInBounds_toArray, List.set_cons_zero, List.set_cons_succ]) | (apply bl_op; rfl; (intro w1 h1; obtain ⟨hc, hf, hz⟩ := bcell h1; go_simp; (try go_bits); (first | exact ⟨rfl, Ext.refl _⟩ | (apply gives_call; go_at_call 38; exact Hm.out _ h1 _) | (go_invoke; go_simp; apply gives_call; go_at_call 38; exact Hm.out _ h1 _))); simp only [Act.put, List.setIfInBounds_toArray, List.set_cons_zero, List.set_cons_succ]) | (refine bl_split rfl rfl (fun hx => ?_) (fun hx => ?_) <;> simp only [hx]))
                    refine bl_nil ?_
                    intro w11 h11
                    go_wp2_with fail
                    refine (HHI.out _ (by (repeat' (first | exact Ext.refl _ | assumption | apply Ext.alloc | apply Ext.drew | refine Ext.set ?_ (by dsimp only; omega) _ | refine Ext.trans ?_ (by assumption))))).mono ?_
                    rintro e w12 ⟨rfl, h12⟩
                    go_wp2_with fail
                    go_roundw
                    case rel => exact ⟨p + 1, m, by omega, by go_num, rfl, by omega, HM2, (hb9.trans h11).trans h12⟩
                    case measure => simp [intOf]; omega
                · have hd1 : ((j : Int) == (bi : Int)) = false := by simp; omega
                  cases hF : fitsM s x g 0
                  · rw [hF] at hP hM2
                    simp only [Bool.false_eq_true, if_false, List.length_cons] at hP hM2
                    subst hP
                    have HM2 := Lib.hid (show (m + 1) + (wrongFrom s g 0 (al.drop (p + 1)) (p + 1)).length = (wrongL s al g 0).length by omega)
                    clear Hhas hF hM2 HM
                    go_wp2_with fail
                    refine wp_region_text (by kernel_rfl) (by kernel_rfl) ?_
                    repeat' (first | (refine bl_off (by rfl) ?_; simp only [Act.put, List.setIfInBounds_toArray, List.set_cons_zero, List.set_cons_succ]) | (apply bl_op; rfl; (intro w1 h1; obtain ⟨hc, hf, hz⟩ := bcell h1; go_simp; (try go_bits); (first | exact ⟨rfl, Ext.refl _⟩ | (apply gives_call; go_at_call 38; exact Hm.out _ h1 _) | (go_invoke; go_simp; apply gives_call; go_at_call 38; exact Hm.out _ h1 _))); simp only [Act.put, List.setIfInBounds_toArray, List.set_cons_zero, List.set_cons_succ]) | (refine bl_split rfl rfl (fun hx => ?_) (fun hx => ?_) <;> simp only [hx]))
                    refine bl_nil ?_
                    intro w11 h11
                    go_wp2_with fail
                    go_roundw
                    case rel => exact ⟨p + 1, m + 1, by omega, by go_num, by go_num, by omega, HM2, hb9.trans h11⟩
                    case measure => simp [intOf]; omega
                  · rw [hF] at hP hM2
                    simp only [if_true] at hP hM2
                    subst hP
                    have HM2 := Lib.hid hM2
                    clear Hhas hF hM2 HM
                    go_wp2_with fail
                    refine wp_region_text (by kernel_rfl) (by kernel_rfl) ?_
                    repeat' (first | (refine bl_off (by rfl) ?_; simp only [Act.put, List.setIfInBounds_toArray, List.set_cons_zero, List.set_cons_succ]) | (apply bl_op; rfl; (intro w1 h1; obtain ⟨hc, hf, hz⟩ := bcell h1; go_simp; (try go_bits); (first | exact ⟨rfl, Ext.refl _⟩ | (apply gives_call; go_at_call 38; exact Hm.out _ h1 _) | (go_invoke; go_simp; apply gives_call; go_at_call 38; exact Hm.out _ h1 _))); simp only [Act.put, List.setIfInBounds_toArray, List.set_cons_zero, List.set_cons_succ]) | (refine bl_split rfl rfl (fun hx => ?_) (fun hx => ?_) <;> simp only [hx]))
                    refine bl_nil ?_
                    intro w11 h11
                    go_wp2_with fail
                    go_roundw
                    case rel => exact ⟨p + 1, m, by omega, by go_num, rfl, by omega, HM2, hb9.trans h11⟩
                    case measure => simp [intOf]; omega
              · have hpn : p = nm := by omega
                have hM2 := HM.out
                rw [hpn, ← Hlm.out, List.drop_length] at hM2
                simp only [wrongFrom, List.length_nil, Nat.add_zero] at hM2
                have hr := Hrj.out
                rw [← HWL.out, ← hM2, ← HnW.out] at hr
                obtain ⟨hr1, hr2⟩ := hr
                clear HM hM2
                have hd1 : decide (m < nW) = false := by simp; omega
                by_cases hjb : j < bi
                · have hr3 := hr2 hjb
                  have hd2 : ((m : Int) == (nW : Int)) = false := by simp; omega
                  clear hr2
                  go_wp2_with fail
                  go_roundw
                  case rel => exact ⟨j + 1, by omega, by go_num, hb8.trans hb9⟩
                  case measure => simp [intOf]; omega
                · have hd2 : decide (j < bi) = false := by simp; omega
                  clear hr2
                  go_wp2_with fail
                  go_roundw
                  case rel => exact ⟨j + 1, by omega, by go_num, hb8.trans hb9⟩
                  case measure => simp [intOf]; omega
          · have hjn : j = ng := by omega
            go_wp2_with fail
            refine (awake_c _).mono ?_
            rintro e w13 ⟨rfl, h13⟩
            go_wp2_with fail
            go_ret
            exact ⟨rfl, hE2.trans (hbo.trans h13)⟩
end Go.Proofs.Ytmgjjgmadiabfaa
