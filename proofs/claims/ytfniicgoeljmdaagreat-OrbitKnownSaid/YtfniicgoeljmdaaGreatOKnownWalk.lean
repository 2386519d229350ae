/- OrbitKnown, walked: the chapter's examples have the results given there. No condition. -/
import Derived.Test.YtfniicgoeljmdaaGreatHeaven
namespace Go.Proofs.YtfniicgoeljmdaaGreat
open Go.RowKit

theorem IsHeaven.stable (v : Value) : Stable (IsHeaven v) := fun _ _ ⟨A1, c1, A2, c2, A3, c3, h, hs⟩ e => ⟨A1, c1, A2, c2, A3, c3, h, hs.ext e⟩
def IsFil (v : Value) (w : World) : Prop := ∃ A c, v = .tuple #[.slice A 1 c, .int .i64 0] ∧ Bxs w A 1 [shownX]
theorem IsFil.stable (v : Value) : Stable (IsFil v) := fun _ _ ⟨A, c, h, hs⟩ e => ⟨A, c, h, Bxs.ext e hs⟩
def IsFilX (v : Value) (w : World) : Prop := ∃ A c, v = .slice A 1 c ∧ Bxs w A 1 [shownX]
theorem IsFilX.stable (v : Value) : Stable (IsFilX v) := fun _ _ ⟨A, c, h, hs⟩ e => ⟨A, c, h, Bxs.ext e hs⟩

set_option maxRecDepth 20000 in
set_option maxHeartbeats 8000000 in
theorem OrbitKnown_c (w : World) : Calls Tryz.prog 12 #[] w fun e w' => e = .returned (.bool true) ∧ Ext w w' := by
  have HA := Lib.hid fun W => awake4_c W
  have HSH := Lib.hid fun W => shown4_c W
  have HSP := Lib.hid fun W => oSplit_c shownB W
  rw [shown_split] at HSP
  have HCE := Lib.hid fun W => oCells_c shownB 3 W
  rw [shown_cells, shown_cells0, show shownL.length = 3 from rfl] at HCE
  have HFI := Lib.hid fun A1 n1 c1 A2 n2 c2 A3 n3 c3 A n c B m d W hs hl hr => oFilter_c A1 n1 c1 0 A2 n2 c2 A3 n3 c3 heavenS 0 A n c [shownX, shownY] B m d [⟨2, 1, 0, 0, 0, 0, 0, 0, 5⟩] W hs hl hr
  rw [shown_filt0, if_pos rfl, shown_filt] at HFI
  have HPA := Lib.hid fun A m c W hl => oPack_c A m c shownL 1 W hl
  rw [shown_pack0, shown_pack] at HPA
  have HHU := Lib.hid fun A n c W hl hc => oHull_c A n c shownL W hl hc
  rw [shown_hull, shown_hull0] at HHU
  have HSB := Lib.hid fun A' n' c' B' m' d' l' W => SameBoxes_c A' n' c' B' m' d' l' W
  have HP1 := Lib.hid fun A n c W (h : Bodies W A n stillL) => oPossible_c A n c 0 stillL ⟨⟨0, 0⟩, ⟨0, 0⟩, 1⟩ 0 0 0 5 0 6 (-1) 6 1 W h
  rw [still_not1] at HP1
  have HP2 := Lib.hid fun A n c W (h : Bodies W A n stillL) => oPossible_c A n c 0 stillL ⟨⟨0, 0⟩, ⟨0, 0⟩, 1⟩ 0 0 0 5 0 7 0 7 0 W h
  rw [still_not2] at HP2
  have HTR := Lib.hid fun A n c b W (h : Bodies W A n stillL) hL => oTruth_c A n c 0 stillL ⟨⟨0, 0⟩, ⟨0, 0⟩, 1⟩ 0 (some ⟨b, 0, none⟩) 3 3 [⟨0, 0, 5, 0⟩, ⟨6, -1, 6, -1⟩, ⟨12, 0, 6, 2⟩] W h hL (by decide)
  rw [still_truth] at HTR
  dsimp only [bxV, shownB, shownX, shownY] at HSP HCE HHU HP1 HP2 HTR
  go_enter Tryz.func12, Tryz.ntmps12
  go_wp2_with fail
  refine (still_c _).mono ?_
  rintro e w1 ⟨⟨A1, c1, rfl, hs1⟩, h1⟩
  obtain ⟨hc_w1, hf_w1, hz_w1⟩ := bcell h1; (try simp only [szA] at hz_w1); (try have := wz0 w w1); (try have := wz1 w w1); (try have := wz2 w w1); (try have := wz3 w w1); (try have := wz4 w w1)
  go_wp2_with fail
  refine (gas_c _).mono ?_
  rintro e w2 ⟨rfl, h2⟩
  obtain ⟨hc_w2, hf_w2, hz_w2⟩ := bcell h2; (try simp only [szA] at hz_w2); (try have := wz0 w w2); (try have := wz1 w w2); (try have := wz2 w w2); (try have := wz3 w w2); (try have := wz4 w w2)
  go_wp2_with fail
  obtain ⟨V, hV⟩ : ∃ W, W = ((w2.alloc (.cells #[.int .i64 0, .int .i64 0, .int .i64 5, .int .i64 0] 30)).alloc (.cells #[.slice A1 1 c1, .int .i64 0] 24)).alloc (.cells #[.int .i64 0, .int .i64 0, .int .i64 0, .int .i64 0, .int .i64 1] 28) := ⟨_, rfl⟩
  rw [← hV]
  obtain ⟨z, hz⟩ : ∃ z, z = w2.heap.size := ⟨_, rfl⟩
  have B1 : Blk V z 30 #[.int .i64 0, .int .i64 0, .int .i64 5, .int .i64 0] := by rw [hV]; exact ((Blk.newAt hz).alloc _).alloc _
  have B2 : Blk V (z + 1) 24 #[.slice A1 1 c1, .int .i64 0] := by rw [hV]; exact (Blk.newAt (by simp [hz])).alloc _
  have B3 : Blk V (z + 1 + 1) 28 #[.int .i64 0, .int .i64 0, .int .i64 0, .int .i64 0, .int .i64 1] := by rw [hV]; exact Blk.newAt (by simp [hz])
  have E : Ext w V := by rw [hV]; exact ext_by
  have E1 : Ext w1 V := by rw [hV]; exact ext_by
  have HS1 := Lib.hid fun W (hW : Ext V W) => Bodies.ext (E1.trans hW) hs1
  rw [← hz]
  clear hc_w1 hf_w1 hz_w1 hc_w2 hf_w2 hz_w2
  clear hV hz h1 h2 E1 hs1
  have c_B1 := B1.cell; have f_B1 := B1.frozen; have l_B1 := B1.lt; have c_B2 := B2.cell; have f_B2 := B2.frozen; have l_B2 := B2.lt; have c_B3 := B3.cell; have f_B3 := B3.frozen; have l_B3 := B3.lt
  refine (HP1.out A1 1 c1 V (HS1.out V (Ext.refl _))).mono ?_
  rintro e V2 ⟨rfl, h2⟩
  have e2 := h2
  clear c_B1 f_B1 l_B1; replace B1 := B1.ext h2; clear c_B2 f_B2 l_B2; replace B2 := B2.ext h2; clear c_B3 f_B3 l_B3; replace B3 := B3.ext h2; replace E := Ext.trans E h2; clear h2; have c_B1 := B1.cell; have f_B1 := B1.frozen; have l_B1 := B1.lt; have c_B2 := B2.cell; have f_B2 := B2.frozen; have l_B2 := B2.lt; have c_B3 := B3.cell; have f_B3 := B3.frozen; have l_B3 := B3.lt
  go_wp2_with fail
  refine (HP2.out A1 1 c1 V2 (HS1.out V2 e2)).mono ?_
  rintro e V3 ⟨rfl, h3⟩
  have e3 := e2.trans h3
  clear c_B1 f_B1 l_B1; replace B1 := B1.ext h3; clear c_B2 f_B2 l_B2; replace B2 := B2.ext h3; clear c_B3 f_B3 l_B3; replace B3 := B3.ext h3; replace E := Ext.trans E h3; clear h3; have c_B1 := B1.cell; have f_B1 := B1.frozen; have l_B1 := B1.lt; have c_B2 := B2.cell; have f_B2 := B2.frozen; have l_B2 := B2.lt; have c_B3 := B3.cell; have f_B3 := B3.frozen; have l_B3 := B3.lt
  clear e2
  go_wp2_with fail
  have hst := fun W (h : Blk W V3.heap.size 30 #[.int .i64 0, .int .i64 0, .int .i64 5, .int .i64 0, .int .i64 6, .int .i64 (-1), .int .i64 6, .int .i64 (-1), .int .i64 12, .int .i64 0, .int .i64 6, .int .i64 2]) => st_slice (w := W) [⟨0, 0, 5, 0⟩, ⟨6, -1, 6, -1⟩, ⟨12, 0, 6, 2⟩] h (by decide)
  refine (HTR.out A1 1 c1 _ _ (HS1.out _ (e3.trans (Ext.alloc0 _ _))) (hst _ (Blk.newAt rfl))).mono ?_
  rintro e V4 ⟨rfl, h4⟩
  have h4' := (Ext.alloc0 _ _).trans h4
  clear h4 hst e3
  clear c_B1 f_B1 l_B1; replace B1 := B1.ext h4'; clear c_B2 f_B2 l_B2; replace B2 := B2.ext h4'; clear c_B3 f_B3 l_B3; replace B3 := B3.ext h4'; replace E := Ext.trans E h4'; clear h4'; have c_B1 := B1.cell; have f_B1 := B1.frozen; have l_B1 := B1.lt; have c_B2 := B2.cell; have f_B2 := B2.frozen; have l_B2 := B2.lt; have c_B3 := B3.cell; have f_B3 := B3.frozen; have l_B3 := B3.lt
  clear HP1 HP2 HTR HS1
  clear c_B1 f_B1 l_B1 c_B2 f_B2 l_B2 c_B3 f_B3 l_B3
  clear B1 B2 B3
  go_wp2_with fail
  refine (HSH.out V4).mono ?_
  rintro e V5 ⟨rfl, h5⟩
  replace E := E.trans h5
  clear h5
  go_wp2_with fail
  refine (HSP.out V5).mono ?_
  rintro e V6 ⟨rfl, h6⟩
  replace E := E.trans h6
  clear h6 HSP
  go_wp2_with fail
  refine name_w _ ?_
  intro V hV
  obtain ⟨z4, hz4⟩ : ∃ z, z = V6.heap.size := ⟨_, rfl⟩
  have B4 : Blk V z4 38 #[.int .i64 0, .int .i64 5, .int .i64 0, .int .i64 3, .int .i64 5, .int .i64 5, .int .i64 (-2), .int .i64 0] := by rw [hV]; exact (Blk.newAt hz4).alloc _
  have B5 : Blk V (z4 + 1) 38 #[.int .i64 6, .int .i64 10, .int .i64 0, .int .i64 3, .int .i64 5, .int .i64 5, .int .i64 (-2), .int .i64 0] := by rw [hV]; exact Blk.newAt (by simp [hz4])
  replace E : Ext w V := by rw [hV]; exact ext_by
  rw [← hz4]
  clear hV hz4
  have c_B4 := B4.cell; have f_B4 := B4.frozen; have l_B4 := B4.lt; have c_B5 := B5.cell; have f_B5 := B5.frozen; have l_B5 := B5.lt
  refine wp_region_text (by kernel_rfl) (by kernel_rfl) ?_
  (repeat' (first | (refine bl_off (by rfl) ?_; simp only [putX]) | (apply bl_op; rfl; (intro w1 h1; obtain ⟨hc, hf, hz⟩ := bcell h1; go_simp; (try go_bits); (first | exact ⟨rfl, Ext.refl _⟩ | (apply gives_call; go_at_call 60; exact HSH.out _) | (go_invoke; go_simp; apply gives_call; go_at_call 60; exact HSH.out _))); simp only [putX]) | (refine bl_split rfl rfl (fun hx => ?_) (fun hx => ?_) <;> simp only [hx])))
  refine bl_nil ?_
  intro w7 h7
  obtain ⟨hc_w7, hf_w7, hz_w7⟩ := bcell h7; (try simp only [szA] at hz_w7); (try have := wz0 w w7); (try have := wz1 w w7); (try have := wz2 w w7); (try have := wz3 w w7); (try have := wz4 w w7)
  go_wp2_with fail
  clear c_B4 f_B4 l_B4; replace B4 := B4.ext h7; clear c_B5 f_B5 l_B5; replace B5 := B5.ext h7; replace E := Ext.trans E h7; clear h7; have c_B4 := B4.cell; have f_B4 := B4.frozen; have l_B4 := B4.lt; have c_B5 := B5.cell; have f_B5 := B5.frozen; have l_B5 := B5.lt
  clear hc_w7 hf_w7 hz_w7
  refine (HSH.out w7).mono ?_
  rintro e V8 ⟨rfl, h8⟩
  clear c_B4 f_B4 l_B4; replace B4 := B4.ext h8; clear c_B5 f_B5 l_B5; replace B5 := B5.ext h8; replace E := Ext.trans E h8; clear h8; have c_B4 := B4.cell; have f_B4 := B4.frozen; have l_B4 := B4.lt; have c_B5 := B5.cell; have f_B5 := B5.frozen; have l_B5 := B5.lt
  go_wp2_with fail
  refine (HCE.out V8).mono ?_
  rintro e V9 ⟨Ac, cc, rfl, hC, hcc, h9⟩
  clear c_B4 f_B4 l_B4; replace B4 := B4.ext h9; clear c_B5 f_B5 l_B5; replace B5 := B5.ext h9; replace E := Ext.trans E h9; clear h9; have c_B4 := B4.cell; have f_B4 := B4.frozen; have l_B4 := B4.lt; have c_B5 := B5.cell; have f_B5 := B5.frozen; have l_B5 := B5.lt
  obtain ⟨b, off, rfl, hcell⟩ := hC.at_ (by decide)
  have HC := Lib.hid hC
  have q0 : V9.cell? ⟨b, off, none⟩ = some (.int .i64 0) := (hcell 0 (by decide)).1
  have q1 : V9.cell? ⟨b, off + 1, none⟩ = some (.int .i64 2) := (hcell 0 (by decide)).2.1
  have q2 : V9.cell? ⟨b, off + 8, none⟩ = some (.int .i64 3) := (hcell 1 (by decide)).1
  have q3 : V9.cell? ⟨b, off + 8 + 1, none⟩ = some (.int .i64 5) := (hcell 1 (by decide)).2.1
  have q4 : V9.cell? ⟨b, off + 16, none⟩ = some (.int .i64 6) := (hcell 2 (by decide)).1
  have q5 : V9.cell? ⟨b, off + 16 + 1, none⟩ = some (.int .i64 10) := (hcell 2 (by decide)).2.1
  have hbl : b < V9.heap.size := World.block_lt_of_cell? V9 _ q0
  clear hcell hC
  go_wp2_with fail
  refine name_w _ ?_
  intro V10 hV10
  have B9 : Blk V10 V9.heap.size 87 #[.int .i64 2, .int .i64 1, .int .i64 0, .int .i64 0, .int .i64 0, .int .i64 0, .int .i64 0, .int .i64 0, .int .i64 5] := by rw [hV10]; exact Blk.newAt rfl
  have h10 : Ext V9 V10 := by rw [hV10]; exact ext_by
  have HC2 := Lib.hid fun W (hW : Ext V10 W) => Bxs.ext (h10.trans hW) HC.out
  have HS := Lib.hid fun W (hW : Ext V10 W) => uno_sight (x := ⟨2, 1, 0, 0, 0, 0, 0, 0, 5⟩) (B9.ext hW)
  generalize V9.heap.size = z9 at *
  clear c_B4 f_B4 l_B4; replace B4 := B4.ext h10; clear c_B5 f_B5 l_B5; replace B5 := B5.ext h10; replace E := Ext.trans E h10; clear h10; have c_B4 := B4.cell; have f_B4 := B4.frozen; have l_B4 := B4.lt; have c_B5 := B5.cell; have f_B5 := B5.frozen; have l_B5 := B5.lt
  clear hV10 B9 HC q0 q1 q2 q3 q4 q5 hbl HCE
  refine wp_region_free (by kernel_rfl) (by kernel_rfl) ?_
  refine fb_eff IsHeaven IsHeaven.stable rfl rfl (fun W hW => ?_) ?_
  · refine runs_call (f := 61) (args := #[]) (by go_simp) ((heaven_c W).mono ?_)
    rintro e w1 ⟨v, rfl, h1, h2⟩
    exact ⟨v, rfl, h1, h2⟩
  iterate 2 (apply fb_op; rfl; rfl; (intro w1 h1; obtain ⟨hc, hf, hz⟩ := bcell h1; go_simp; (try go_bits); (first | exact ⟨rfl, Ext.refl _⟩)); simp only [putX])
  refine (fb_slice (m := 2) (c := 2) (t := 38) (cs := #[.int .i64 0, .int .i64 5, .int .i64 0, .int .i64 3, .int .i64 5, .int .i64 5, .int .i64 (-2), .int .i64 0, .int .i64 6, .int .i64 10, .int .i64 0, .int .i64 3, .int .i64 5, .int .i64 5, .int .i64 (-2), .int .i64 0]) rfl rfl (fun w1 h1 => ?_) ?_)
  · go_simp
  (apply fb_op; rfl; rfl; (intro w1 h1; obtain ⟨hc, hf, hz⟩ := bcell h1; go_simp; (try go_bits); (first | exact ⟨rfl, Ext.refl _⟩)); simp only [putX])
  refine fb_use2_eff IsFil IsFil.stable rfl (fun u u' => rfl) (fun u u' W hW hg hg' => ?_) ?_
  · obtain ⟨b', rfl, hB⟩ := hg
    obtain ⟨A1', c1', A2', c2', A3', c3', rfl, hs⟩ := hg'
    simp only [putX]
    refine runs_call (f := 49) (args := #[.agg #[.slice A1' 1 c1', .int .i64 0, .slice A2' 1 c2', .slice A3' 1 c3'], .int .i64 0, .slice (some ⟨b', 0, none⟩) 2 2, .slice (some ⟨z9, 0, none⟩) 1 1]) (by go_simp) ((HFI.out A1' 1 c1' A2' 1 c2' A3' 1 c3' _ 2 2 _ 1 1 W hs (bx_slice (t := 38) [shownX, shownY] hB (by decide)) (HS.out W hW)).mono ?_)
    rintro e w1 ⟨v, rfl, ho, h⟩
    obtain ⟨A', c', rfl, hs', _⟩ := ho.cap
    exact ⟨_, rfl, ⟨A', c', rfl, hs'⟩, h⟩
  refine fb_use_eff IsFil IsFil.stable rfl (fun u => rfl) (fun u W hW hg => ?_) ?_
  · obtain ⟨A', c', rfl, h⟩ := hg
    simp only [putX]
    exact runs_val (by go_simp) ⟨⟨A', c', rfl, h⟩, Ext.refl _⟩
  refine fb_use_eff IsFilX IsFilX.stable rfl (fun u => rfl) (fun u W hW hg => ?_) ?_
  · obtain ⟨A', c', rfl, h⟩ := hg
    simp only [putX]
    exact runs_val (by go_simp) ⟨⟨A', c', rfl, h⟩, Ext.refl _⟩
  refine fb_use (v := .int .i64 0) rfl (fun u => rfl) (fun u W hW hg => ?_) ?_
  · obtain ⟨A', c', rfl, h⟩ := hg
    simp only [putX]
    go_simp
    exact ⟨rfl, Ext.refl _⟩
  simp only [putX]
  refine fb_use_eff IsFilX IsFilX.stable rfl (fun u => rfl) (fun u W hW hg => ?_) ?_
  · obtain ⟨A', c', rfl, h⟩ := hg
    simp only [putX]
    exact runs_val (by go_simp) ⟨⟨A', c', rfl, h⟩, Ext.refl _⟩
  (apply fb_op; rfl; rfl; (intro w1 h1; obtain ⟨hc, hf, hz⟩ := bcell h1; go_simp; (try go_bits); (first | exact ⟨rfl, Ext.refl _⟩)); simp only [putX])
  refine fb_nil ?_
  intro val w11 h11 hg
  obtain ⟨A11, c11, hv11, hF11⟩ := hg _ (List.Mem.head _)
  clear hg
  simp only [putV, Act.put, List.setIfInBounds_toArray, List.set_cons_zero, List.set_cons_succ, hv11]
  clear hv11
  generalize val 7 = x7
  generalize val 6 = x6
  generalize val 5 = x5
  generalize val 3 = x3
  generalize val 0 = x0
  have HC3 := Lib.hid fun W (hW : Ext w11 W) => HC2.out W (h11.trans hW)
  have HF3 := Lib.hid fun W (hW : Ext w11 W) => Bxs.ext hW hF11
  clear c_B4 f_B4 l_B4; replace B4 := B4.ext h11; clear c_B5 f_B5 l_B5; replace B5 := B5.ext h11; replace E := Ext.trans E h11; clear h11; have c_B4 := B4.cell; have f_B4 := B4.frozen; have l_B4 := B4.lt; have c_B5 := B5.cell; have f_B5 := B5.frozen; have l_B5 := B5.lt
  clear HC2 HS hF11 HFI
  go_wp2_with fail
  refine (HPA.out (some ⟨b, off, none⟩) 3 cc w11 (HC3.out w11 (Ext.refl _))).mono ?_
  rintro e w12 ⟨v12, rfl, ho12, h12⟩
  obtain ⟨A12, c12, rfl, hs12, _⟩ := ho12.cap
  have HC4 := Lib.hid fun W (hW : Ext w12 W) => HC3.out W (h12.trans hW)
  have HF4 := Lib.hid fun W (hW : Ext w12 W) => HF3.out W (h12.trans hW)
  have HG4 := Lib.hid fun W (hW : Ext w12 W) => Bxs.ext hW hs12
  clear c_B4 f_B4 l_B4; replace B4 := B4.ext h12; clear c_B5 f_B5 l_B5; replace B5 := B5.ext h12; replace E := Ext.trans E h12; clear h12; have c_B4 := B4.cell; have f_B4 := B4.frozen; have l_B4 := B4.lt; have c_B5 := B5.cell; have f_B5 := B5.frozen; have l_B5 := B5.lt
  clear HC3 HF3 hs12 ho12 HPA
  go_wp2_with fail
  refine (HHU.out (some ⟨b, off, none⟩) 3 cc w12 (HC4.out w12 (Ext.refl _)) hcc).mono ?_
  rintro e w13 ⟨rfl, h13⟩
  have HF5 := Lib.hid fun W (hW : Ext w13 W) => HF4.out W (h13.trans hW)
  have HG5 := Lib.hid fun W (hW : Ext w13 W) => HG4.out W (h13.trans hW)
  clear c_B4 f_B4 l_B4; replace B4 := B4.ext h13; clear c_B5 f_B5 l_B5; replace B5 := B5.ext h13; replace E := Ext.trans E h13; clear h13; have c_B4 := B4.cell; have f_B4 := B4.frozen; have l_B4 := B4.lt; have c_B5 := B5.cell; have f_B5 := B5.frozen; have l_B5 := B5.lt
  clear HC4 HF4 HG4 HHU
  go_wp2_with fail
  refine name_w _ ?_
  intro V14 hV14
  obtain ⟨z14, hz14⟩ : ∃ z, z = w13.heap.size := ⟨_, rfl⟩
  have B6 : Blk V14 z14 38 #[.int .i64 0, .int .i64 10, .int .i64 0, .int .i64 3, .int .i64 5, .int .i64 5, .int .i64 (-2), .int .i64 0] := by rw [hV14]; exact Blk.newAt hz14
  have h14 : Ext w13 V14 := by rw [hV14]; exact ext_by
  rw [← hz14]
  have HF6 := Lib.hid fun W (hW : Ext V14 W) => HF5.out W (h14.trans hW)
  have HG6 := Lib.hid fun W (hW : Ext V14 W) => HG5.out W (h14.trans hW)
  clear c_B4 f_B4 l_B4; replace B4 := B4.ext h14; clear c_B5 f_B5 l_B5; replace B5 := B5.ext h14; replace E := Ext.trans E h14; clear h14; have c_B4 := B4.cell; have f_B4 := B4.frozen; have l_B4 := B4.lt; have c_B5 := B5.cell; have f_B5 := B5.frozen; have l_B5 := B5.lt
  clear hV14 hz14 HF5 HG5
  have c_B6 := B6.cell; have f_B6 := B6.frozen; have l_B6 := B6.lt
  refine wp_region_free (by kernel_rfl) (by kernel_rfl) ?_
  (repeat' (first | (refine fb_off (by rfl) (by rfl) ?_; simp only [putX]) | (apply fb_op; rfl; rfl; (intro w1 h1; obtain ⟨hc, hf, hz⟩ := bcell h1; go_simp; (try go_bits); (first | exact ⟨rfl, Ext.refl _⟩ | (apply gives_call; first | (go_at_call 60; exact HSH.out _) | (go_at_call 17; exact HA.out _)) | (go_invoke; go_simp; apply gives_call; first | (go_at_call 60; exact HSH.out _) | (go_at_call 17; exact HA.out _)))); simp only [putX]) | (apply fb_slice; rfl; rfl; (intro w1 h1; obtain ⟨hc, hf, hz⟩ := bcell h1; go_simp; first | rfl | exact ⟨⟨rfl, rfl⟩, rfl⟩)) | (apply fb_use; rfl; (intro u; rfl); (rintro u w1 h1 ⟨b, rfl, hB⟩; obtain ⟨hc, hf, hz⟩ := bcell h1; go_simp; (first | exact ⟨rfl, Ext.refl _⟩ | (apply gives_call; first | (go_at_call 27; exact HSB.out _ _ _ _ _ _ [shownX] _ (HF6.out _ ext_by) (bx_slice (t := 38) [shownX] hB (by decide))) | (go_at_call 27; exact HSB.out _ _ _ _ _ _ [shownB] _ (HG6.out _ ext_by) (bx_slice (t := 38) [shownB] hB (by decide)))) | (go_invoke; go_simp; apply gives_call; first | (go_at_call 27; exact HSB.out _ _ _ _ _ _ [shownX] _ (HF6.out _ ext_by) (bx_slice (t := 38) [shownX] hB (by decide))) | (go_at_call 27; exact HSB.out _ _ _ _ _ _ [shownB] _ (HG6.out _ ext_by) (bx_slice (t := 38) [shownB] hB (by decide)))))); simp only [putX]) | (refine fb_split rfl rfl (fun hx => ?_) (fun hx => ?_) <;> simp only [hx])))
  refine fb_nil ?_
  (intro val w15 h15 hg; clear hg; simp only [putV, Act.put, List.setIfInBounds_toArray, List.set_cons_zero, List.set_cons_succ])
  obtain ⟨hc_w15, hf_w15, hz_w15⟩ := bcell h15; (try simp only [szA] at hz_w15); (try have := wz0 w w15); (try have := wz1 w w15); (try have := wz2 w w15); (try have := wz3 w w15); (try have := wz4 w w15)
  go_wp2_with fail
  go_ret
  exact ⟨rfl, E.trans ext_by⟩
end Go.Proofs.YtfniicgoeljmdaaGreat
