/- Light, heat, and sums of areas: the program. No condition. -/
import Derived.Test.YtfniicgoeljmdaaGreatForceOf
import Derived.Test.YtfniicgoeljmdaaGreatOwnInts
namespace Go.Proofs.YtfniicgoeljmdaaGreat
open Go.RowKit

theorem part_bd (a b : Sp) : -1152921504606846976 ≤ (partM a b).lo ∧ (partM a b).lo ≤ 1152921504606846976 ∧ -1152921504606846976 ≤ (partM a b).hi ∧ (partM a b).hi ≤ 1152921504606846976 := by
  have := partM_sm a b
  unfold Sm at this; omega
set_option maxHeartbeats 1000000 in
theorem fPart_c (al ah bl bh : Int) (w : World) :
    Calls Tryz.prog 203 #[.agg #[.int .i64 al, .int .i64 ah], .agg #[.int .i64 bl, .int .i64 bh]] w fun e w' => e = .returned (.agg #[.int .i64 (partM ⟨al, ah⟩ ⟨bl, bh⟩).lo, .int .i64 (partM ⟨al, ah⟩ ⟨bl, bh⟩).hi]) ∧ Ext w w' := by
  have H1 := Lib.hid fun W => fMul_c al ah bl bh W
  unfold partM
  generalize mulS _ _ = m at *
  obtain ⟨ml, mh⟩ := m
  have H2 := Lib.hid fun W => fOne_c 1000 W
  have H3 := Lib.hid fun W => fQuot_c ml mh 1000 1000 W
  generalize quotS _ _ = q at *
  obtain ⟨ql, qh⟩ := q
  dsimp only at H1 H3
  go_enter Tryz.func203, Tryz.ntmps203
  go_wp2_with fail
  refine (H1.out _).mono ?_
  rintro e w1 ⟨rfl, h1⟩
  obtain ⟨hc_w1, hf_w1, hz_w1⟩ := bcell h1; (try simp only [szA] at hz_w1); (try have := wz0 w w1); (try have := wz1 w w1); (try have := wz2 w w1); (try have := wz3 w w1); (try have := wz4 w w1)
  go_wp2_with fail
  refine (H2.out _).mono ?_
  rintro e w2 ⟨rfl, h2⟩
  obtain ⟨hc_w2, hf_w2, hz_w2⟩ := bcell h2; (try simp only [szA] at hz_w2); (try have := wz0 w w2); (try have := wz1 w w2); (try have := wz2 w w2); (try have := wz3 w w2); (try have := wz4 w w2)
  go_wp2_with fail
  refine (H3.out _).mono ?_
  rintro e w3 ⟨rfl, h3⟩
  obtain ⟨hc_w3, hf_w3, hz_w3⟩ := bcell h3; (try simp only [szA] at hz_w3); (try have := wz0 w w3); (try have := wz1 w w3); (try have := wz2 w w3); (try have := wz3 w w3); (try have := wz4 w w3)
  go_wp2_with fail
  (try simp only [Exit.inBlock, Exit.then]); apply bodyPost_ret; (focus (simp only [results, Tryz.results203]; go_simp; try rfl)); rfl
  exact ⟨rfl, ext_by⟩
set_option maxRecDepth 20000 in
set_option maxHeartbeats 4000000 in
theorem fLight_c (d : Drf) (s : Ar) (w : World) :
    Calls Tryz.prog 162 #[.agg #[.int .i64 d.light.lo, .int .i64 d.light.hi, .int .i64 d.heat.lo, .int .i64 d.heat.hi, .int .i64 d.gas], .agg #[.int .i64 s.x.lo, .int .i64 s.x.hi, .int .i64 s.y.lo, .int .i64 s.y.hi]] w fun e w' => e = .returned (arV (lightM d s)) ∧ Ext w w' := by
  obtain ⟨⟨ll, lh⟩, ⟨hl, hh⟩, g⟩ := d
  obtain ⟨⟨xl, xh⟩, yl, yh⟩ := s
  unfold lightM minusS
  dsimp only
  go_enter Tryz.func162, Tryz.ntmps162
  go_wp2_with fail
  refine wp_region_forced 13 (Ext _) (Stable.ext _) (Ext.drew (Ext.refl _)) (by kernel_rfl) (by kernel_rfl) ?_
  simp only [List.take_succ_cons, List.take_zero, List.drop_succ_cons, List.drop_zero]
  (repeat' (first | (refine bl_off (by rfl) ?_; simp only [putX]) | (apply bl_op; rfl; (intro w1 h1; obtain ⟨hc, hf, hz⟩ := bcell h1; go_simp; (try go_bits); (first | exact ⟨rfl, Ext.refl _⟩ | (apply gives_call; first | (go_at_call 203; exact fPart_c _ _ _ _ _) | (go_at_call 202; exact fMinus_c _ _ _ (part_bd _ _))) | (go_invoke; go_simp; apply gives_call; first | (go_at_call 203; exact fPart_c _ _ _ _ _) | (go_at_call 202; exact fMinus_c _ _ _ (part_bd _ _))))); simp only [putX]) | (refine bl_split rfl rfl (fun hx => ?_) (fun hx => ?_) <;> simp only [hx])))
  refine bl_nil ?_
  intro w1 h1
  obtain ⟨hc_w1, hf_w1, hz_w1⟩ := bcell h1; (try simp only [szA] at hz_w1); (try have := wz0 w w1); (try have := wz1 w w1); (try have := wz2 w w1); (try have := wz3 w w1); (try have := wz4 w w1)
  go_wp2_with fail
  (try simp only [Exit.inBlock, Exit.then]); apply bodyPost_ret; (focus (simp only [results, Tryz.results162]; go_simp; try rfl)); rfl
  exact ⟨rfl, ext_by⟩
set_option maxRecDepth 20000 in
set_option maxHeartbeats 4000000 in
theorem fHeat_c (d : Drf) (s : Ar) (w : World) :
    Calls Tryz.prog 163 #[.agg #[.int .i64 d.light.lo, .int .i64 d.light.hi, .int .i64 d.heat.lo, .int .i64 d.heat.hi, .int .i64 d.gas], .agg #[.int .i64 s.x.lo, .int .i64 s.x.hi, .int .i64 s.y.lo, .int .i64 s.y.hi]] w fun e w' => e = .returned (arV (heatM d s)) ∧ Ext w w' := by
  obtain ⟨⟨ll, lh⟩, ⟨hl, hh⟩, g⟩ := d
  obtain ⟨⟨xl, xh⟩, yl, yh⟩ := s
  unfold heatM minusS
  dsimp only
  go_enter Tryz.func163, Tryz.ntmps163
  go_wp2_with fail
  refine wp_region_forced 12 (Ext _) (Stable.ext _) (Ext.drew (Ext.refl _)) (by kernel_rfl) (by kernel_rfl) ?_
  simp only [List.take_succ_cons, List.take_zero, List.drop_succ_cons, List.drop_zero]
  (repeat' (first | (refine bl_off (by rfl) ?_; simp only [putX]) | (apply bl_op; rfl; (intro w1 h1; obtain ⟨hc, hf, hz⟩ := bcell h1; go_simp; (try go_bits); (first | exact ⟨rfl, Ext.refl _⟩ | (apply gives_call; first | (go_at_call 203; exact fPart_c _ _ _ _ _) | (go_at_call 202; exact fMinus_c _ _ _ (part_bd _ _))) | (go_invoke; go_simp; apply gives_call; first | (go_at_call 203; exact fPart_c _ _ _ _ _) | (go_at_call 202; exact fMinus_c _ _ _ (part_bd _ _))))); simp only [putX]) | (refine bl_split rfl rfl (fun hx => ?_) (fun hx => ?_) <;> simp only [hx])))
  refine bl_nil ?_
  intro w1 h1
  obtain ⟨hc_w1, hf_w1, hz_w1⟩ := bcell h1; (try simp only [szA] at hz_w1); (try have := wz0 w w1); (try have := wz1 w w1); (try have := wz2 w w1); (try have := wz3 w w1); (try have := wz4 w w1)
  go_wp2_with fail
  (try simp only [Exit.inBlock, Exit.then]); apply bodyPost_ret; (focus (simp only [results, Tryz.results163]; go_simp; try rfl)); rfl
  exact ⟨rfl, ext_by⟩
set_option maxRecDepth 20000 in
set_option maxHeartbeats 4000000 in
theorem fAlone_c (x y : Int) (w : World) :
    Calls Tryz.prog 157 #[.agg #[.int .i64 x, .int .i64 y]] w fun e w' => e = .returned (.agg #[.int .i64 x, .int .i64 x, .int .i64 y, .int .i64 y]) ∧ Ext w w' := by
  go_enter Tryz.func157, Tryz.ntmps157
  go_wp2_with fail
  refine wp_region_forced 7 (Ext _) (Stable.ext _) (Ext.drew (Ext.refl _)) (by kernel_rfl) (by kernel_rfl) ?_
  simp only [List.take_succ_cons, List.take_zero, List.drop_succ_cons, List.drop_zero]
  (repeat' (first | (refine bl_off (by rfl) ?_; simp only [putX]) | (apply bl_op; rfl; (intro w1 h1; obtain ⟨hc, hf, hz⟩ := bcell h1; go_simp; (try go_bits); (first | exact ⟨rfl, Ext.refl _⟩ | (apply gives_call; first | (go_at_call 196; exact fOne_c _ _)) | (go_invoke; go_simp; apply gives_call; first | (go_at_call 196; exact fOne_c _ _)))); simp only [putX]) | (refine bl_split rfl rfl (fun hx => ?_) (fun hx => ?_) <;> simp only [hx])))
  refine bl_nil ?_
  intro w1 h1
  obtain ⟨hc_w1, hf_w1, hz_w1⟩ := bcell h1; (try simp only [szA] at hz_w1); (try have := wz0 w w1); (try have := wz1 w w1); (try have := wz2 w w1); (try have := wz3 w w1); (try have := wz4 w w1)
  go_wp2_with fail
  (try simp only [Exit.inBlock, Exit.then]); apply bodyPost_ret; (focus (simp only [results, Tryz.results157]; go_simp; try rfl)); rfl
  exact ⟨rfl, ext_by⟩
theorem fAdd2_c (a b : Sp) (B : Nat) (T : TypeId) (W : World) (ha : Sm 72057594037927936 a) (hb : Sm 72057594037927936 b) (hB : Blk W B T #[.int .i64 a.lo, .int .i64 a.hi, .int .i64 b.lo, .int .i64 b.hi]) :
    Calls Tryz.prog 201 #[.slice (some ⟨B, 0, none⟩) 2 2] W fun e w' => e = .returned (.agg #[.int .i64 (a.lo + b.lo), .int .i64 (a.hi + b.hi)]) ∧ Ext W w' := by
  have h := fAdd_c (some ⟨B, 0, none⟩) 2 2 [a, b] W (sp_slice [a, b] hB (by simp)) (by intro s hs; simp only [List.mem_cons, List.not_mem_nil, or_false] at hs; rcases hs with rfl | rfl <;> assumption) (by simp)
  have e : ([a, b] : List Sp).foldl sumS ⟨0, 0⟩ = ⟨a.lo + b.lo, a.hi + b.hi⟩ := by simp [sumS]
  rw [e] at h
  exact h
set_option maxRecDepth 20000 in
set_option maxHeartbeats 8000000 in
theorem fSum_c (A : Option Addr) (n c : Nat) (l : List Ar) (w : World) (hl : Ars w A n l) (hs : ∀ s ∈ l, SmA 36028797018963968 s) (hT : ∀ k, SmA 72057594037927936 ((l.take k).foldl sumA ⟨⟨0, 0⟩, ⟨0, 0⟩⟩)) :
    Calls Tryz.prog 161 #[.slice A n c] w fun e w' => e = .returned (arV (l.foldl sumA ⟨⟨0, 0⟩, ⟨0, 0⟩⟩)) ∧ Ext w w' := by
  have hn := hl.le
  have hln := Lib.hid hl.len
  have HS := Lib.hid hs
  have HT := Lib.hid hT
  clear hs hT
  obtain ⟨T, hTe⟩ : ∃ T, l.foldl sumA ⟨⟨0, 0⟩, ⟨0, 0⟩⟩ = T := ⟨_, rfl⟩
  rw [hTe]
  have HTe := Lib.hid hTe
  clear hTe
  go_enter Tryz.func161, Tryz.ntmps161
  go_wp2_with fail
  go_loopw [8] (fun i wr => ∃ (k : Nat) (o : Ar), k ≤ n ∧ i = .int .i64 k ∧ Hid ((l.take k).foldl sumA ⟨⟨0, 0⟩, ⟨0, 0⟩⟩ = o) ∧ Hid (Blk wr w.heap.size 112 #[.int .i64 0, .int .i64 0, .int .i64 0, .int .i64 0]) ∧ Hid (Blk wr (w.heap.size + 1) 112 #[.int .i64 o.x.lo, .int .i64 o.x.hi, .int .i64 o.y.lo, .int .i64 o.y.hi]) ∧ Ext w wr) (fun i _ => n - (intOf i).toNat)
  case atStart => exact ⟨0, ⟨⟨0, 0⟩, ⟨0, 0⟩⟩, Nat.zero_le _, rfl, rfl, Lib.hid ((Blk.newAt rfl).alloc _), Lib.hid (Blk.newAt (by simp)), ext_by⟩
  case round =>
    obtain ⟨k, o, hk, rfl, HI, HB0, HB1, hb⟩ := hrel
    have hc0 := HB0.out.cell
    have hc1 := HB1.out.cell
    have hf0 := HB0.out.frozen
    have hl0 := HB0.out.lt
    have hl1 := HB1.out.lt
    by_cases hlt : k < n
    · obtain ⟨b, off, x, rfl, HD, hxm, hx⟩ := hl.one hlt
      obtain ⟨hx0, hx1, hx2, hx3⟩ := arAt.ext hb hx
      have hbl : b < wr.heap.size := World.block_lt_of_cell? wr _ hx0
      have hstep : (l.take (k + 1)).foldl sumA ⟨⟨0, 0⟩, ⟨0, 0⟩⟩ = sumA o x := by
        rw [take_snoc HD.out, List.foldl_append, HI.out]; rfl
      have ho := HT.out k
      rw [HI.out] at ho
      have hxs := (HS.out x hxm).mono (show (36028797018963968 : Int) ≤ 72057594037927936 by omega)
      obtain ⟨⟨oxl, oxh⟩, oyl, oyh⟩ := o
      obtain ⟨⟨xxl, xxh⟩, xyl, xyh⟩ := x
      have HA := Lib.hid fun (p q r s : Int) B T W (hB : Blk W B T #[.int .i64 p, .int .i64 q, .int .i64 r, .int .i64 s]) (h : (p = oxl ∧ q = oxh ∧ r = xxl ∧ s = xxh) ∨ (p = oyl ∧ q = oyh ∧ r = xyl ∧ s = xyh)) =>
        fAdd2_c ⟨p, q⟩ ⟨r, s⟩ B T W (by rcases h with ⟨rfl, rfl, rfl, rfl⟩ | ⟨rfl, rfl, rfl, rfl⟩; exact ho.1; exact ho.2) (by rcases h with ⟨rfl, rfl, rfl, rfl⟩ | ⟨rfl, rfl, rfl, rfl⟩; exact hxs.1; exact hxs.2) hB
      have Hstep := Lib.hid hstep
      clear ho hxs hstep hxm hx HI
      go_wp2_with fail
      refine name_world _ ?_
      intro W hW
      have B2 : Blk W w.heap.size 112 #[.int .i64 0, .int .i64 0, .int .i64 0, .int .i64 0] := by rw [hW]; exact HB0.out.alloc _
      have B3 : Blk W (w.heap.size + 1) 112 #[.int .i64 oxl, .int .i64 oxh, .int .i64 oyl, .int .i64 oyh] := by rw [hW]; exact HB1.out.alloc _
      obtain ⟨b5, h5⟩ : ∃ b, b = wr.heap.size := ⟨_, rfl⟩
      have B5 : Blk W b5 112 #[.int .i64 xxl, .int .i64 xxh, .int .i64 xyl, .int .i64 xyh] := by rw [hW]; exact Blk.newAt h5
      have E5 : Ext w W := by rw [hW]; exact hb.alloc _
      rw [← h5]
      have o5 : w.heap.size + 1 < b5 := by omega
      clear hc0 hc1 hf0 hl0 hl1 hW h5 hx0 hx1 hx2 hx3 hbl HB0 HB1
      have c3 := B3.cell
      have c5 := B5.cell
      have l3 := B3.lt
      have l5 := B5.lt
      have f3 := B3.frozen
      have hA1 := HA.out oxl oxh xxl xxh
      have hA2 := HA.out oyl oyh xyl xyh
      have HA1 := Lib.hid fun B T W hB => hA1 B T W hB (.inl ⟨rfl, rfl, rfl, rfl⟩)
      have HA2 := Lib.hid fun B T W hB => hA2 B T W hB (.inr ⟨rfl, rfl, rfl, rfl⟩)
      clear hA1 hA2 HA c3 c5 l3 l5 f3
      refine wp_region_relT [] [⟨0, [], none⟩, ⟨1, [0], none⟩, ⟨2, [], none⟩, ⟨3, [2], none⟩, ⟨4, [1, 3], none⟩, ⟨5, [4], none⟩, ⟨6, [], none⟩, ⟨7, [6], none⟩, ⟨8, [], none⟩, ⟨9, [8], none⟩, ⟨10, [7, 9], none⟩, ⟨11, [10], none⟩, ⟨12, [5, 11], none⟩]
        [(⟨0, [], none⟩, fun _ v _ => v = .pointer (some ⟨w.heap.size + 1, 0, none⟩)),
         (⟨1, [0], none⟩, fun _ v _ => v = .agg #[.int .i64 oxl, .int .i64 oxh]),
         (⟨2, [], none⟩, fun _ v _ => v = .pointer (some ⟨b5, 0, none⟩)),
         (⟨3, [2], none⟩, fun _ v _ => v = .agg #[.int .i64 xxl, .int .i64 xxh]),
         (⟨4, [1, 3], none⟩, fun _ v w => ∃ b, v = .slice (some ⟨b, 0, none⟩) 2 2 ∧ Blk w b 26 #[.int .i64 oxl, .int .i64 oxh, .int .i64 xxl, .int .i64 xxh]),
         (⟨5, [4], none⟩, fun _ v _ => v = .agg #[.int .i64 (oxl + xxl), .int .i64 (oxh + xxh)]),
         (⟨6, [], none⟩, fun _ v _ => v = .pointer (some ⟨w.heap.size + 1, 2, none⟩)),
         (⟨7, [6], none⟩, fun _ v _ => v = .agg #[.int .i64 oyl, .int .i64 oyh]),
         (⟨8, [], none⟩, fun _ v _ => v = .pointer (some ⟨b5, 2, none⟩)),
         (⟨9, [8], none⟩, fun _ v _ => v = .agg #[.int .i64 xyl, .int .i64 xyh]),
         (⟨10, [7, 9], none⟩, fun _ v w => ∃ b, v = .slice (some ⟨b, 0, none⟩) 2 2 ∧ Blk w b 26 #[.int .i64 oyl, .int .i64 oyh, .int .i64 xyl, .int .i64 xyh]),
         (⟨11, [10], none⟩, fun _ v _ => v = .agg #[.int .i64 (oyl + xyl), .int .i64 (oyh + xyh)]),
         (⟨12, [5, 11], none⟩, fun _ v _ => v = .agg #[.int .i64 (oxl + xxl), .int .i64 (oxh + xxh), .int .i64 (oyl + xyl), .int .i64 (oyh + xyh)])]
        [13] (fun _ => True) (Ext W) (Stable.ext _) (fun _ _ => trivial) (Ext.drew (Ext.refl _)) (by kernel_rfl) rfl (by kernel_rfl) ?_
      simp only [pick, List.drop_succ_cons, List.drop_zero]
      refine bl_nil ?_
      simp only [obF, finF, useF, useEq, spoilF, getG, Nat.reduceEqDiff, reduceIte, putP, pick1, List.drop_succ_cons, List.drop_zero, List.map_cons, List.map_nil, spoils, List.all_cons, List.all_nil, Bool.not_false, Bool.and_true]
      refine ⟨⟨?_, ?_, ?_, ?_, ?_, ?_, ?_, ?_, ?_, ?_, ?_, ?_, ?_, trivial⟩, ?_⟩
      · exact ⟨fun _ _ _ _ h _ => h, fun _ _ _ _ _ h => h, fun val w hw _ => runs_val (by go_simp) ⟨rfl, Ext.refl _⟩⟩
      · refine ⟨fun _ _ _ _ h _ => h, fun _ _ _ _ _ h => h, fun val w hw hu => ?_⟩
        obtain ⟨h0, _⟩ := hu
        rw [h0]
        simp only [putX]
        have c3 := (B3.ext hw).cell
        have l3 := (B3.ext hw).lt
        exact runs_val (by go_simp) ⟨rfl, Ext.refl _⟩
      · exact ⟨fun _ _ _ _ h _ => h, fun _ _ _ _ _ h => h, fun val w hw _ => runs_val (by go_simp) ⟨rfl, Ext.refl _⟩⟩
      · refine ⟨fun _ _ _ _ h _ => h, fun _ _ _ _ _ h => h, fun val w hw hu => ?_⟩
        obtain ⟨h0, _⟩ := hu
        rw [h0]
        simp only [putX]
        have c3 := (B5.ext hw).cell
        have l3 := (B5.ext hw).lt
        exact runs_val (by go_simp) ⟨rfl, Ext.refl _⟩
      · refine ⟨fun _ _ _ _ ⟨b, h1, h2⟩ e => ⟨b, h1, h2.ext e⟩, fun _ _ _ _ _ h => h, fun val w hw hu => ?_⟩
        obtain ⟨h0, h1, _⟩ := hu
        rw [h0, h1]
        simp only [putX]
        exact runs_to (w1 := w.alloc (.cells #[.int .i64 oxl, .int .i64 oxh, .int .i64 xxl, .int .i64 xxh] 26)) (by go_simp) ⟨⟨_, rfl, Blk.new _ _ _⟩, Ext.alloc0 _ _⟩
      · refine ⟨fun _ _ _ _ h _ => h, fun _ _ _ _ _ h => h, fun val w hw hu => ?_⟩
        obtain ⟨⟨b4, h1, h2⟩, _⟩ := hu
        rw [h1]
        simp only [putX]
        refine runs_call (f := 201) (args := #[.slice (some ⟨b4, 0, none⟩) 2 2]) (by go_simp) ((HA1.out b4 _ w h2).mono ?_)
        rintro e w1 ⟨rfl, h⟩
        exact ⟨_, rfl, rfl, h⟩
      · exact ⟨fun _ _ _ _ h _ => h, fun _ _ _ _ _ h => h, fun val w hw _ => runs_val (by go_simp) ⟨rfl, Ext.refl _⟩⟩
      · refine ⟨fun _ _ _ _ h _ => h, fun _ _ _ _ _ h => h, fun val w hw hu => ?_⟩
        obtain ⟨h0, _⟩ := hu
        rw [h0]
        simp only [putX]
        have c3 := (B3.ext hw).cell
        have l3 := (B3.ext hw).lt
        exact runs_val (by go_simp) ⟨rfl, Ext.refl _⟩
      · exact ⟨fun _ _ _ _ h _ => h, fun _ _ _ _ _ h => h, fun val w hw _ => runs_val (by go_simp) ⟨rfl, Ext.refl _⟩⟩
      · refine ⟨fun _ _ _ _ h _ => h, fun _ _ _ _ _ h => h, fun val w hw hu => ?_⟩
        obtain ⟨h0, _⟩ := hu
        rw [h0]
        simp only [putX]
        have c3 := (B5.ext hw).cell
        have l3 := (B5.ext hw).lt
        exact runs_val (by go_simp) ⟨rfl, Ext.refl _⟩
      · refine ⟨fun _ _ _ _ ⟨b, h1, h2⟩ e => ⟨b, h1, h2.ext e⟩, fun _ _ _ _ _ h => h, fun val w hw hu => ?_⟩
        obtain ⟨h0, h1, _⟩ := hu
        rw [h0, h1]
        simp only [putX]
        exact runs_to (w1 := w.alloc (.cells #[.int .i64 oyl, .int .i64 oyh, .int .i64 xyl, .int .i64 xyh] 26)) (by go_simp) ⟨⟨_, rfl, Blk.new _ _ _⟩, Ext.alloc0 _ _⟩
      · refine ⟨fun _ _ _ _ h _ => h, fun _ _ _ _ _ h => h, fun val w hw hu => ?_⟩
        obtain ⟨⟨b4, h1, h2⟩, _⟩ := hu
        rw [h1]
        simp only [putX]
        refine runs_call (f := 201) (args := #[.slice (some ⟨b4, 0, none⟩) 2 2]) (by go_simp) ((HA2.out b4 _ w h2).mono ?_)
        rintro e w1 ⟨rfl, h⟩
        exact ⟨_, rfl, rfl, h⟩
      · refine ⟨fun _ _ _ _ h _ => h, fun _ _ _ _ _ h => h, fun val w hw hu => ?_⟩
        obtain ⟨h0, h1, _⟩ := hu
        rw [h0, h1]
        simp only [putX]
        exact runs_val (by go_simp) ⟨rfl, Ext.refl _⟩
      · intro val
        refine tg_skip (fun W' => Ext w W' ∧ Blk W' w.heap.size 112 #[.int .i64 0, .int .i64 0, .int .i64 0, .int .i64 0] ∧ Blk W' (w.heap.size + 1) 112 #[.int .i64 (oxl + xxl), .int .i64 (oxh + xxh), .int .i64 (oyl + xyl), .int .i64 (oyh + xyh)]) rfl rfl ((Stable.ext _).and ((Stable.blk _ _ _).and (Stable.blk _ _ _))) (fun _ _ => trivial) ?_ ?_
        · intro W1 hW1
          obtain ⟨hW1, hfin⟩ := hW1
          have c3 := (B3.ext hW1).cell
          have l3 := (B3.ext hW1).lt
          have f3 := (B3.ext hW1).frozen
          have c2 := B2.ext hW1
          have c3' := B3.ext hW1
          have e1 := E5.trans hW1
          obtain ⟨_, _, _, _, _, _, _, _, _, _, _, _, h12, _⟩ := hfin
          have h12 := h12 trivial
          simp only [putX]
          rw [h12]
          refine ⟨(((W1.setCell ⟨w.heap.size + 1, 0, none⟩ (.int .i64 (oxl + xxl))).setCell ⟨w.heap.size + 1, 1, none⟩ (.int .i64 (oxh + xxh))).setCell ⟨w.heap.size + 1, 2, none⟩ (.int .i64 (oyl + xyl))).setCell ⟨w.heap.size + 1, 3, none⟩ (.int .i64 (oyh + xyh)), by go_simp, ext_set2 (ext_set2 e1 (by omega)) (by omega), blk_far2 (blk_far2 c2 (by omega)) (by omega), blk_set2 (blk_set2 c3' rfl) rfl⟩
        · refine tg_nil ?_
          rintro w8 ⟨e8, b8, c8⟩
          go_wp2_with fail
          exact ⟨⟨k + 1, _, by omega, by go_num, Hstep.out, Lib.hid b8, Lib.hid c8, e8⟩, by simp [intOf]; omega⟩
    · have hkn : k = n := by omega
      have hi := HI.out
      rw [hkn, hln.out, List.take_length] at hi
      have hoT : o = T := hi.symm.trans HTe.out
      subst hoT
      obtain ⟨⟨oxl, oxh⟩, oyl, oyh⟩ := o
      clear hi HI HTe HT HS
      go_wp2_with fail
      (try simp only [Exit.inBlock, Exit.then]); apply bodyPost_ret; (focus (simp only [results, Tryz.results161]; go_simp; try rfl)); rfl
      exact ⟨rfl, ext_by⟩
end Go.Proofs.YtfniicgoeljmdaaGreat
