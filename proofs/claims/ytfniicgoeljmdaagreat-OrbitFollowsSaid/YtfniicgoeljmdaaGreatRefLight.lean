/- The pull of a body on an area: the reference. No condition. Light and heat: the reference. No condition. -/
import Derived.Test.YtfniicgoeljmdaaGreatRefScaled
import Derived.Test.YtfniicgoeljmdaaGreatForceAt
namespace Go.Proofs.YtfniicgoeljmdaaGreat
open Go.RowKit

set_option maxRecDepth 20000 in
set_option maxHeartbeats 8000000 in
theorem gOne_c (b off n c : Nat) (home : Int) (l : List Body) (k : Nat) (x : Body) (tick : Int) (a : Ar) (w : World) (hl : Bodies w (some ⟨b, off, none⟩) n l) (hx : l[k]? = some x) (hb : 0 ≤ x.mu ∧ x.mu ≤ 1125899906842624 ∧ 0 ≤ x.radius ∧ x.radius ≤ 1048576) (ha : SmA 33554432 a) :
    Calls Tryz.prog 167 #[.agg #[.slice (some ⟨b, off, none⟩) n c, .int .i64 home], .int .i64 (k : Int), .int .i64 tick, .agg #[.int .i64 a.x.lo, .int .i64 a.x.hi, .int .i64 a.y.lo, .int .i64 a.y.hi]] w fun e w' => e = .returned (arV (pullM x (atM l home k tick) a)) ∧ Ext w w' := by
  have hn := hl.le
  have hp := at_place l home tick k
  have HA := Lib.hid fun W (hW : Ext w W) => refAt_c (some ⟨b, off, none⟩) n c home k tick l W (Bodies.ext hW hl)
  obtain ⟨hkn, b', off', e, h0, h1, A', n', c', h2, _⟩ := hl.get hx
  injection e with e
  injection e with e1 e2 _
  subst e1 e2
  have v1 := toM_sm hp ha
  generalize atM l home k tick = p at *
  obtain ⟨px, py⟩ := p
  obtain ⟨mu, r, tr⟩ := x
  obtain ⟨⟨xl, xh⟩, yl, yh⟩ := a
  dsimp only at hb h0 h1 HA
  have q1 := qM_sm (r := r) ⟨hb.2.2.1, hb.2.2.2⟩ v1
  have HT := Lib.hid fun W => gTo_c px py xl xh yl yh W
  change Hid (∀ W, Calls _ _ _ W fun e w' => e = .returned (.tuple #[.agg #[.int .i64 (toM ⟨px, py⟩ ⟨⟨xl, xh⟩, yl, yh⟩).x.lo, .int .i64 (toM ⟨px, py⟩ ⟨⟨xl, xh⟩, yl, yh⟩).x.hi], .agg #[.int .i64 (toM ⟨px, py⟩ ⟨⟨xl, xh⟩, yl, yh⟩).y.lo, .int .i64 (toM ⟨px, py⟩ ⟨⟨xl, xh⟩, yl, yh⟩).y.hi]]) ∧ _) at HT
  unfold pullM
  dsimp only
  generalize toM ⟨px, py⟩ ⟨⟨xl, xh⟩, yl, yh⟩ = v at *
  obtain ⟨⟨vxl, vxh⟩, vyl, vyh⟩ := v
  have HD := Lib.hid fun (A : Option Addr) (n c : Nat) W => gDist_c mu r A n c vxl vxh vyl vyh W ⟨hb.2.2.1, hb.2.2.2⟩
  dsimp only at HT
  generalize qM r _ = q at *
  obtain ⟨ql, qh⟩ := q
  generalize rM _ = rr at *
  obtain ⟨rl, rh⟩ := rr
  have HS := Lib.hid fun (s t : Int) (h : (s = vxl ∧ t = vxh) ∨ (s = vyl ∧ t = vyh)) W => gScaled_c mu s t ql qh W ⟨hb.1, hb.2.1⟩ (by rcases h with ⟨rfl, rfl⟩ | ⟨rfl, rfl⟩; exact v1.1; exact v1.2) q1
  dsimp only at HD
  unfold towardM clampS
  dsimp only
  have hbl : b < w.heap.size := World.block_lt_of_cell? w _ h0
  have hbl1 : b < w.heap.size + 1 := by omega
  have hbl2 : b < w.heap.size + 1 + 1 := by omega
  have hbl3 : b < w.heap.size + 1 + 1 + 1 := by omega
  clear v1 q1 hb hp ha hl hx
  go_enter Tryz.func167, Tryz.ntmps167
  go_wp2_with fail
  refine name_world _ ?_
  intro W1 hW1
  obtain ⟨g, hg⟩ : ∃ g, g = w.heap.size := ⟨_, rfl⟩
  have B4 : Blk W1 g 24 #[.slice (some ⟨b, off, none⟩) n c, .int .i64 home] := by rw [hW1, hg]; exact (((Blk.newAt rfl).alloc _).alloc _).alloc _
  have B7 : Blk W1 (g + 1) 112 #[.int .i64 xl, .int .i64 xh, .int .i64 yl, .int .i64 yh] := by rw [hW1, hg]; exact ((Blk.newAt (by simp)).alloc _).alloc _
  have B8 : Blk W1 (g + 1 + 1) 112 #[.int .i64 0, .int .i64 0, .int .i64 0, .int .i64 0] := by rw [hW1, hg]; exact (Blk.newAt (by simp)).alloc _
  have B9 : Blk W1 (g + 1 + 1 + 1) 97 #[.int .i64 mu, .int .i64 r, .slice A' n' c'] := by rw [hW1, hg]; exact Blk.newAt (by simp)
  have E1 : Ext w W1 := by rw [hW1]; (repeat' (first | exact Ext.refl _ | assumption | apply Ext.alloc | apply Ext.drew | refine Ext.set ?_ (by dsimp only; omega) _ | refine Ext.trans ?_ (by assumption)))
  have og : w.heap.size ≤ g := by omega
  rw [← hg]
  clear hW1 hg hbl hbl1 hbl2 hbl3 h0 h1 h2
  have c_B4 := B4.cell; have f_B4 := B4.frozen; have l_B4 := B4.lt; have c_B7 := B7.cell; have f_B7 := B7.frozen; have l_B7 := B7.lt
  refine wp_region_gen [0, 1, 2, 3, 4, 5, 6, 7, 8] [9, 10] [11, 12] (Ext _) (Ext _) (Stable.ext _) (fun _ h => h) (Ext.drew (Ext.refl _)) (by kernel_rfl) (by kernel_rfl) ?_; simp only [pick, List.drop_succ_cons, List.drop_zero]; (repeat' (first | (refine bl_off (by rfl) ?_; simp only [Act.put, List.setIfInBounds_toArray, List.set_cons_zero, List.set_cons_succ]) | (apply bl_op; rfl; (intro w1 h1; obtain ⟨hc, hf, hz⟩ := bcell h1; go_simp; (try go_bits); (first | exact ⟨rfl, Ext.refl _⟩ | (apply gives_call; first | (go_at_call 209; exact HA.out _ (by (repeat' (first | exact Ext.refl _ | assumption | apply Ext.alloc | apply Ext.drew | refine Ext.set ?_ (by dsimp only; omega) _ | refine Ext.trans ?_ (by assumption))))) | (go_at_call 208; exact HT.out _)) | (go_invoke; go_simp; apply gives_call; first | (go_at_call 209; exact HA.out _ (by (repeat' (first | exact Ext.refl _ | assumption | apply Ext.alloc | apply Ext.drew | refine Ext.set ?_ (by dsimp only; omega) _ | refine Ext.trans ?_ (by assumption))))) | (go_at_call 208; exact HT.out _)))); simp only [Act.put, List.setIfInBounds_toArray, List.set_cons_zero, List.set_cons_succ]) | (refine bl_split rfl rfl (fun hx => ?_) (fun hx => ?_) <;> simp only [hx]))); refine bl_nil ?_; refine ag_two (e1 := 26) (e2 := 26) (zs1 := #[.int .i64 0, .int .i64 0]) (zs2 := #[.int .i64 0, .int .i64 0]) (Stable.ext _) (fun _ h => h) (by decide) rfl rfl (fun u v => rfl) (fun v w => ⟨by simp only [opAt]; go_simp, by simp only [opAt]; go_simp⟩) (fun v w => ⟨by simp only [opAt]; go_simp, by simp only [opAt]; go_simp⟩) (fun b10 b11 hb_b10 hb_b11 hne_b10 => ?_); (try simp only [opAt]); (try simp only [Act.put, List.setIfInBounds_toArray]); refine tg_skip (fun w => Ext _ w ∧ Blk w b10 26 #[.int .i64 vxl, .int .i64 vxh] ∧ Blk w b11 26 #[.int .i64 0, .int .i64 0]) rfl rfl ((Stable.ext _).and ((Stable.blk _ _ _).and (Stable.blk _ _ _))) (fun _ h => h.1) (fun wx hx => ?_) ?_; (focus (obtain ⟨hx, hB1, hB2⟩ := hx; have hcB := hB1.cell; have hfB := hB1.frozen; have hlB := hB1.lt; refine ⟨_, (by go_simp; rfl), ?_⟩; have q0 : Blk (wx.setCell ⟨b10, 0, none⟩ (.int .i64 vxl)) b10 26 #[.int .i64 vxl, .int .i64 0] := hB1.set_ 0 _; have p0 : Ext _ (wx.setCell ⟨b10, 0, none⟩ (.int .i64 vxl)) := Ext.set hx (by dsimp only; omega) _; have o0 := Blk.far (p := ⟨b10, 0, none⟩) hB2 (by dsimp only; omega) (.int .i64 vxl); have q1 : Blk ((wx.setCell ⟨b10, 0, none⟩ (.int .i64 vxl)).setCell ⟨b10, 1, none⟩ (.int .i64 vxh)) b10 26 #[.int .i64 vxl, .int .i64 vxh] := q0.set_ 1 _; have p1 : Ext _ ((wx.setCell ⟨b10, 0, none⟩ (.int .i64 vxl)).setCell ⟨b10, 1, none⟩ (.int .i64 vxh)) := Ext.set p0 (by dsimp only; omega) _; have o1 := Blk.far (p := ⟨b10, 1, none⟩) o0 (by dsimp only; omega) (.int .i64 vxh); exact ⟨p1, q1, o1⟩)); refine tg_skip (fun w => Ext _ w ∧ Blk w b10 26 #[.int .i64 vxl, .int .i64 vxh] ∧ Blk w b11 26 #[.int .i64 vyl, .int .i64 vyh]) rfl rfl ((Stable.ext _).and ((Stable.blk _ _ _).and (Stable.blk _ _ _))) (fun _ h => h.1) (fun wx hx => ?_) ?_; (focus (obtain ⟨hx, hB1, hB2⟩ := hx; have hcB := hB2.cell; have hfB := hB2.frozen; have hlB := hB2.lt; refine ⟨_, (by go_simp; rfl), ?_⟩; have q0 : Blk (wx.setCell ⟨b11, 0, none⟩ (.int .i64 vyl)) b11 26 #[.int .i64 vyl, .int .i64 0] := hB2.set_ 0 _; have p0 : Ext _ (wx.setCell ⟨b11, 0, none⟩ (.int .i64 vyl)) := Ext.set hx (by dsimp only; omega) _; have o0 := Blk.far (p := ⟨b11, 0, none⟩) hB1 (by dsimp only; omega) (.int .i64 vyl); have q1 : Blk ((wx.setCell ⟨b11, 0, none⟩ (.int .i64 vyl)).setCell ⟨b11, 1, none⟩ (.int .i64 vyh)) b11 26 #[.int .i64 vyl, .int .i64 vyh] := q0.set_ 1 _; have p1 : Ext _ ((wx.setCell ⟨b11, 0, none⟩ (.int .i64 vyl)).setCell ⟨b11, 1, none⟩ (.int .i64 vyh)) := Ext.set p0 (by dsimp only; omega) _; have o1 := Blk.far (p := ⟨b11, 1, none⟩) o0 (by dsimp only; omega) (.int .i64 vyh); exact ⟨p1, o1, q1⟩)); refine tg_nil ?_; rintro w2 ⟨hE_w2, hB_b10, hB_b11⟩
  simp only [Array.getD_eq_getD_getElem?, List.getElem?_toArray, List.getElem?_cons_succ, List.getElem?_cons_zero, Option.getD_some, List.setIfInBounds_toArray, List.set_cons_zero, List.set_cons_succ]
  clear c_B4 f_B4 l_B4 c_B7 f_B7 l_B7
  replace B8 := B8.ext hE_w2
  replace B9 := B9.ext hE_w2
  replace E1 : Ext w w2 := E1.trans hE_w2
  clear B4 B7 hE_w2 HA HT
  have c_B9 := B9.cell; have f_B9 := B9.frozen; have l_B9 := B9.lt; have c_hB_b10 := hB_b10.cell; have f_hB_b10 := hB_b10.frozen; have l_hB_b10 := hB_b10.lt; have c_hB_b11 := hB_b11.cell; have f_hB_b11 := hB_b11.frozen; have l_hB_b11 := hB_b11.lt
  go_wp2_with fail
  refine (HD.out _ _ _ _).mono ?_
  rintro e w3 ⟨rfl, h3⟩
  clear c_B9 f_B9 l_B9 c_hB_b10 f_hB_b10 l_hB_b10 c_hB_b11 f_hB_b11 l_hB_b11
  replace B8 := B8.ext h3
  replace B9 := B9.ext h3
  replace hB_b10 := hB_b10.ext h3
  replace hB_b11 := hB_b11.ext h3
  replace E1 : Ext w w3 := E1.trans h3
  clear h3
  go_wp2_with fail
  refine name_world _ ?_
  intro W4 hW4
  obtain ⟨g12, hg12⟩ : ∃ g, g = w3.heap.size := ⟨_, rfl⟩
  have B12 : Blk W4 g12 26 #[.int .i64 ql, .int .i64 qh] := by rw [hW4]; exact (Blk.newAt hg12).alloc _
  have B13 : Blk W4 (g12 + 1) 26 #[.int .i64 rl, .int .i64 rh] := by rw [hW4]; exact Blk.newAt (by simp [hg12])
  have E4 : Ext w3 W4 := by rw [hW4]; (repeat' (first | exact Ext.refl _ | assumption | apply Ext.alloc | apply Ext.drew | refine Ext.set ?_ (by dsimp only; omega) _ | refine Ext.trans ?_ (by assumption)))
  rw [← hg12]
  clear hW4 hg12
  replace B8 := B8.ext E4
  replace B9 := B9.ext E4
  replace hB_b10 := hB_b10.ext E4
  replace hB_b11 := hB_b11.ext E4
  replace E1 : Ext w W4 := E1.trans E4
  clear E4
  have c_B9 := B9.cell; have f_B9 := B9.frozen; have l_B9 := B9.lt; have c_hB_b10 := hB_b10.cell; have f_hB_b10 := hB_b10.frozen; have l_hB_b10 := hB_b10.lt; have c_hB_b11 := hB_b11.cell; have f_hB_b11 := hB_b11.frozen; have l_hB_b11 := hB_b11.lt; have c_B12 := B12.cell; have f_B12 := B12.frozen; have l_B12 := B12.lt; have c_B13 := B13.cell; have f_B13 := B13.frozen; have l_B13 := B13.lt
  refine wp_region_forced 17 (Ext _) (Stable.ext _) (Ext.drew (Ext.refl _)) (by kernel_rfl) (by kernel_rfl) ?_
  simp only [List.take_succ_cons, List.take_zero, List.drop_succ_cons, List.drop_zero]
  (repeat' (first | (refine bl_off (by rfl) ?_; simp only [Act.put, List.setIfInBounds_toArray, List.set_cons_zero, List.set_cons_succ]) | (apply bl_op; rfl; (intro w1 h1; obtain ⟨hc, hf, hz⟩ := bcell h1; go_simp; (try go_bits); (first | exact ⟨rfl, Ext.refl _⟩ | (apply gives_call; first | (go_at_call 213; exact HS.out _ _ (by first | exact .inl ⟨rfl, rfl⟩ | exact .inr ⟨rfl, rfl⟩) _) | (go_at_call 212; exact gQuotient_c _ _ _ _ _) | (go_at_call 211; exact gBounded_c _ _ _)) | (go_invoke; go_simp; apply gives_call; first | (go_at_call 213; exact HS.out _ _ (by first | exact .inl ⟨rfl, rfl⟩ | exact .inr ⟨rfl, rfl⟩) _) | (go_at_call 212; exact gQuotient_c _ _ _ _ _) | (go_at_call 211; exact gBounded_c _ _ _)))); simp only [Act.put, List.setIfInBounds_toArray, List.set_cons_zero, List.set_cons_succ]) | (refine bl_split rfl rfl (fun hx => ?_) (fun hx => ?_) <;> simp only [hx])))
  refine bl_nil ?_
  intro w5 h5
  clear c_B9 f_B9 l_B9 c_hB_b10 f_hB_b10 l_hB_b10 c_hB_b11 f_hB_b11 l_hB_b11 c_B12 f_B12 l_B12 c_B13 f_B13 l_B13
  replace B8 := B8.ext h5
  replace E1 : Ext w w5 := E1.trans h5
  clear h5 B9 hB_b10 hB_b11 B12 B13
  have c_B8 := B8.cell; have f_B8 := B8.frozen; have l_B8 := B8.lt
  go_wp2_with fail
  (try simp only [Exit.inBlock, Exit.then]); apply bodyPost_ret; (focus (simp only [results, Tryz.results167]; go_simp; try rfl)); rfl
  exact ⟨rfl, by (repeat' (first | exact Ext.refl _ | assumption | apply Ext.alloc | apply Ext.drew | refine Ext.set ?_ (by dsimp only; omega) _ | refine Ext.trans ?_ (by assumption)))⟩
end Go.Proofs.YtfniicgoeljmdaaGreat

namespace Go.Proofs.YtfniicgoeljmdaaGreat
open Go.RowKit

/-- A world that is right has a body. -/
theorem bodies_some {w : World} {A : Option Addr} {n : Nat} {l : List Body} (hl : Bodies w A n l) (h : l ≠ []) : ∃ b off x, A = some ⟨b, off, none⟩ ∧ l[0]? = some x ∧ l.getD 0 ⟨0, 0, []⟩ = x ∧ x ∈ l := by
  obtain ⟨y, r, rfl⟩ := List.exists_cons_of_ne_nil h
  obtain ⟨b, off, hA, _⟩ := hl.at_ (by simp)
  exact ⟨b, off, y, hA, rfl, rfl, by simp⟩
set_option maxRecDepth 20000 in
set_option maxHeartbeats 4000000 in
theorem gLight_c (A : Option Addr) (n c : Nat) (home : Int) (l : List Body) (d : Drf) (tick : Int) (a : Ar) (w : World) (hl : Bodies w A n l) (h0 : fAskErr l home d tick a = 0) :
    Calls Tryz.prog 165 #[.agg #[.slice A n c, .int .i64 home], .agg #[.int .i64 d.light.lo, .int .i64 d.light.hi, .int .i64 d.heat.lo, .int .i64 d.heat.hi, .int .i64 d.gas], .int .i64 tick, .agg #[.int .i64 a.x.lo, .int .i64 a.x.hi, .int .i64 a.y.lo, .int .i64 a.y.hi]] w fun e w' =>
      e = .returned (.tuple #[arV (lightM d (sunM l home tick a)), .int .i64 0]) ∧ Ext w w' := by
  obtain ⟨k1, k2, k3, k4⟩ := fAsk_ok h0
  obtain ⟨m1, m2, m3⟩ := wld_bodies k1
  obtain ⟨b, off, x, rfl, hx, hxd, hxm⟩ := bodies_some hl m1
  have H := Lib.hid fun W (hW : Ext w W) => gAsked_c (some ⟨b, off, none⟩) n c home l d.light.lo d.light.hi d.heat.lo d.heat.hi d.gas tick a.x.lo a.x.hi a.y.lo a.y.hi W (Bodies.ext hW hl)
  rw [show fAskErr l home ⟨⟨d.light.lo, d.light.hi⟩, ⟨d.heat.lo, d.heat.hi⟩, d.gas⟩ tick ⟨⟨a.x.lo, a.x.hi⟩, ⟨a.y.lo, a.y.hi⟩⟩ = 0 from h0] at H
  have HO : Hid (∀ W, Ext w W → Calls Tryz.prog 167 #[.agg #[.slice (some ⟨b, off, none⟩) n c, .int .i64 home], .int .i64 0, .int .i64 tick, .agg #[.int .i64 a.x.lo, .int .i64 a.x.hi, .int .i64 a.y.lo, .int .i64 a.y.hi]] W fun e w' => e = .returned (arV (sunM l home tick a)) ∧ Ext W w') := by
    refine Lib.hid fun W hW => ?_
    have := gOne_c b off n c home l 0 x tick a W (Bodies.ext hW hl) hx (m3 x hxm) k4
    unfold sunM
    rw [hxd]
    exact this
  generalize sunM l home tick a = s at *
  obtain ⟨⟨ll, lh⟩, ⟨el, eh⟩, g⟩ := d
  obtain ⟨⟨sxl, sxh⟩, syl, syh⟩ := s
  obtain ⟨⟨xl, xh⟩, yl, yh⟩ := a
  unfold lightM minusS
  dsimp only at *
  clear h0 k1 k2 k3 k4 m1 m2 m3 hl hx hxd hxm
  go_enter Tryz.func165, Tryz.ntmps165
  go_wp2_with fail
  refine (H.out _ (by (repeat' (first | exact Ext.refl _ | assumption | apply Ext.alloc | apply Ext.drew | refine Ext.set ?_ (by dsimp only; omega) _ | refine Ext.trans ?_ (by assumption))))).mono ?_
  rintro e w1 ⟨rfl, h1⟩
  have B4 : Blk w1 w.heap.size 24 #[.slice (some ⟨b, off, none⟩) n c, .int .i64 home] := ((((Blk.newAt rfl).alloc _).alloc _).alloc _).ext h1
  have B5 : Blk w1 (w.heap.size + 1) 28 #[.int .i64 ll, .int .i64 lh, .int .i64 el, .int .i64 eh, .int .i64 g] := (((Blk.newAt (by simp)).alloc _).alloc _).ext h1
  have B7 : Blk w1 (w.heap.size + 1 + 1) 112 #[.int .i64 xl, .int .i64 xh, .int .i64 yl, .int .i64 yh] := ((Blk.newAt (by simp)).alloc _).ext h1
  have B8 : Blk w1 (w.heap.size + 1 + 1 + 1) 112 #[.int .i64 0, .int .i64 0, .int .i64 0, .int .i64 0] := (Blk.newAt (by simp)).ext h1
  have E : Ext w w1 := by (repeat' (first | exact Ext.refl _ | assumption | apply Ext.alloc | apply Ext.drew | refine Ext.set ?_ (by dsimp only; omega) _ | refine Ext.trans ?_ (by assumption)))
  clear h1
  have c_B4 := B4.cell; have f_B4 := B4.frozen; have l_B4 := B4.lt; have c_B5 := B5.cell; have f_B5 := B5.frozen; have l_B5 := B5.lt; have c_B7 := B7.cell; have f_B7 := B7.frozen; have l_B7 := B7.lt; have c_B8 := B8.cell; have f_B8 := B8.frozen; have l_B8 := B8.lt
  go_wp2_with fail
  refine (HO.out _ (by (repeat' (first | exact Ext.refl _ | assumption | apply Ext.alloc | apply Ext.drew | refine Ext.set ?_ (by dsimp only; omega) _ | refine Ext.trans ?_ (by assumption))))).mono ?_
  rintro e w2 ⟨rfl, h2⟩
  clear c_B4 f_B4 l_B4 c_B5 f_B5 l_B5 c_B7 f_B7 l_B7 c_B8 f_B8 l_B8
  replace B5 := B5.ext h2
  replace B8 := B8.ext h2
  replace E := E.trans h2
  clear B4 B7 h2
  go_wp2_with fail
  refine name_world _ ?_
  intro W3 hW3
  obtain ⟨g11, hg11⟩ : ∃ g, g = w2.heap.size := ⟨_, rfl⟩
  have B11 : Blk W3 g11 112 #[.int .i64 sxl, .int .i64 sxh, .int .i64 syl, .int .i64 syh] := by rw [hW3]; exact Blk.newAt hg11
  have E3 : Ext w2 W3 := by rw [hW3]; (repeat' (first | exact Ext.refl _ | assumption | apply Ext.alloc | apply Ext.drew | refine Ext.set ?_ (by dsimp only; omega) _ | refine Ext.trans ?_ (by assumption)))
  rw [← hg11]
  clear hW3 hg11
  replace B5 := B5.ext E3
  replace B8 := B8.ext E3
  replace E := E.trans E3
  clear E3
  have c_B5 := B5.cell; have f_B5 := B5.frozen; have l_B5 := B5.lt; have c_B8 := B8.cell; have f_B8 := B8.frozen; have l_B8 := B8.lt; have c_B11 := B11.cell; have f_B11 := B11.frozen; have l_B11 := B11.lt
  refine wp_region_forced 13 (Ext _) (Stable.ext _) (Ext.drew (Ext.refl _)) (by kernel_rfl) (by kernel_rfl) ?_
  simp only [List.take_succ_cons, List.take_zero, List.drop_succ_cons, List.drop_zero]
  (repeat' (first | (refine bl_off (by rfl) ?_; simp only [Act.put, List.setIfInBounds_toArray, List.set_cons_zero, List.set_cons_succ]) | (apply bl_op; rfl; (intro w1 h1; obtain ⟨hc, hf, hz⟩ := bcell h1; go_simp; (try go_bits); (first | exact ⟨rfl, Ext.refl _⟩ | (apply gives_call; first | (go_at_call 207; exact gThousandth_c _ _ _ _ _) | (go_at_call 206; exact gMinus_c _ _ _ (part_bd _ _))) | (go_invoke; go_simp; apply gives_call; first | (go_at_call 207; exact gThousandth_c _ _ _ _ _) | (go_at_call 206; exact gMinus_c _ _ _ (part_bd _ _))))); simp only [Act.put, List.setIfInBounds_toArray, List.set_cons_zero, List.set_cons_succ]) | (refine bl_split rfl rfl (fun hx => ?_) (fun hx => ?_) <;> simp only [hx])))
  refine bl_nil ?_
  intro w3 h3
  obtain ⟨hc_w3, hf_w3, hz_w3⟩ := bcell h3; (repeat (first | rw [World.size_alloc] at hz_w3 | rw [World.size_drew] at hz_w3 | rw [World.size_setCell] at hz_w3)); (try (have : w.heap.size < w3.heap.size := (by omega))); (try (have : w.heap.size + 1 < w3.heap.size := (by omega))); (try (have : w.heap.size + 1 + 1 < w3.heap.size := (by omega))); (try (have : w.heap.size + 1 + 1 + 1 < w3.heap.size := (by omega))); (try (have : w.heap.size + 1 + 1 + 1 + 1 < w3.heap.size := (by omega)))
  go_wp2_with fail
  (try simp only [Exit.inBlock, Exit.then]); apply bodyPost_ret; (focus (simp only [results, Tryz.results165]; go_simp; try rfl)); rfl
  exact ⟨rfl, by (repeat' (first | exact Ext.refl _ | assumption | apply Ext.alloc | apply Ext.drew | refine Ext.set ?_ (by dsimp only; omega) _ | refine Ext.trans ?_ (by assumption)))⟩
set_option maxRecDepth 20000 in
set_option maxHeartbeats 4000000 in
theorem gHeat_c (A : Option Addr) (n c : Nat) (home : Int) (l : List Body) (d : Drf) (tick : Int) (a : Ar) (w : World) (hl : Bodies w A n l) (h0 : fAskErr l home d tick a = 0) :
    Calls Tryz.prog 166 #[.agg #[.slice A n c, .int .i64 home], .agg #[.int .i64 d.light.lo, .int .i64 d.light.hi, .int .i64 d.heat.lo, .int .i64 d.heat.hi, .int .i64 d.gas], .int .i64 tick, .agg #[.int .i64 a.x.lo, .int .i64 a.x.hi, .int .i64 a.y.lo, .int .i64 a.y.hi]] w fun e w' =>
      e = .returned (.tuple #[arV (heatM d (sunM l home tick a)), .int .i64 0]) ∧ Ext w w' := by
  obtain ⟨k1, k2, k3, k4⟩ := fAsk_ok h0
  obtain ⟨m1, m2, m3⟩ := wld_bodies k1
  obtain ⟨b, off, x, rfl, hx, hxd, hxm⟩ := bodies_some hl m1
  have H := Lib.hid fun W (hW : Ext w W) => gAsked_c (some ⟨b, off, none⟩) n c home l d.light.lo d.light.hi d.heat.lo d.heat.hi d.gas tick a.x.lo a.x.hi a.y.lo a.y.hi W (Bodies.ext hW hl)
  rw [show fAskErr l home ⟨⟨d.light.lo, d.light.hi⟩, ⟨d.heat.lo, d.heat.hi⟩, d.gas⟩ tick ⟨⟨a.x.lo, a.x.hi⟩, ⟨a.y.lo, a.y.hi⟩⟩ = 0 from h0] at H
  have HO : Hid (∀ W, Ext w W → Calls Tryz.prog 167 #[.agg #[.slice (some ⟨b, off, none⟩) n c, .int .i64 home], .int .i64 0, .int .i64 tick, .agg #[.int .i64 a.x.lo, .int .i64 a.x.hi, .int .i64 a.y.lo, .int .i64 a.y.hi]] W fun e w' => e = .returned (arV (sunM l home tick a)) ∧ Ext W w') := by
    refine Lib.hid fun W hW => ?_
    have := gOne_c b off n c home l 0 x tick a W (Bodies.ext hW hl) hx (m3 x hxm) k4
    unfold sunM
    rw [hxd]
    exact this
  generalize sunM l home tick a = s at *
  obtain ⟨⟨ll, lh⟩, ⟨el, eh⟩, g⟩ := d
  obtain ⟨⟨sxl, sxh⟩, syl, syh⟩ := s
  obtain ⟨⟨xl, xh⟩, yl, yh⟩ := a
  unfold heatM minusS
  dsimp only at *
  clear h0 k1 k2 k3 k4 m1 m2 m3 hl hx hxd hxm
  go_enter Tryz.func166, Tryz.ntmps166
  go_wp2_with fail
  refine (H.out _ (by (repeat' (first | exact Ext.refl _ | assumption | apply Ext.alloc | apply Ext.drew | refine Ext.set ?_ (by dsimp only; omega) _ | refine Ext.trans ?_ (by assumption))))).mono ?_
  rintro e w1 ⟨rfl, h1⟩
  have B4 : Blk w1 w.heap.size 24 #[.slice (some ⟨b, off, none⟩) n c, .int .i64 home] := ((((Blk.newAt rfl).alloc _).alloc _).alloc _).ext h1
  have B5 : Blk w1 (w.heap.size + 1) 28 #[.int .i64 ll, .int .i64 lh, .int .i64 el, .int .i64 eh, .int .i64 g] := (((Blk.newAt (by simp)).alloc _).alloc _).ext h1
  have B7 : Blk w1 (w.heap.size + 1 + 1) 112 #[.int .i64 xl, .int .i64 xh, .int .i64 yl, .int .i64 yh] := ((Blk.newAt (by simp)).alloc _).ext h1
  have B8 : Blk w1 (w.heap.size + 1 + 1 + 1) 112 #[.int .i64 0, .int .i64 0, .int .i64 0, .int .i64 0] := (Blk.newAt (by simp)).ext h1
  have E : Ext w w1 := by (repeat' (first | exact Ext.refl _ | assumption | apply Ext.alloc | apply Ext.drew | refine Ext.set ?_ (by dsimp only; omega) _ | refine Ext.trans ?_ (by assumption)))
  clear h1
  have c_B4 := B4.cell; have f_B4 := B4.frozen; have l_B4 := B4.lt; have c_B5 := B5.cell; have f_B5 := B5.frozen; have l_B5 := B5.lt; have c_B7 := B7.cell; have f_B7 := B7.frozen; have l_B7 := B7.lt; have c_B8 := B8.cell; have f_B8 := B8.frozen; have l_B8 := B8.lt
  go_wp2_with fail
  refine (HO.out _ (by (repeat' (first | exact Ext.refl _ | assumption | apply Ext.alloc | apply Ext.drew | refine Ext.set ?_ (by dsimp only; omega) _ | refine Ext.trans ?_ (by assumption))))).mono ?_
  rintro e w2 ⟨rfl, h2⟩
  clear c_B4 f_B4 l_B4 c_B5 f_B5 l_B5 c_B7 f_B7 l_B7 c_B8 f_B8 l_B8
  replace B5 := B5.ext h2
  replace B8 := B8.ext h2
  replace E := E.trans h2
  clear B4 B7 h2
  go_wp2_with fail
  refine name_world _ ?_
  intro W3 hW3
  obtain ⟨g11, hg11⟩ : ∃ g, g = w2.heap.size := ⟨_, rfl⟩
  have B11 : Blk W3 g11 112 #[.int .i64 sxl, .int .i64 sxh, .int .i64 syl, .int .i64 syh] := by rw [hW3]; exact Blk.newAt hg11
  have E3 : Ext w2 W3 := by rw [hW3]; (repeat' (first | exact Ext.refl _ | assumption | apply Ext.alloc | apply Ext.drew | refine Ext.set ?_ (by dsimp only; omega) _ | refine Ext.trans ?_ (by assumption)))
  rw [← hg11]
  clear hW3 hg11
  replace B5 := B5.ext E3
  replace B8 := B8.ext E3
  replace E := E.trans E3
  clear E3
  have c_B5 := B5.cell; have f_B5 := B5.frozen; have l_B5 := B5.lt; have c_B8 := B8.cell; have f_B8 := B8.frozen; have l_B8 := B8.lt; have c_B11 := B11.cell; have f_B11 := B11.frozen; have l_B11 := B11.lt
  refine wp_region_forced 12 (Ext _) (Stable.ext _) (Ext.drew (Ext.refl _)) (by kernel_rfl) (by kernel_rfl) ?_
  simp only [List.take_succ_cons, List.take_zero, List.drop_succ_cons, List.drop_zero]
  (repeat' (first | (refine bl_off (by rfl) ?_; simp only [Act.put, List.setIfInBounds_toArray, List.set_cons_zero, List.set_cons_succ]) | (apply bl_op; rfl; (intro w1 h1; obtain ⟨hc, hf, hz⟩ := bcell h1; go_simp; (try go_bits); (first | exact ⟨rfl, Ext.refl _⟩ | (apply gives_call; first | (go_at_call 207; exact gThousandth_c _ _ _ _ _) | (go_at_call 206; exact gMinus_c _ _ _ (part_bd _ _))) | (go_invoke; go_simp; apply gives_call; first | (go_at_call 207; exact gThousandth_c _ _ _ _ _) | (go_at_call 206; exact gMinus_c _ _ _ (part_bd _ _))))); simp only [Act.put, List.setIfInBounds_toArray, List.set_cons_zero, List.set_cons_succ]) | (refine bl_split rfl rfl (fun hx => ?_) (fun hx => ?_) <;> simp only [hx])))
  refine bl_nil ?_
  intro w3 h3
  obtain ⟨hc_w3, hf_w3, hz_w3⟩ := bcell h3; (repeat (first | rw [World.size_alloc] at hz_w3 | rw [World.size_drew] at hz_w3 | rw [World.size_setCell] at hz_w3)); (try (have : w.heap.size < w3.heap.size := (by omega))); (try (have : w.heap.size + 1 < w3.heap.size := (by omega))); (try (have : w.heap.size + 1 + 1 < w3.heap.size := (by omega))); (try (have : w.heap.size + 1 + 1 + 1 < w3.heap.size := (by omega))); (try (have : w.heap.size + 1 + 1 + 1 + 1 < w3.heap.size := (by omega)))
  go_wp2_with fail
  (try simp only [Exit.inBlock, Exit.then]); apply bodyPost_ret; (focus (simp only [results, Tryz.results166]; go_simp; try rfl)); rfl
  exact ⟨rfl, by (repeat' (first | exact Ext.refl _ | assumption | apply Ext.alloc | apply Ext.drew | refine Ext.set ?_ (by dsimp only; omega) _ | refine Ext.trans ?_ (by assumption)))⟩
end Go.Proofs.YtfniicgoeljmdaaGreat
