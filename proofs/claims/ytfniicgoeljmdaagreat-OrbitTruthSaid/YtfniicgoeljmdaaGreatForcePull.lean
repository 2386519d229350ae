/- The pull of a body on an area, in one direction: the program. No condition. -/
import Derived.Test.YtfniicgoeljmdaaGreatForceDist
namespace Go.Proofs.YtfniicgoeljmdaaGreat
open Go.RowKit

theorem scaled_eq (mu : Int) (x q : Sp) : scaledM mu x q = ⟨min (scQ mu x.lo q.lo).lo (min (scQ mu x.hi q.lo).lo (min (scQ mu x.lo q.hi).lo (scQ mu x.hi q.hi).lo)), max (scQ mu x.lo q.lo).hi (max (scQ mu x.hi q.lo).hi (max (scQ mu x.lo q.hi).hi (scQ mu x.hi q.hi).hi))⟩ := by
  unfold scaledM cornQ pairsL
  simp only [List.map_cons, List.map_nil]
  rw [joinAll_four (scQ_e _ _ _) (scQ_e _ _ _) (scQ_e _ _ _) (scQ_e _ _ _) (scQ_ok _ _ _)]
  simp only [Sp.mk.injEq]
  constructor <;> omega
def cl (k j : Nat) (v : Int) : Value := .int .i64 (if j < k then v else 0)
theorem blk_set2 {w : World} {b : Nat} {t : TypeId} {cs cs' : Array Value} {i j : Nat} {u v : Value} (h : Blk w b t cs) (hc : (cs.setIfInBounds i u).setIfInBounds j v = cs') : Blk ((w.setCell ⟨b, i, none⟩ u).setCell ⟨b, j, none⟩ v) b t cs' := hc ▸ (h.set_ i u).set_ j v
theorem blk_far2 {w : World} {b g : Nat} {t : TypeId} {cs : Array Value} {i j : Nat} {u v : Value} (h : Blk w g t cs) (hn : g ≠ b) : Blk ((w.setCell ⟨b, i, none⟩ u).setCell ⟨b, j, none⟩ v) g t cs := (h.far hn u).far hn v
theorem ext_set2 {a w : World} {b : Nat} {i j : Nat} {u v : Value} (h : Ext a w) (hn : a.heap.size ≤ b) : Ext a ((w.setCell ⟨b, i, none⟩ u).setCell ⟨b, j, none⟩ v) := (h.set hn u).set hn v
theorem scQ_cases {mu n d : Int} {q : Quo} (h : mulDivM mu n d = q) : (q.e = 0 → scQ mu n d = ⟨q.lo, q.hi, 0⟩) ∧ (q.e ≠ 0 → n < 0 → scQ mu n d = ⟨-1152921504606846976, -1152921504606846976, 0⟩) ∧ (q.e ≠ 0 → 0 ≤ n → scQ mu n d = ⟨1152921504606846976, 1152921504606846976, 0⟩) := by
  subst h
  unfold scQ
  refine ⟨fun h => ?_, fun h hn => ?_, fun h hn => ?_⟩
  · rw [if_pos h, ← h]
  · rw [if_neg h, if_pos hn]
  · rw [if_neg h, if_neg (by omega)]

set_option maxRecDepth 20000 in
set_option maxHeartbeats 8000000 in
theorem fToward_c (mu r : Int) (A : Option Addr) (n c : Nat) (px py xl xh ql qh rl rh : Int) (w : World) (hmu : 0 ≤ mu ∧ mu ≤ 1125899906842624) (hx : Sm 67108864 ⟨xl, xh⟩) (hq : 1 ≤ ql ∧ ql ≤ qh ∧ qh ≤ 9007199254740992) :
    Calls Tryz.prog 226 #[.agg #[.int .i64 mu, .int .i64 r, .slice A n c, .int .i64 px, .int .i64 py], .agg #[.int .i64 xl, .int .i64 xh], .agg #[.int .i64 ql, .int .i64 qh], .agg #[.int .i64 rl, .int .i64 rh]] w fun e w' =>
      e = .returned (.agg #[.int .i64 (towardM mu ⟨xl, xh⟩ ⟨ql, qh⟩ ⟨rl, rh⟩).lo, .int .i64 (towardM mu ⟨xl, xh⟩ ⟨ql, qh⟩ ⟨rl, rh⟩).hi]) ∧ Ext w w' := by
  obtain ⟨hx1, hx2, hx3⟩ := hx
  dsimp only at hx1 hx2 hx3
  have HM := Lib.hid fun (k : Nat) (X D : Int) (h : k < 4 ∧ ((k = 0 ∧ X = xl ∧ D = ql) ∨ (k = 1 ∧ X = xh ∧ D = ql) ∨ (k = 2 ∧ X = xl ∧ D = qh) ∨ (k = 3 ∧ X = xh ∧ D = qh))) W =>
    spMulDiv_c mu X D W (fitsP_of (by omega)) (fitsP_of (by omega)) (fitsP_of (by omega)) (by omega)
  unfold towardM
  rw [scaled_eq]
  dsimp only
  obtain ⟨⟨al, ah, ae⟩, ha⟩ : ∃ q, scQ mu xl ql = q := ⟨_, rfl⟩
  obtain ⟨⟨bl, bh, be⟩, hb⟩ : ∃ q, scQ mu xh ql = q := ⟨_, rfl⟩
  obtain ⟨⟨cl', ch, ce'⟩, hc⟩ : ∃ q, scQ mu xl qh = q := ⟨_, rfl⟩
  obtain ⟨⟨dl, dh, de⟩, hd⟩ : ∃ q, scQ mu xh qh = q := ⟨_, rfl⟩
  rw [ha, hb, hc, hd]
  dsimp only
  have HQ : Hid (∀ (k : Nat) (X D : Int), ((k = 0 ∧ X = xl ∧ D = ql) ∨ (k = 1 ∧ X = xh ∧ D = ql) ∨ (k = 2 ∧ X = xl ∧ D = qh) ∨ (k = 3 ∧ X = xh ∧ D = qh)) → ∃ lo hi, scQ mu X D = ⟨lo, hi, (scQ mu X D).e⟩ ∧ ((k = 0 ∧ lo = al ∧ hi = ah) ∨ (k = 1 ∧ lo = bl ∧ hi = bh) ∨ (k = 2 ∧ lo = cl' ∧ hi = ch) ∨ (k = 3 ∧ lo = dl ∧ hi = dh))) := by
    rintro k X D (⟨rfl, rfl, rfl⟩ | ⟨rfl, rfl, rfl⟩ | ⟨rfl, rfl, rfl⟩ | ⟨rfl, rfl, rfl⟩)
    · exact ⟨al, ah, by rw [ha], by omega⟩
    · exact ⟨bl, bh, by rw [hb], by omega⟩
    · exact ⟨cl', ch, by rw [hc], by omega⟩
    · exact ⟨dl, dh, by rw [hd], by omega⟩
  have HQT := Lib.hid fun (a b : Int) W => fQuot_c a b rl rh W
  have HCL := Lib.hid fun (a b : Int) W => fClamp_c a b W
  unfold clampS
  dsimp only
  clear ha hb hc hd hmu hq
  go_enter Tryz.func226, Tryz.ntmps226
  go_wp2_with fail
  refine wp_region_gen [0, 1, 2, 3, 4, 5, 6, 7, 8, 9] [10, 11] [12, 13] (Ext _) (Ext _) (Stable.ext _) (fun _ h => h) (Ext.drew (Ext.refl _)) (by kernel_rfl) (by kernel_rfl) ?_; simp only [pick, List.drop_succ_cons, List.drop_zero]; (repeat' (first | (refine bl_off (by rfl) ?_; simp only [putX]) | (apply bl_op; rfl; (intro w1 h1; obtain ⟨hc, hf, hz⟩ := bcell h1; go_simp; (try go_bits); (first | exact ⟨rfl, Ext.refl _⟩)); simp only [putX]) | (refine bl_split rfl rfl (fun hx => ?_) (fun hx => ?_) <;> simp only [hx]))); refine bl_nil ?_; refine ag_two (e1 := 239) (e2 := 239) (zs1 := #[.int .i64 0, .int .i64 0]) (zs2 := #[.int .i64 0, .int .i64 0]) (Stable.ext _) (fun _ h => h) (by decide) rfl rfl (fun u v => rfl) (fun v w => ⟨by simp only [opAt]; go_simp, by simp only [opAt]; go_simp⟩) (fun v w => ⟨by simp only [opAt]; go_simp, by simp only [opAt]; go_simp⟩) (fun b9 b10 hb_b9 hb_b10 hne_b9 => ?_); (try simp only [opAt]); (try simp only [Act.put, List.setIfInBounds_toArray]); refine tg_skip (fun w => Ext _ w ∧ Blk w b9 239 #[.int .i64 xl, .int .i64 xh] ∧ Blk w b10 239 #[.int .i64 0, .int .i64 0]) rfl rfl ((Stable.ext _).and ((Stable.blk _ _ _).and (Stable.blk _ _ _))) (fun _ h => h.1) (fun wx hx => ?_) ?_; (focus (obtain ⟨hx, hB1, hB2⟩ := hx; have hcB := hB1.cell; have hfB := hB1.frozen; have hlB := hB1.lt; exact ⟨putC b9 wx 0 [.int .i64 xl, .int .i64 xh], (by simp only [putC, Nat.reduceAdd]; go_simp; try rfl), Ext.putC (by omega) _ 0 hx, (Blk.putAt hB1 rfl), (Blk.putFar (by omega) _ 0 hB2)⟩)); refine tg_skip (fun w => Ext _ w ∧ Blk w b9 239 #[.int .i64 xl, .int .i64 xh] ∧ Blk w b10 239 #[.int .i64 ql, .int .i64 qh]) rfl rfl ((Stable.ext _).and ((Stable.blk _ _ _).and (Stable.blk _ _ _))) (fun _ h => h.1) (fun wx hx => ?_) ?_; (focus (obtain ⟨hx, hB1, hB2⟩ := hx; have hcB := hB2.cell; have hfB := hB2.frozen; have hlB := hB2.lt; exact ⟨putC b10 wx 0 [.int .i64 ql, .int .i64 qh], (by simp only [putC, Nat.reduceAdd]; go_simp; try rfl), Ext.putC (by omega) _ 0 hx, (Blk.putFar (by omega) _ 0 hB1), (Blk.putAt hB2 rfl)⟩)); refine tg_nil ?_; rintro w2 ⟨hE_w2, hB_b9, hB_b10⟩
  simp only [Array.getD_eq_getD_getElem?, List.getElem?_toArray, List.getElem?_cons_succ, List.getElem?_cons_zero, Option.getD_some, List.setIfInBounds_toArray, List.set_cons_zero, List.set_cons_succ]
  go_wp2_with fail
  have B4 : Blk w2 w.heap.size 227 #[.int .i64 mu, .int .i64 r, .slice A n c, .int .i64 px, .int .i64 py] := (((((Blk.newAt rfl).alloc _).alloc _).alloc _).alloc _).ext hE_w2
  have B7 : Blk w2 (w.heap.size + 1 + 1 + 1) 26 #[.int .i64 rl, .int .i64 rh] := ((Blk.newAt (by simp)).alloc _).ext hE_w2
  have B8 : Blk w2 (w.heap.size + 1 + 1 + 1 + 1) 26 #[.int .i64 0, .int .i64 0] := (Blk.newAt (by simp)).ext hE_w2
  have hz := hE_w2.size
  have E2 : Ext w w2 := ext_by
  simp only [World.size_alloc] at hb_b9 hb_b10 hz
  have l9 := hB_b9.lt
  have l10 := hB_b10.lt
  obtain ⟨b11, h11⟩ : ∃ b, b = w2.heap.size := ⟨_, rfl⟩
  rw [← h11]
  have HB4 := Lib.hid (B4.alloc (.cells #[.int .i64 0, .int .i64 0, .int .i64 0, .int .i64 0, .int .i64 0, .int .i64 0, .int .i64 0, .int .i64 0] 118))
  have HB7 := Lib.hid (B7.alloc (.cells #[.int .i64 0, .int .i64 0, .int .i64 0, .int .i64 0, .int .i64 0, .int .i64 0, .int .i64 0, .int .i64 0] 118))
  have HB8 := Lib.hid (B8.alloc (.cells #[.int .i64 0, .int .i64 0, .int .i64 0, .int .i64 0, .int .i64 0, .int .i64 0, .int .i64 0, .int .i64 0] 118))
  have HB9 := Lib.hid (hB_b9.alloc (.cells #[.int .i64 0, .int .i64 0, .int .i64 0, .int .i64 0, .int .i64 0, .int .i64 0, .int .i64 0, .int .i64 0] 118))
  have HB10 := Lib.hid (hB_b10.alloc (.cells #[.int .i64 0, .int .i64 0, .int .i64 0, .int .i64 0, .int .i64 0, .int .i64 0, .int .i64 0, .int .i64 0] 118))
  have HB11 : Hid (Blk (w2.alloc (.cells #[.int .i64 0, .int .i64 0, .int .i64 0, .int .i64 0, .int .i64 0, .int .i64 0, .int .i64 0, .int .i64 0] 118)) b11 118 #[.int .i64 0, .int .i64 0, .int .i64 0, .int .i64 0, .int .i64 0, .int .i64 0, .int .i64 0, .int .i64 0]) := Blk.newAt h11
  have HE := Lib.hid (E2.alloc (.cells #[.int .i64 0, .int .i64 0, .int .i64 0, .int .i64 0, .int .i64 0, .int .i64 0, .int .i64 0, .int .i64 0] 118))
  have o1 : w.heap.size + 1 + 1 + 1 + 1 + 1 ≤ b11 := by omega
  have o2 : b9 < b11 := by omega
  have o3 : b10 < b11 := by omega
  have o4 : w.heap.size + 1 + 1 + 1 + 1 < b9 := by omega
  have o5 : w.heap.size + 1 + 1 + 1 + 1 < b10 := by omega
  clear B4 B7 B8 hB_b9 hB_b10 E2 hE_w2 h11 hz l9 l10 hb_b9 hb_b10
  generalize w2.alloc _ = W2 at *
  go_loopw [30] (fun i wr => ∃ k : Nat, k ≤ 4 ∧ i = .int .i64 k ∧ Hid (Blk wr w.heap.size 227 #[.int .i64 mu, .int .i64 r, .slice A n c, .int .i64 px, .int .i64 py]) ∧ Hid (Blk wr (w.heap.size + 1 + 1 + 1) 26 #[.int .i64 rl, .int .i64 rh]) ∧ Hid (Blk wr (w.heap.size + 1 + 1 + 1 + 1) 26 #[.int .i64 0, .int .i64 0]) ∧
    Hid (Blk wr b9 239 #[.int .i64 xl, .int .i64 xh]) ∧ Hid (Blk wr b10 239 #[.int .i64 ql, .int .i64 qh]) ∧ Hid (Blk wr b11 118 #[cl k 0 al, cl k 0 ah, cl k 1 bl, cl k 1 bh, cl k 2 cl', cl k 2 ch, cl k 3 dl, cl k 3 dh]) ∧ Hid (Ext w wr)) (fun i _ => 4 - (intOf i).toNat)
  case atStart => exact ⟨0, Nat.zero_le _, rfl, HB4, HB7, HB8, HB9, HB10, HB11, HE⟩
  case round =>
    clear HB4 HB7 HB8 HB9 HB10 HB11 HE
    obtain ⟨k, hk, rfl, HB4, HB7, HB8, HB9, HB10, HB11, HE⟩ := hrel
    have c4 := HB4.out.cell
    have c9 := HB9.out.cell
    have c10 := HB10.out.cell
    have l4 := HB4.out.lt
    have l9 := HB9.out.lt
    have l10 := HB10.out.lt
    have H11 := HB11.out
    rcases (show k = 4 ∨ k < 4 by omega) with rfl | hk4
    · simp only [cl, Nat.reduceLT, if_true] at H11
      have c11 := H11.cell
      have f11 := H11.frozen
      have l11 := H11.lt
      go_wp2_with fail
      obtain ⟨b17, h17⟩ : ∃ b, b = wr.heap.size := ⟨_, rfl⟩
      rw [← h17]
      have HC11 := Lib.hid (H11.alloc (.cells #[.int .i64 al, .int .i64 ah] 26))
      have HC17 : Hid (Blk (wr.alloc (.cells #[.int .i64 al, .int .i64 ah] 26)) b17 26 #[.int .i64 al, .int .i64 ah]) := Blk.newAt h17
      have HC7 := Lib.hid (HB7.out.alloc (.cells #[.int .i64 al, .int .i64 ah] 26))
      have HC8 := Lib.hid (HB8.out.alloc (.cells #[.int .i64 al, .int .i64 ah] 26))
      have HCE := Lib.hid (HE.out.alloc (.cells #[.int .i64 al, .int .i64 ah] 26))
      have o6 : b11 < b17 := by omega
      clear h17 c4 c9 c10 c11 f11 l4 l9 l10 l11 H11 HB4 HB7 HB8 HB9 HB10 HB11 HE
      generalize wr.alloc _ = V0 at *
      refine wp_loop_rounds 4 ?_
      rw [rounds_succ]
      have c11 := HC11.out.cell
      have c17 := HC17.out.cell
      have f17 := HC17.out.frozen
      have l11 := HC11.out.lt
      have l17 := HC17.out.lt
      go_wp2_with fail
      refine name_world _ ?_
      intro V0 hV
      have HD11 : Hid (Blk V0 b11 118 #[.int .i64 al, .int .i64 ah, .int .i64 bl, .int .i64 bh, .int .i64 cl', .int .i64 ch, .int .i64 dl, .int .i64 dh]) := by
        rw [hV]; first | exact (blk_far2 HC11.out (by omega)).alloc _ | exact blk_far2 (HC11.out.alloc _) (by omega)
      have HD17 : Hid (Blk V0 b17 26 #[.int .i64 (min al bl), .int .i64 (max ah bh)]) := by
        rw [hV]; first | exact (blk_set2 HC17.out rfl).alloc _ | exact blk_set2 (HC17.out.alloc _) rfl
      have HD7 : Hid (Blk V0 (w.heap.size + 1 + 1 + 1) 26 #[.int .i64 rl, .int .i64 rh]) := by
        rw [hV]; first | exact (blk_far2 HC7.out (by omega)).alloc _ | exact blk_far2 (HC7.out.alloc _) (by omega)
      have HD8 : Hid (Blk V0 (w.heap.size + 1 + 1 + 1 + 1) 26 #[.int .i64 0, .int .i64 0]) := by
        rw [hV]; first | exact (blk_far2 HC8.out (by omega)).alloc _ | exact blk_far2 (HC8.out.alloc _) (by omega)
      have HDE : Hid (Ext w V0) := by
        rw [hV]; first | exact (ext_set2 HCE.out (by omega)).alloc _ | exact ext_set2 (HCE.out.alloc _) (by omega)
      clear c11 c17 f17 l11 l17 HC11 HC17 HC7 HC8 HCE hV
      obtain ⟨HC11, HC17, HC7, HC8, HCE⟩ := And.intro HD11 (And.intro HD17 (And.intro HD7 (And.intro HD8 HDE)))
      clear HD11 HD17 HD7 HD8 HDE
      rw [rounds_succ]
      have c11 := HC11.out.cell
      have c17 := HC17.out.cell
      have f17 := HC17.out.frozen
      have l11 := HC11.out.lt
      have l17 := HC17.out.lt
      go_wp2_with fail
      refine name_world _ ?_
      intro V1 hV
      have HD11 : Hid (Blk V1 b11 118 #[.int .i64 al, .int .i64 ah, .int .i64 bl, .int .i64 bh, .int .i64 cl', .int .i64 ch, .int .i64 dl, .int .i64 dh]) := by
        rw [hV]; first | exact (blk_far2 HC11.out (by omega)).alloc _ | exact blk_far2 (HC11.out.alloc _) (by omega)
      have HD17 : Hid (Blk V1 b17 26 #[.int .i64 (min al (min bl cl')), .int .i64 (max ah (max bh ch))]) := by
        rw [hV]; first | exact (blk_set2 HC17.out rfl).alloc _ | exact blk_set2 (HC17.out.alloc _) rfl
      have HD7 : Hid (Blk V1 (w.heap.size + 1 + 1 + 1) 26 #[.int .i64 rl, .int .i64 rh]) := by
        rw [hV]; first | exact (blk_far2 HC7.out (by omega)).alloc _ | exact blk_far2 (HC7.out.alloc _) (by omega)
      have HD8 : Hid (Blk V1 (w.heap.size + 1 + 1 + 1 + 1) 26 #[.int .i64 0, .int .i64 0]) := by
        rw [hV]; first | exact (blk_far2 HC8.out (by omega)).alloc _ | exact blk_far2 (HC8.out.alloc _) (by omega)
      have HDE : Hid (Ext w V1) := by
        rw [hV]; first | exact (ext_set2 HCE.out (by omega)).alloc _ | exact ext_set2 (HCE.out.alloc _) (by omega)
      clear c11 c17 f17 l11 l17 HC11 HC17 HC7 HC8 HCE hV
      obtain ⟨HC11, HC17, HC7, HC8, HCE⟩ := And.intro HD11 (And.intro HD17 (And.intro HD7 (And.intro HD8 HDE)))
      clear HD11 HD17 HD7 HD8 HDE
      rw [rounds_succ]
      have c11 := HC11.out.cell
      have c17 := HC17.out.cell
      have f17 := HC17.out.frozen
      have l11 := HC11.out.lt
      have l17 := HC17.out.lt
      go_wp2_with fail
      refine name_world _ ?_
      intro V2 hV
      have HD11 : Hid (Blk V2 b11 118 #[.int .i64 al, .int .i64 ah, .int .i64 bl, .int .i64 bh, .int .i64 cl', .int .i64 ch, .int .i64 dl, .int .i64 dh]) := by
        rw [hV]; first | exact (blk_far2 HC11.out (by omega)).alloc _ | exact blk_far2 (HC11.out.alloc _) (by omega)
      have HD17 : Hid (Blk V2 b17 26 #[.int .i64 (min al (min bl (min cl' dl))), .int .i64 (max ah (max bh (max ch dh)))]) := by
        rw [hV]; first | exact (blk_set2 HC17.out rfl).alloc _ | exact blk_set2 (HC17.out.alloc _) rfl
      have HD7 : Hid (Blk V2 (w.heap.size + 1 + 1 + 1) 26 #[.int .i64 rl, .int .i64 rh]) := by
        rw [hV]; first | exact (blk_far2 HC7.out (by omega)).alloc _ | exact blk_far2 (HC7.out.alloc _) (by omega)
      have HD8 : Hid (Blk V2 (w.heap.size + 1 + 1 + 1 + 1) 26 #[.int .i64 0, .int .i64 0]) := by
        rw [hV]; first | exact (blk_far2 HC8.out (by omega)).alloc _ | exact blk_far2 (HC8.out.alloc _) (by omega)
      have HDE : Hid (Ext w V2) := by
        rw [hV]; first | exact (ext_set2 HCE.out (by omega)).alloc _ | exact ext_set2 (HCE.out.alloc _) (by omega)
      clear c11 c17 f17 l11 l17 HC11 HC17 HC7 HC8 HCE hV
      obtain ⟨HC11, HC17, HC7, HC8, HCE⟩ := And.intro HD11 (And.intro HD17 (And.intro HD7 (And.intro HD8 HDE)))
      clear HD11 HD17 HD7 HD8 HDE
      rw [rounds_succ]
      have c17 := HC17.out.cell
      have c7 := HC7.out.cell
      have l17 := HC17.out.lt
      have l7 := HC7.out.lt
      go_wp2_with fail
      refine (HQT.out _ _ _).mono ?_
      rintro e v4 ⟨rfl, h4⟩
      go_wp2_with fail
      refine (HCL.out _ _ _).mono ?_
      rintro e v5 ⟨rfl, h5⟩
      have HX8 := HC8.out.ext (h4.trans h5)
      have HXE := HCE.out.trans (h4.trans h5)
      clear c17 c7 l17 l7 h4 h5
      have c_HX8 := HX8.cell; have f_HX8 := HX8.frozen; have l_HX8 := HX8.lt
      go_wp2_with fail
      (try simp only [Exit.inBlock, Exit.then]); apply bodyPost_ret; (focus (simp only [results, Tryz.results226]; go_simp; try rfl)); rfl
      exact ⟨rfl, ext_set2 HXE (by omega)⟩
    · obtain ⟨X, D, hXD⟩ : ∃ X D, (k = 0 ∧ X = xl ∧ D = ql) ∨ (k = 1 ∧ X = xh ∧ D = ql) ∨ (k = 2 ∧ X = xl ∧ D = qh) ∨ (k = 3 ∧ X = xh ∧ D = qh) := by
        rcases (show k = 0 ∨ k = 1 ∨ k = 2 ∨ k = 3 by omega) with rfl | rfl | rfl | rfl
        · exact ⟨xl, ql, by simp⟩
        · exact ⟨xh, ql, by simp⟩
        · exact ⟨xl, qh, by simp⟩
        · exact ⟨xh, qh, by simp⟩
      have HMk := Lib.hid (HM.out k X D ⟨hk4, hXD⟩)
      obtain ⟨q, hq⟩ : ∃ q, mulDivM mu X D = q := ⟨_, rfl⟩
      rw [hq] at HMk
      have hs := scQ_cases hq
      obtain ⟨lo, hi, hlh, hpos⟩ := HQ.out k X D hXD
      rw [hlh] at hs
      simp only [Quo.mk.injEq] at hs
      obtain ⟨qlo, qhi, qe⟩ := q
      dsimp only at hs
      have e00 : bits .and .i64 0 1 = 0 := by decide
      have e01 : bits .and .i64 1 1 = 1 := by decide
      have e02 : bits .and .i64 2 1 = 0 := by decide
      have e03 : bits .and .i64 3 1 = 1 := by decide
      obtain ⟨m, hm⟩ : ∃ m, m = k + 1 := ⟨_, rfl⟩
      have Hm := Lib.hid hm
      clear hm
      have hcase : (qe = 0 ∧ lo = qlo ∧ hi = qhi) ∨ (qe ≠ 0 ∧ X < 0 ∧ lo = -1152921504606846976 ∧ hi = -1152921504606846976) ∨ (qe ≠ 0 ∧ 0 ≤ X ∧ lo = 1152921504606846976 ∧ hi = 1152921504606846976) := by
        rcases (show qe = 0 ∨ (qe ≠ 0 ∧ X < 0) ∨ (qe ≠ 0 ∧ 0 ≤ X) by omega) with h | ⟨h, hn⟩ | ⟨h, hn⟩
        · exact .inl ⟨h, (hs.1 h).1, (hs.1 h).2.1⟩
        · exact .inr (.inl ⟨h, hn, (hs.2.1 h hn).1, (hs.2.1 h hn).2.1⟩)
        · exact .inr (.inr ⟨h, hn, (hs.2.2 h hn).1, (hs.2.2 h hn).2.1⟩)
      clear hs hq hlh hk4 hk HQ HM
      rcases hXD with ⟨rfl, h1, h2⟩ | ⟨rfl, h1, h2⟩ | ⟨rfl, h1, h2⟩ | ⟨rfl, h1, h2⟩
      all_goals subst h1
      all_goals subst h2
      all_goals simp only [cl, Nat.reduceLT, if_true, if_false] at H11
      all_goals have c11 := H11.cell
      all_goals have f11 := H11.frozen
      all_goals have l11 := H11.lt
      all_goals simp at hpos
      all_goals obtain ⟨hp1, hp2⟩ := hpos
      all_goals rcases hcase with ⟨h, rfl, rfl⟩ | ⟨h, hn, rfl, rfl⟩ | ⟨h, hn, rfl, rfl⟩
      all_goals subst hp1
      all_goals subst hp2
      all_goals go_wp2_with fail
      all_goals refine wp_region_text (by kernel_rfl) (by kernel_rfl) ?_
      all_goals (repeat' (first | (refine bl_off (by rfl) ?_; simp only [putX]) | (apply bl_op; rfl; (intro w1 h1; obtain ⟨hc, hf, hz⟩ := bcell h1; go_simp; (try go_bits); (first | exact ⟨rfl, Ext.refl _⟩ | (apply gives_call; go_at_call 246; exact HMk.out _) | (go_invoke; go_simp; apply gives_call; go_at_call 246; exact HMk.out _))); simp only [putX]) | (refine bl_split rfl rfl (fun hx => ?_) (fun hx => ?_) <;> simp only [hx])))
      all_goals refine bl_nil ?_
      all_goals intro w3 h3
      all_goals have H11' := H11.ext h3
      all_goals clear c4 c9 c10 c11 f11 l4 l9 l10 l11
      all_goals have c11 := H11'.cell
      all_goals have f11 := H11'.frozen
      all_goals have l11 := H11'.lt
      all_goals go_wp2_with fail
      all_goals refine ⟨?_, by simp [intOf]⟩
      all_goals have hm := Hm.out
      all_goals refine ⟨m, by omega, by rw [hm]; rfl, Lib.hid (blk_far2 (HB4.out.ext h3) (by omega)), Lib.hid (blk_far2 (HB7.out.ext h3) (by omega)), Lib.hid (blk_far2 (HB8.out.ext h3) (by omega)), Lib.hid (blk_far2 (HB9.out.ext h3) (by omega)), Lib.hid (blk_far2 (HB10.out.ext h3) (by omega)), Lib.hid (blk_set2 H11' ?_), Lib.hid (ext_set2 (HE.out.trans h3) (by omega))⟩
      all_goals subst hm
      all_goals rfl
end Go.Proofs.YtfniicgoeljmdaaGreat
