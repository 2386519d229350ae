/- OrbitBoxes, walked: it returns true. No condition. -/
import Derived.Test.YtfniicgoeljmdaaGreatRefHull
import Derived.Test.YtfniicgoeljmdaaGreatOpen3
import Derived.Test.YtfniicgoeljmdaaGreatFreeWalk
namespace Go.Proofs.YtfniicgoeljmdaaGreat
open Go.RowKit Go.ChangeShapes Go.WideShapes Go.ChangeAt

theorem bx_one {w : World} {b : Nat} {t : TypeId} (x : Bx) (h : Blk w b t #[.int .i64 x.x.lo, .int .i64 x.x.hi, .int .i64 x.y.lo, .int .i64 x.y.hi, .int .i64 x.u.lo, .int .i64 x.u.hi, .int .i64 x.v.lo, .int .i64 x.v.hi]) : Bxs w (some ⟨b, 0, none⟩) 1 [x] :=
  bx_slice (t := t) [x] h (by show (1 : Nat) ≤ _; omega)
set_option maxRecDepth 20000 in
set_option maxHeartbeats 4000000 in
theorem OrbitBoxes_big (s : St) (b : Bx) (A : Option Addr) (n c : Nat) (B : Option Addr) (m d : Nat) (w : World) (hn : n ≤ 9223372036854775807) (hm : m ≤ 9223372036854775807) (hbig : (60 < n ∧ n < 512) ∨ 513 < n ∨ 60 < m) :
    Calls Tryz.prog 6 #[.agg #[.int .i64 s.x, .int .i64 s.y, .int .i64 s.u, .int .i64 s.v], .agg #[.int .i64 b.x.lo, .int .i64 b.x.hi, .int .i64 b.y.lo, .int .i64 b.y.hi, .int .i64 b.u.lo, .int .i64 b.u.hi, .int .i64 b.v.lo, .int .i64 b.v.hi], .slice A n c, .slice B m d] w fun e w' => e = .returned (.bool true) ∧ Ext w w' := by
  have HA := Lib.hid fun W => awake4_c W
  rcases (show (60 < n ∧ n < 512) ∨ 513 < n ∨ (n ≤ 60 ∧ 60 < m) ∨ (60 < n ∧ 512 ≤ n ∧ n ≤ 513 ∧ 60 < m) by omega) with ⟨h1, h2⟩ | h1 | ⟨h1, h2⟩ | ⟨h1, h2, h3, h4⟩
  · clear hbig
    go_enter Tryz.func6, Tryz.ntmps6
    go_wp2_with fail
    refine (HA.out _).mono ?_
    rintro e w1 ⟨rfl, h1⟩
    obtain ⟨hc_w1, hf_w1, hz_w1⟩ := bcell h1; (repeat (first | rw [World.size_alloc] at hz_w1 | rw [World.size_drew] at hz_w1 | rw [World.size_setCell] at hz_w1)); (try (have : w.heap.size < w1.heap.size := (by omega))); (try (have : w.heap.size + 1 < w1.heap.size := (by omega))); (try (have : w.heap.size + 1 + 1 < w1.heap.size := (by omega))); (try (have : w.heap.size + 1 + 1 + 1 < w1.heap.size := (by omega))); (try (have : w.heap.size + 1 + 1 + 1 + 1 < w1.heap.size := (by omega)))
    go_wp2_with fail
    go_ret
    exact ⟨rfl, by (repeat' (first | exact Ext.refl _ | assumption | apply Ext.alloc | apply Ext.drew | refine Ext.set ?_ (by dsimp only; omega) _ | refine Ext.trans ?_ (by assumption)))⟩
  · clear hbig
    have h2 : 512 ≤ n := by omega
    have h3 : 60 < n := by omega
    go_enter Tryz.func6, Tryz.ntmps6
    go_wp2_with fail
    refine (HA.out _).mono ?_
    rintro e w1 ⟨rfl, h1⟩
    obtain ⟨hc_w1, hf_w1, hz_w1⟩ := bcell h1; (repeat (first | rw [World.size_alloc] at hz_w1 | rw [World.size_drew] at hz_w1 | rw [World.size_setCell] at hz_w1)); (try (have : w.heap.size < w1.heap.size := (by omega))); (try (have : w.heap.size + 1 < w1.heap.size := (by omega))); (try (have : w.heap.size + 1 + 1 < w1.heap.size := (by omega))); (try (have : w.heap.size + 1 + 1 + 1 < w1.heap.size := (by omega))); (try (have : w.heap.size + 1 + 1 + 1 + 1 < w1.heap.size := (by omega)))
    go_wp2_with fail
    go_ret
    exact ⟨rfl, by (repeat' (first | exact Ext.refl _ | assumption | apply Ext.alloc | apply Ext.drew | refine Ext.set ?_ (by dsimp only; omega) _ | refine Ext.trans ?_ (by assumption)))⟩
  · clear hbig
    have h3 : n ≤ 513 := by omega
    go_enter Tryz.func6, Tryz.ntmps6
    go_wp2_with fail
    refine (HA.out _).mono ?_
    rintro e w1 ⟨rfl, h1⟩
    obtain ⟨hc_w1, hf_w1, hz_w1⟩ := bcell h1; (repeat (first | rw [World.size_alloc] at hz_w1 | rw [World.size_drew] at hz_w1 | rw [World.size_setCell] at hz_w1)); (try (have : w.heap.size < w1.heap.size := (by omega))); (try (have : w.heap.size + 1 < w1.heap.size := (by omega))); (try (have : w.heap.size + 1 + 1 < w1.heap.size := (by omega))); (try (have : w.heap.size + 1 + 1 + 1 < w1.heap.size := (by omega))); (try (have : w.heap.size + 1 + 1 + 1 + 1 < w1.heap.size := (by omega)))
    go_wp2_with fail
    go_ret
    exact ⟨rfl, by (repeat' (first | exact Ext.refl _ | assumption | apply Ext.alloc | apply Ext.drew | refine Ext.set ?_ (by dsimp only; omega) _ | refine Ext.trans ?_ (by assumption)))⟩
  · clear hbig
    go_enter Tryz.func6, Tryz.ntmps6
    go_wp2_with fail
    refine (HA.out _).mono ?_
    rintro e w1 ⟨rfl, h1⟩
    obtain ⟨hc_w1, hf_w1, hz_w1⟩ := bcell h1; (repeat (first | rw [World.size_alloc] at hz_w1 | rw [World.size_drew] at hz_w1 | rw [World.size_setCell] at hz_w1)); (try (have : w.heap.size < w1.heap.size := (by omega))); (try (have : w.heap.size + 1 < w1.heap.size := (by omega))); (try (have : w.heap.size + 1 + 1 < w1.heap.size := (by omega))); (try (have : w.heap.size + 1 + 1 + 1 < w1.heap.size := (by omega))); (try (have : w.heap.size + 1 + 1 + 1 + 1 < w1.heap.size := (by omega)))
    go_wp2_with fail
    go_ret
    exact ⟨rfl, by (repeat' (first | exact Ext.refl _ | assumption | apply Ext.alloc | apply Ext.drew | refine Ext.set ?_ (by dsimp only; omega) _ | refine Ext.trans ?_ (by assumption)))⟩
set_option maxRecDepth 20000 in
set_option maxHeartbeats 8000000 in
theorem OrbitBoxes_c (s : St) (b : Bx) (A : Option Addr) (n c : Nat) (l : List Bx) (B : Option Addr) (m d : Nat) (r : List Bx) (w : World) (hl : Bxs w A n l) (hcap : n ≤ c) (hr : Bxs w B m r) (_ : m ≤ d) :
    Calls Tryz.prog 6 #[.agg #[.int .i64 s.x, .int .i64 s.y, .int .i64 s.u, .int .i64 s.v], .agg #[.int .i64 b.x.lo, .int .i64 b.x.hi, .int .i64 b.y.lo, .int .i64 b.y.hi, .int .i64 b.u.lo, .int .i64 b.u.hi, .int .i64 b.v.lo, .int .i64 b.v.hi], .slice A n c, .slice B m d] w fun e w' => e = .returned (.bool true) ∧ Ext w w' := by
  have hn := hl.le
  have hm := hr.le
  by_cases hbig : (60 < n ∧ n < 512) ∨ 513 < n ∨ 60 < m
  · exact OrbitBoxes_big s b A n c B m d w hn hm hbig
  have HA := Lib.hid fun W => awake4_c W
  have HH := Lib.hid fun W (hW : Ext w W) => oHull_c A n c l W (Bxs.ext hW hl) hcap
  have GH := Lib.hid fun W (hW : Ext w W) => rHull_c A n c l W (Bxs.ext hW hl)
  have H1 := Lib.hid fun W => oCheckState_c s.x s.y s.u s.v W
  have G1 := Lib.hid fun W => rCheckState_c s.x s.y s.u s.v W
  have H2 := Lib.hid fun W => oCheck_c b W
  have G2 := Lib.hid fun W => rCheckBox_c b W
  have H3 := Lib.hid fun W (hW : Ext w W) => oCheckSet_c A n c l W (Bxs.ext hW hl)
  have G3 := Lib.hid fun W (hW : Ext w W) => rCheckSet_c A n c l W (Bxs.ext hW hl)
  have H4 := Lib.hid fun W => oHolds_c b s W
  have G4 := Lib.hid fun W => rHolds_c b s.x s.y s.u s.v W
  have H5 := Lib.hid fun W (hW : Ext w W) => oIn_c A n c l s W (Bxs.ext hW hl)
  have G5 := Lib.hid fun W (hW : Ext w W) => rIn_c A n c l s W (Bxs.ext hW hl)
  have H6 := Lib.hid fun W (hW : Ext w W) => oWithinSet_c A B n m c d l r W (Bxs.ext hW hl) (Bxs.ext hW hr)
  have G6 := Lib.hid fun W (hW : Ext w W) => rWithinSet_c A B n m c d l r W (Bxs.ext hW hl) (Bxs.ext hW hr)
  have H7 := Lib.hid fun W g (hW : Ext w W) (hB : Blk W g 38 #[.int .i64 b.x.lo, .int .i64 b.x.hi, .int .i64 b.y.lo, .int .i64 b.y.hi, .int .i64 b.u.lo, .int .i64 b.u.hi, .int .i64 b.v.lo, .int .i64 b.v.hi]) => oWithinSet_c B (some ⟨g, 0, none⟩) m 1 d 1 r [b] W (Bxs.ext hW hr) (bx_one b hB)
  have G7 := Lib.hid fun W g (hW : Ext w W) (hB : Blk W g 38 #[.int .i64 b.x.lo, .int .i64 b.x.hi, .int .i64 b.y.lo, .int .i64 b.y.hi, .int .i64 b.u.lo, .int .i64 b.u.hi, .int .i64 b.v.lo, .int .i64 b.v.hi]) => rWithinSet_c B (some ⟨g, 0, none⟩) m 1 d 1 r [b] W (Bxs.ext hW hr) (bx_one b hB)
  change Hid (∀ W, Calls _ _ _ W fun e w' => e = .returned (.int .i64 (stErr s)) ∧ _) at G1
  change Hid (∀ W, Calls _ _ _ W fun e w' => e = .returned (.int .i64 (stErr s)) ∧ _) at H1
  change Hid (∀ W, Calls _ _ _ W fun e w' => e = .returned (.bool (holdsB b s)) ∧ _) at G4
  generalize hullM l = M at *
  generalize hullOk l = K at *
  generalize stErr s = E1 at *
  generalize bxErr b = E2 at *
  generalize setErr l = E3 at *
  generalize holdsB b s = E4 at *
  generalize inSet l s = E5 at *
  generalize withinS l r = E6 at *
  generalize withinS r [b] = E7 at *
  obtain ⟨⟨xl, xh⟩, ⟨yl, yh⟩, ⟨ul, uh⟩, vl, vh⟩ := b
  obtain ⟨sx, sy, su, sv⟩ := s
  obtain ⟨⟨mxl, mxh⟩, ⟨myl, myh⟩, ⟨mul, muh⟩, mvl, mvh⟩ := M
  dsimp only at *
  clear hl hr hcap
  rcases (show n ≤ 60 ∨ (60 < n ∧ 512 ≤ n ∧ n ≤ 513) by omega) with h1 | ⟨h1, h2, h3⟩
  all_goals have hm6 : m ≤ 60 := by omega
  all_goals (try have h2 : n ≤ 513 := by omega)
  all_goals clear hbig
  all_goals go_enter Tryz.func6, Tryz.ntmps6
  all_goals go_wp2_with fail
  all_goals (refine (HH.out _ (by (repeat' (first | exact Ext.refl _ | assumption | apply Ext.alloc | apply Ext.drew | refine Ext.set ?_ (by dsimp only; omega) _ | refine Ext.trans ?_ (by assumption))))).mono ?_)
  all_goals rintro e V1 ⟨rfl, hV1⟩
  all_goals obtain ⟨g4, h4⟩ : ∃ b, b = w.heap.size := ⟨_, rfl⟩
  all_goals have B4 : Blk V1 g4 30 #[.int .i64 sx, .int .i64 sy, .int .i64 su, .int .i64 sv] := by rw [h4]; exact ((Blk.new w _ _).alloc _).ext hV1
  all_goals have B5 : Blk V1 (g4 + 1) 38 #[.int .i64 xl, .int .i64 xh, .int .i64 yl, .int .i64 yh, .int .i64 ul, .int .i64 uh, .int .i64 vl, .int .i64 vh] := by rw [h4]; exact (Blk.newAt (by simp)).ext hV1
  all_goals have E : Ext w V1 := by (repeat' (first | exact Ext.refl _ | assumption | apply Ext.alloc | apply Ext.drew | refine Ext.set ?_ (by dsimp only; omega) _ | refine Ext.trans ?_ (by assumption)))
  all_goals (have o1 : w.heap.size ≤ g4 := by omega)
  all_goals rw [← h4]
  all_goals clear h4 hV1
  all_goals have c_B4 := B4.cell; have f_B4 := B4.frozen; have l_B4 := B4.lt; have c_B5 := B5.cell; have f_B5 := B5.frozen; have l_B5 := B5.lt
  all_goals go_wp2_with fail
  all_goals (refine (GH.out _ (by (repeat' (first | exact Ext.refl _ | assumption | apply Ext.alloc | apply Ext.drew | refine Ext.set ?_ (by dsimp only; omega) _ | refine Ext.trans ?_ (by assumption))))).mono ?_)
  all_goals rintro e V2 ⟨rfl, hV2⟩
  all_goals obtain ⟨g9, h9⟩ : ∃ b, b = V1.heap.size := ⟨_, rfl⟩
  all_goals have B9 : Blk V2 g9 38 #[.int .i64 mxl, .int .i64 mxh, .int .i64 myl, .int .i64 myh, .int .i64 mul, .int .i64 muh, .int .i64 mvl, .int .i64 mvh] := (Blk.newAt h9).ext hV2
  all_goals clear c_B4 f_B4 l_B4 c_B5 f_B5 l_B5
  all_goals replace B4 := (B4.alloc _).ext hV2
  all_goals replace B5 := (B5.alloc _).ext hV2
  all_goals replace E : Ext w V2 := Ext.trans (by (repeat' (first | exact Ext.refl _ | assumption | apply Ext.alloc | apply Ext.drew | refine Ext.set ?_ (by dsimp only; omega) _ | refine Ext.trans ?_ (by assumption)))) hV2
  all_goals rw [← h9]
  all_goals clear hV2 h9
  all_goals have c_B4 := B4.cell; have f_B4 := B4.frozen; have l_B4 := B4.lt; have c_B5 := B5.cell; have f_B5 := B5.frozen; have l_B5 := B5.lt; have c_B9 := B9.cell; have f_B9 := B9.frozen; have l_B9 := B9.lt
  all_goals go_wp2_with fail
  all_goals (refine name_world _ ?_; intro V3 hV3)
  all_goals obtain ⟨g11, h11⟩ : ∃ b, b = V2.heap.size := ⟨_, rfl⟩
  all_goals have B11 : Blk V3 g11 38 #[.int .i64 mxl, .int .i64 mxh, .int .i64 myl, .int .i64 myh, .int .i64 mul, .int .i64 muh, .int .i64 mvl, .int .i64 mvh] := by rw [hV3]; exact Blk.newAt h11
  all_goals clear c_B4 f_B4 l_B4 c_B5 f_B5 l_B5 c_B9 f_B9 l_B9
  all_goals have hx3 : Ext V2 V3 := by rw [hV3]; exact Ext.alloc0 _ _
  all_goals replace B4 := B4.ext hx3
  all_goals replace B5 := B5.ext hx3
  all_goals replace B9 := B9.ext hx3
  all_goals replace E := E.trans hx3
  all_goals clear hx3
  all_goals rw [← h11]
  all_goals clear hV3 h11
  all_goals have c_B4 := B4.cell; have f_B4 := B4.frozen; have l_B4 := B4.lt; have c_B5 := B5.cell; have f_B5 := B5.frozen; have l_B5 := B5.lt; have c_B9 := B9.cell; have f_B9 := B9.frozen; have l_B9 := B9.lt; have c_B11 := B11.cell; have f_B11 := B11.frozen; have l_B11 := B11.lt
  all_goals refine wp_region_free (by kernel_rfl) (by kernel_rfl) ?_
  all_goals (repeat' (first | (refine fb_off (by rfl) (by rfl) ?_; simp only [Act.put, List.setIfInBounds_toArray, List.set_cons_zero, List.set_cons_succ]) | (apply fb_op; rfl; rfl; (intro w1 h1; obtain ⟨hc, hf, hz⟩ := bcell h1; go_simp; (try go_bits); (first | exact ⟨rfl, Ext.refl _⟩ | (apply gives_call; first | (go_at_call 35; exact H1.out _) | (go_at_call 36; exact G1.out _) | (go_at_call 37; exact H2.out _) | (go_at_call 38; exact G2.out _) | (go_at_call 39; exact H3.out _ (by (repeat' (first | exact Ext.refl _ | assumption | apply Ext.alloc | apply Ext.drew | refine Ext.set ?_ (by dsimp only; omega) _ | refine Ext.trans ?_ (by assumption))))) | (go_at_call 40; exact G3.out _ (by (repeat' (first | exact Ext.refl _ | assumption | apply Ext.alloc | apply Ext.drew | refine Ext.set ?_ (by dsimp only; omega) _ | refine Ext.trans ?_ (by assumption))))) | (go_at_call 30; exact H4.out _) | (go_at_call 41; exact G4.out _) | (go_at_call 42; exact H5.out _ (by (repeat' (first | exact Ext.refl _ | assumption | apply Ext.alloc | apply Ext.drew | refine Ext.set ?_ (by dsimp only; omega) _ | refine Ext.trans ?_ (by assumption))))) | (go_at_call 43; exact G5.out _ (by (repeat' (first | exact Ext.refl _ | assumption | apply Ext.alloc | apply Ext.drew | refine Ext.set ?_ (by dsimp only; omega) _ | refine Ext.trans ?_ (by assumption))))) | (go_at_call 32; exact H6.out _ (by (repeat' (first | exact Ext.refl _ | assumption | apply Ext.alloc | apply Ext.drew | refine Ext.set ?_ (by dsimp only; omega) _ | refine Ext.trans ?_ (by assumption))))) | (go_at_call 44; exact G6.out _ (by (repeat' (first | exact Ext.refl _ | assumption | apply Ext.alloc | apply Ext.drew | refine Ext.set ?_ (by dsimp only; omega) _ | refine Ext.trans ?_ (by assumption))))) | (go_at_call 17; exact HA.out _)) | (go_invoke; go_simp; apply gives_call; first | (go_at_call 35; exact H1.out _) | (go_at_call 36; exact G1.out _) | (go_at_call 37; exact H2.out _) | (go_at_call 38; exact G2.out _) | (go_at_call 39; exact H3.out _ (by (repeat' (first | exact Ext.refl _ | assumption | apply Ext.alloc | apply Ext.drew | refine Ext.set ?_ (by dsimp only; omega) _ | refine Ext.trans ?_ (by assumption))))) | (go_at_call 40; exact G3.out _ (by (repeat' (first | exact Ext.refl _ | assumption | apply Ext.alloc | apply Ext.drew | refine Ext.set ?_ (by dsimp only; omega) _ | refine Ext.trans ?_ (by assumption))))) | (go_at_call 30; exact H4.out _) | (go_at_call 41; exact G4.out _) | (go_at_call 42; exact H5.out _ (by (repeat' (first | exact Ext.refl _ | assumption | apply Ext.alloc | apply Ext.drew | refine Ext.set ?_ (by dsimp only; omega) _ | refine Ext.trans ?_ (by assumption))))) | (go_at_call 43; exact G5.out _ (by (repeat' (first | exact Ext.refl _ | assumption | apply Ext.alloc | apply Ext.drew | refine Ext.set ?_ (by dsimp only; omega) _ | refine Ext.trans ?_ (by assumption))))) | (go_at_call 32; exact H6.out _ (by (repeat' (first | exact Ext.refl _ | assumption | apply Ext.alloc | apply Ext.drew | refine Ext.set ?_ (by dsimp only; omega) _ | refine Ext.trans ?_ (by assumption))))) | (go_at_call 44; exact G6.out _ (by (repeat' (first | exact Ext.refl _ | assumption | apply Ext.alloc | apply Ext.drew | refine Ext.set ?_ (by dsimp only; omega) _ | refine Ext.trans ?_ (by assumption))))) | (go_at_call 17; exact HA.out _)))); simp only [Act.put, List.setIfInBounds_toArray, List.set_cons_zero, List.set_cons_succ]) | (apply fb_slice; rfl; rfl; (intro w1 h1; obtain ⟨hc, hf, hz⟩ := bcell h1; go_simp; first | rfl | exact ⟨⟨rfl, rfl⟩, rfl⟩)) | (apply fb_use; rfl; (intro u; rfl); (rintro u w1 h1 ⟨b, rfl, hB⟩; obtain ⟨hc, hf, hz⟩ := bcell h1; (try simp only [opAt]); go_simp; (first | exact ⟨rfl, Ext.refl _⟩ | (apply gives_call; first | (go_at_call 32; exact H7.out _ _ (by (repeat' (first | exact Ext.refl _ | assumption | apply Ext.alloc | apply Ext.drew | refine Ext.set ?_ (by dsimp only; omega) _ | refine Ext.trans ?_ (by assumption)))) hB) | (go_at_call 44; exact G7.out _ _ (by (repeat' (first | exact Ext.refl _ | assumption | apply Ext.alloc | apply Ext.drew | refine Ext.set ?_ (by dsimp only; omega) _ | refine Ext.trans ?_ (by assumption)))) hB)) | (go_invoke; go_simp; apply gives_call; first | (go_at_call 32; exact H7.out _ _ (by (repeat' (first | exact Ext.refl _ | assumption | apply Ext.alloc | apply Ext.drew | refine Ext.set ?_ (by dsimp only; omega) _ | refine Ext.trans ?_ (by assumption)))) hB) | (go_at_call 44; exact G7.out _ _ (by (repeat' (first | exact Ext.refl _ | assumption | apply Ext.alloc | apply Ext.drew | refine Ext.set ?_ (by dsimp only; omega) _ | refine Ext.trans ?_ (by assumption)))) hB)))); simp only [Act.put, List.setIfInBounds_toArray, List.set_cons_zero, List.set_cons_succ]) | (refine fb_split rfl rfl (fun hx => ?_) (fun hx => ?_) <;> simp only [hx])))
  all_goals refine fb_nil ?_
  all_goals (intro val w5 h5 hg; clear hg; simp only [putV, Act.put, List.setIfInBounds_toArray, List.set_cons_zero, List.set_cons_succ])
  all_goals obtain ⟨hc_w5, hf_w5, hz_w5⟩ := bcell h5; (repeat (first | rw [World.size_alloc] at hz_w5 | rw [World.size_drew] at hz_w5 | rw [World.size_setCell] at hz_w5)); (try (have : w.heap.size < w5.heap.size := (by omega))); (try (have : w.heap.size + 1 < w5.heap.size := (by omega))); (try (have : w.heap.size + 1 + 1 < w5.heap.size := (by omega))); (try (have : w.heap.size + 1 + 1 + 1 < w5.heap.size := (by omega))); (try (have : w.heap.size + 1 + 1 + 1 + 1 < w5.heap.size := (by omega)))
  all_goals go_wp2_with fail
  all_goals go_ret
  all_goals exact ⟨rfl, by (repeat' (first | exact Ext.refl _ | assumption | apply Ext.alloc | apply Ext.drew | refine Ext.set ?_ (by dsimp only; omega) _ | refine Ext.trans ?_ (by assumption)))⟩
end Go.Proofs.YtfniicgoeljmdaaGreat
