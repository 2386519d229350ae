/- Sets that are valid; states in boxes; boxes in boxes: the program. No condition. -/
import Derived.Test.YtfniicgoeljmdaaGreatBox
namespace Go.Proofs.YtfniicgoeljmdaaGreat
open Go.RowKit

def holdsB (b : Bx) (s : St) : Bool := within s.x b.x.lo b.x.hi && within s.y b.y.lo b.y.hi && within s.u b.u.lo b.u.hi && within s.v b.v.lo b.v.hi
theorem holdsB_iff {b : Bx} {s : St} : holdsB b s = true ↔ (b.x.lo ≤ s.x ∧ s.x ≤ b.x.hi) ∧ (b.y.lo ≤ s.y ∧ s.y ≤ b.y.hi) ∧ (b.u.lo ≤ s.u ∧ s.u ≤ b.u.hi) ∧ b.v.lo ≤ s.v ∧ s.v ≤ b.v.hi := by
  simp only [holdsB, within, Bool.and_eq_true, decide_eq_true_eq, and_assoc]
def insideB (a b : Bx) : Bool := (decide (a.x.lo ≤ a.x.hi) && decide (b.x.lo ≤ a.x.lo) && decide (a.x.hi ≤ b.x.hi)) && (decide (a.y.lo ≤ a.y.hi) && decide (b.y.lo ≤ a.y.lo) && decide (a.y.hi ≤ b.y.hi)) && (decide (a.u.lo ≤ a.u.hi) && decide (b.u.lo ≤ a.u.lo) && decide (a.u.hi ≤ b.u.hi)) && (decide (a.v.lo ≤ a.v.hi) && decide (b.v.lo ≤ a.v.lo) && decide (a.v.hi ≤ b.v.hi))
theorem insideB_iff {a b : Bx} : insideB a b = true ↔ (a.x.lo ≤ a.x.hi ∧ b.x.lo ≤ a.x.lo ∧ a.x.hi ≤ b.x.hi) ∧ (a.y.lo ≤ a.y.hi ∧ b.y.lo ≤ a.y.lo ∧ a.y.hi ≤ b.y.hi) ∧ (a.u.lo ≤ a.u.hi ∧ b.u.lo ≤ a.u.lo ∧ a.u.hi ≤ b.u.hi) ∧ a.v.lo ≤ a.v.hi ∧ b.v.lo ≤ a.v.lo ∧ a.v.hi ≤ b.v.hi := by
  simp only [insideB, Bool.and_eq_true, decide_eq_true_eq, and_assoc]

/-- The number k of a state. -/
def numAt (s : St) (k : Nat) (N : Int) : Prop := (k = 0 ∧ N = s.x) ∨ (k = 1 ∧ N = s.y) ∨ (k = 2 ∧ N = s.u) ∨ (k = 3 ∧ N = s.v)
theorem num_some (s : St) {k : Nat} (h : k < 4) : ∃ N, numAt s k N := by
  unfold numAt
  rcases (show k = 0 ∨ k = 1 ∨ k = 2 ∨ k = 3 by omega) with rfl | rfl | rfl | rfl
  · exact ⟨_, .inl ⟨rfl, rfl⟩⟩
  · exact ⟨_, .inr (.inl ⟨rfl, rfl⟩)⟩
  · exact ⟨_, .inr (.inr (.inl ⟨rfl, rfl⟩))⟩
  · exact ⟨_, .inr (.inr (.inr ⟨rfl, rfl⟩))⟩
set_option maxRecDepth 20000 in
set_option maxHeartbeats 4000000 in
theorem oHolds_c (b : Bx) (s : St) (w : World) :
    Calls Tryz.prog 30 #[.agg #[.int .i64 b.x.lo, .int .i64 b.x.hi, .int .i64 b.y.lo, .int .i64 b.y.hi, .int .i64 b.u.lo, .int .i64 b.u.hi, .int .i64 b.v.lo, .int .i64 b.v.hi], .agg #[.int .i64 s.x, .int .i64 s.y, .int .i64 s.u, .int .i64 s.v]] w fun e w' => e = .returned (.bool (holdsB b s)) ∧ Ext w w' := by
  obtain ⟨R, hR⟩ : ∃ R, holdsB b s = R := ⟨_, rfl⟩
  rw [hR]
  have HR : Hid (R = true ↔ (b.x.lo ≤ s.x ∧ s.x ≤ b.x.hi) ∧ (b.y.lo ≤ s.y ∧ s.y ≤ b.y.hi) ∧ (b.u.lo ≤ s.u ∧ s.u ≤ b.u.hi) ∧ b.v.lo ≤ s.v ∧ s.v ≤ b.v.hi) := by rw [← hR]; exact holdsB_iff
  have hix := Lib.hid fun k X Y (h : spanAt b k X Y) => span_ix h
  have hspan := Lib.hid fun k (h : k < 4) => span_some b h
  have hnum := Lib.hid fun k (h : k < 4) => num_some s h
  have HW := Lib.hid fun p q r W => oWithin_c p q r W
  clear hR
  obtain ⟨⟨xl, xh⟩, ⟨yl, yh⟩, ⟨ul, uh⟩, vl, vh⟩ := b
  obtain ⟨sx, sy, su, sv⟩ := s
  dsimp only at hix HR hspan hnum
  unfold spanAt at hspan
  unfold numAt at hnum
  dsimp only at hspan hnum
  go_enter Tryz.func30, Tryz.ntmps30
  go_wp2_with fail
  refine (oOf_c _ _ _ _ _ _ _ _ _).mono ?_
  rintro e w1 ⟨rfl, h1⟩
  have e1 : Ext w w1 := by (repeat' (first | exact Ext.refl _ | assumption | apply Ext.alloc | apply Ext.drew | refine Ext.set ?_ (by dsimp only; omega) _ | refine Ext.trans ?_ (by assumption)))
  have B5 : Blk w1 (w.heap.size + 1 + 1) 115 #[.int .i64 sx, .int .i64 sy, .int .i64 su, .int .i64 sv] := (Blk.newAt (by simp)).ext h1
  clear h1
  go_wp2_with fail
  go_loopw [19] (fun i wr => ∃ k : Nat, k ≤ 4 ∧ i = .int .i64 k ∧ Hid ((0 < k → xl ≤ sx ∧ sx ≤ xh) ∧ (1 < k → yl ≤ sy ∧ sy ≤ yh) ∧ (2 < k → ul ≤ su ∧ su ≤ uh) ∧ (3 < k → vl ≤ sv ∧ sv ≤ vh)) ∧ Ext w1 wr) (fun i _ => 4 - (intOf i).toNat)
  case atStart => exact ⟨0, Nat.zero_le _, rfl, Lib.hid (by omega), Ext.refl _⟩
  case round =>
    obtain ⟨k, hk, rfl, HI, hb⟩ := hrel
    by_cases hk4 : k < 4
    · obtain ⟨X, Y, hX⟩ := hspan.out k hk4
      obtain ⟨N, hN⟩ := hnum.out k hk4
      have ixk := hix.out k X Y hX
      have B6 := (B5.ext hb).cell
      have cN : wr.cell? ⟨w.heap.size + 1 + 1, k, none⟩ = some (.int .i64 N) := by
        rw [B6 k]
        rcases hN with ⟨rfl, rfl⟩ | ⟨rfl, rfl⟩ | ⟨rfl, rfl⟩ | ⟨rfl, rfl⟩ <;> rfl
      have lN : w.heap.size + 1 + 1 < wr.heap.size := (B5.ext hb).lt
      have lN1 : w.heap.size + 1 + 1 < wr.heap.size + 1 := by omega
      have HWk := Lib.hid fun W => HW.out N X Y W
      have hw : within N X Y = true ↔ X ≤ N ∧ N ≤ Y := within_iff _ _ _
      generalize within N X Y = Bn at *
      have HX := Lib.hid hX
      have HN := Lib.hid hN
      have HWi := Lib.hid hw
      clear hX hN hw B6
      cases Bn
      · go_wp2_with fail
        refine wp_region_text (by kernel_rfl) (by kernel_rfl) ?_
        (repeat' (first | (refine bl_off (by rfl) ?_; simp only [Act.put, List.setIfInBounds_toArray, List.set_cons_zero, List.set_cons_succ]) | (apply bl_op; rfl; (intro w1 h1; obtain ⟨hc, hf, hz⟩ := bcell h1; go_simp; (try go_bits); (first | exact ⟨rfl, Ext.refl _⟩ | (apply gives_call; first | (go_at_call 68; exact HWk.out _)) | (go_invoke; go_simp; apply gives_call; first | (go_at_call 68; exact HWk.out _)))); simp only [Act.put, List.setIfInBounds_toArray, List.set_cons_zero, List.set_cons_succ]) | (refine bl_split rfl rfl (fun hx => ?_) (fun hx => ?_) <;> simp only [hx])))
        refine bl_nil ?_
        intro w2 h2
        obtain ⟨hc_w2, hf_w2, hz_w2⟩ := bcell h2; (repeat (first | rw [World.size_alloc] at hz_w2 | rw [World.size_drew] at hz_w2 | rw [World.size_setCell] at hz_w2)); (try (have : w.heap.size < w2.heap.size := (by omega))); (try (have : w.heap.size + 1 < w2.heap.size := (by omega))); (try (have : w.heap.size + 1 + 1 < w2.heap.size := (by omega))); (try (have : w.heap.size + 1 + 1 + 1 < w2.heap.size := (by omega))); (try (have : w.heap.size + 1 + 1 + 1 + 1 < w2.heap.size := (by omega)))
        go_wp2_with fail
        go_ret
        refine ⟨ret_b ?_, by (repeat' (first | exact Ext.refl _ | assumption | apply Ext.alloc | apply Ext.drew | refine Ext.set ?_ (by dsimp only; omega) _ | refine Ext.trans ?_ (by assumption)))⟩
        have h1 : ¬ (X ≤ N ∧ N ≤ Y) := fun q => by have := HWi.out.2 q; cases this
        cases R
        · rfl
        · exfalso
          have := HR.out.1 rfl
          have := HX.out
          have := HN.out
          omega
      · go_wp2_with fail
        refine wp_region_text (by kernel_rfl) (by kernel_rfl) ?_
        (repeat' (first | (refine bl_off (by rfl) ?_; simp only [Act.put, List.setIfInBounds_toArray, List.set_cons_zero, List.set_cons_succ]) | (apply bl_op; rfl; (intro w1 h1; obtain ⟨hc, hf, hz⟩ := bcell h1; go_simp; (try go_bits); (first | exact ⟨rfl, Ext.refl _⟩ | (apply gives_call; first | (go_at_call 68; exact HWk.out _)) | (go_invoke; go_simp; apply gives_call; first | (go_at_call 68; exact HWk.out _)))); simp only [Act.put, List.setIfInBounds_toArray, List.set_cons_zero, List.set_cons_succ]) | (refine bl_split rfl rfl (fun hx => ?_) (fun hx => ?_) <;> simp only [hx])))
        refine bl_nil ?_
        intro w2 h2
        obtain ⟨hc_w2, hf_w2, hz_w2⟩ := bcell h2; (repeat (first | rw [World.size_alloc] at hz_w2 | rw [World.size_drew] at hz_w2 | rw [World.size_setCell] at hz_w2)); (try (have : w.heap.size < w2.heap.size := (by omega))); (try (have : w.heap.size + 1 < w2.heap.size := (by omega))); (try (have : w.heap.size + 1 + 1 < w2.heap.size := (by omega))); (try (have : w.heap.size + 1 + 1 + 1 < w2.heap.size := (by omega))); (try (have : w.heap.size + 1 + 1 + 1 + 1 < w2.heap.size := (by omega)))
        go_wp2_with fail
        go_roundw
        case rel => exact ⟨k + 1, by omega, by go_num, Lib.hid (by have := HWi.out.1 (by simp); have := HX.out; have := HN.out; have := HI.out; omega), by (repeat' (first | exact Ext.refl _ | assumption | apply Ext.alloc | apply Ext.drew | refine Ext.set ?_ (by dsimp only; omega) _ | refine Ext.trans ?_ (by assumption)))⟩
        case measure => simp [intOf]; omega
    · obtain rfl : k = 4 := by omega
      go_wp2_with fail
      go_ret
      exact ⟨ret_b (HR.out.2 (by have := HI.out; omega)).symm, by (repeat' (first | exact Ext.refl _ | assumption | apply Ext.alloc | apply Ext.drew | refine Ext.set ?_ (by dsimp only; omega) _ | refine Ext.trans ?_ (by assumption)))⟩
set_option maxRecDepth 20000 in
set_option maxHeartbeats 4000000 in
theorem oInside_c (a b : Bx) (w : World) :
    Calls Tryz.prog 91 #[.agg #[.int .i64 a.x.lo, .int .i64 a.x.hi, .int .i64 a.y.lo, .int .i64 a.y.hi, .int .i64 a.u.lo, .int .i64 a.u.hi, .int .i64 a.v.lo, .int .i64 a.v.hi], .agg #[.int .i64 b.x.lo, .int .i64 b.x.hi, .int .i64 b.y.lo, .int .i64 b.y.hi, .int .i64 b.u.lo, .int .i64 b.u.hi, .int .i64 b.v.lo, .int .i64 b.v.hi]] w fun e w' => e = .returned (.bool (insideB a b)) ∧ Ext w w' := by
  obtain ⟨R, hR⟩ : ∃ R, insideB a b = R := ⟨_, rfl⟩
  rw [hR]
  have HR : Hid (R = true ↔ (a.x.lo ≤ a.x.hi ∧ b.x.lo ≤ a.x.lo ∧ a.x.hi ≤ b.x.hi) ∧ (a.y.lo ≤ a.y.hi ∧ b.y.lo ≤ a.y.lo ∧ a.y.hi ≤ b.y.hi) ∧ (a.u.lo ≤ a.u.hi ∧ b.u.lo ≤ a.u.lo ∧ a.u.hi ≤ b.u.hi) ∧ a.v.lo ≤ a.v.hi ∧ b.v.lo ≤ a.v.lo ∧ a.v.hi ≤ b.v.hi) := by rw [← hR]; exact insideB_iff
  have hix := Lib.hid fun k X Y (h : spanAt a k X Y) => span_ix h
  have hspan := Lib.hid fun k (h : k < 4) => span_some a h
  have hspan2 := Lib.hid fun k (h : k < 4) => span_some b h
  clear hR
  obtain ⟨⟨xl, xh⟩, ⟨yl, yh⟩, ⟨ul, uh⟩, vl, vh⟩ := a
  obtain ⟨⟨zxl, zxh⟩, ⟨zyl, zyh⟩, ⟨zul, zuh⟩, zvl, zvh⟩ := b
  dsimp only at hix HR hspan hspan2
  unfold spanAt at hspan hspan2
  dsimp only at hspan hspan2
  go_enter Tryz.func91, Tryz.ntmps91
  go_wp2_with fail
  refine (oOf_c _ _ _ _ _ _ _ _ _).mono ?_
  rintro e w1 ⟨rfl, h1⟩
  obtain ⟨hc_w1, hf_w1, hz_w1⟩ := bcell h1; (repeat (first | rw [World.size_alloc] at hz_w1 | rw [World.size_drew] at hz_w1 | rw [World.size_setCell] at hz_w1)); (try (have : w.heap.size < w1.heap.size := (by omega))); (try (have : w.heap.size + 1 < w1.heap.size := (by omega))); (try (have : w.heap.size + 1 + 1 < w1.heap.size := (by omega))); (try (have : w.heap.size + 1 + 1 + 1 < w1.heap.size := (by omega))); (try (have : w.heap.size + 1 + 1 + 1 + 1 < w1.heap.size := (by omega)))
  go_wp2_with fail
  refine (oOf_c _ _ _ _ _ _ _ _ _).mono ?_
  rintro e w2 ⟨rfl, h2⟩
  have e2 : Ext w w2 := by (repeat' (first | exact Ext.refl _ | assumption | apply Ext.alloc | apply Ext.drew | refine Ext.set ?_ (by dsimp only; omega) _ | refine Ext.trans ?_ (by assumption)))
  obtain ⟨b5, h5⟩ : ∃ b, b = w1.heap.size := ⟨_, rfl⟩
  have B5 : Blk w2 b5 119 #[.int .i64 zxl, .int .i64 zxh, .int .i64 zyl, .int .i64 zyh, .int .i64 zul, .int .i64 zuh, .int .i64 zvl, .int .i64 zvh] := (Blk.newAt h5).ext h2
  rw [← h5]
  clear h1 h2 h5 hc_w1 hf_w1
  go_wp2_with fail
  go_loopw [12] (fun i wr => ∃ k : Nat, k ≤ 4 ∧ i = .int .i64 k ∧ Hid ((0 < k → xl ≤ xh ∧ zxl ≤ xl ∧ xh ≤ zxh) ∧ (1 < k → yl ≤ yh ∧ zyl ≤ yl ∧ yh ≤ zyh) ∧ (2 < k → ul ≤ uh ∧ zul ≤ ul ∧ uh ≤ zuh) ∧ (3 < k → vl ≤ vh ∧ zvl ≤ vl ∧ vh ≤ zvh)) ∧ Ext w2 wr) (fun i _ => 4 - (intOf i).toNat)
  case atStart => exact ⟨0, Nat.zero_le _, rfl, Lib.hid (by omega), Ext.refl _⟩
  case round =>
    obtain ⟨k, hk, rfl, HI, hb⟩ := hrel
    by_cases hk4 : k < 4
    · obtain ⟨X, Y, hX⟩ := hspan.out k hk4
      obtain ⟨ZX, ZY, hZ⟩ := hspan2.out k hk4
      have ixk := hix.out k X Y hX
      have B6 := (B5.ext hb).cell
      have cN : wr.cell? ⟨b5, k * 2, none⟩ = some (.int .i64 ZX) ∧ wr.cell? ⟨b5, k * 2 + 1, none⟩ = some (.int .i64 ZY) := by
        rw [B6, B6]
        rcases hZ with ⟨rfl, rfl, rfl⟩ | ⟨rfl, rfl, rfl⟩ | ⟨rfl, rfl, rfl⟩ | ⟨rfl, rfl, rfl⟩ <;> exact ⟨rfl, rfl⟩
      obtain ⟨cN1, cN2⟩ := cN
      have lN : b5 < wr.heap.size := (B5.ext hb).lt
      have lN1 : b5 < wr.heap.size + 1 := by omega
      have HX := Lib.hid hX
      have HZ := Lib.hid hZ
      clear hX hZ B6
      have hno : Hid (¬ (X ≤ Y ∧ ZX ≤ X ∧ Y ≤ ZY) → R = false) := by
        intro q
        cases R
        · rfl
        · exfalso
          have := HR.out.1 rfl
          have := HX.out
          have := HZ.out
          omega
      rcases (show Y < X ∨ (X ≤ Y ∧ X < ZX) ∨ (X ≤ Y ∧ ZX ≤ X ∧ ZY < Y) ∨ (X ≤ Y ∧ ZX ≤ X ∧ Y ≤ ZY) by omega) with c | ⟨c, c2⟩ | ⟨c, c2, c3⟩ | ⟨c, c2, c3⟩
      · have hno2 := Lib.hid (hno.out (by omega))
        have d1 : decide (Y < X) = true := by simp; omega
        go_wp2_with fail
        refine wp_region_text (by kernel_rfl) (by kernel_rfl) ?_
        (repeat' (first | (refine bl_off (by rfl) ?_; simp only [Act.put, List.setIfInBounds_toArray, List.set_cons_zero, List.set_cons_succ]) | (apply bl_op; rfl; (intro w1 h1; obtain ⟨hc, hf, hz⟩ := bcell h1; go_simp; (try go_bits); (first | exact ⟨rfl, Ext.refl _⟩)); simp only [Act.put, List.setIfInBounds_toArray, List.set_cons_zero, List.set_cons_succ]) | (refine bl_split rfl rfl (fun hx => ?_) (fun hx => ?_) <;> simp only [hx])))
        refine bl_nil ?_
        intro w3 h3
        obtain ⟨hc_w3, hf_w3, hz_w3⟩ := bcell h3; (repeat (first | rw [World.size_alloc] at hz_w3 | rw [World.size_drew] at hz_w3 | rw [World.size_setCell] at hz_w3)); (try (have : w.heap.size < w3.heap.size := (by omega))); (try (have : w.heap.size + 1 < w3.heap.size := (by omega))); (try (have : w.heap.size + 1 + 1 < w3.heap.size := (by omega))); (try (have : w.heap.size + 1 + 1 + 1 < w3.heap.size := (by omega))); (try (have : w.heap.size + 1 + 1 + 1 + 1 < w3.heap.size := (by omega)))
        go_wp2_with fail
        go_ret
        exact ⟨ret_b hno2.out.symm, by (repeat' (first | exact Ext.refl _ | assumption | apply Ext.alloc | apply Ext.drew | refine Ext.set ?_ (by dsimp only; omega) _ | refine Ext.trans ?_ (by assumption)))⟩
      · have hno2 := Lib.hid (hno.out (by omega))
        have d1 : decide (Y < X) = false := by simp; omega
        have d2 : decide (X < ZX) = true := by simp; omega
        go_wp2_with fail
        refine wp_region_text (by kernel_rfl) (by kernel_rfl) ?_
        (repeat' (first | (refine bl_off (by rfl) ?_; simp only [Act.put, List.setIfInBounds_toArray, List.set_cons_zero, List.set_cons_succ]) | (apply bl_op; rfl; (intro w1 h1; obtain ⟨hc, hf, hz⟩ := bcell h1; go_simp; (try go_bits); (first | exact ⟨rfl, Ext.refl _⟩)); simp only [Act.put, List.setIfInBounds_toArray, List.set_cons_zero, List.set_cons_succ]) | (refine bl_split rfl rfl (fun hx => ?_) (fun hx => ?_) <;> simp only [hx])))
        refine bl_nil ?_
        intro w3 h3
        obtain ⟨hc_w3, hf_w3, hz_w3⟩ := bcell h3; (repeat (first | rw [World.size_alloc] at hz_w3 | rw [World.size_drew] at hz_w3 | rw [World.size_setCell] at hz_w3)); (try (have : w.heap.size < w3.heap.size := (by omega))); (try (have : w.heap.size + 1 < w3.heap.size := (by omega))); (try (have : w.heap.size + 1 + 1 < w3.heap.size := (by omega))); (try (have : w.heap.size + 1 + 1 + 1 < w3.heap.size := (by omega))); (try (have : w.heap.size + 1 + 1 + 1 + 1 < w3.heap.size := (by omega)))
        go_wp2_with fail
        go_ret
        exact ⟨ret_b hno2.out.symm, by (repeat' (first | exact Ext.refl _ | assumption | apply Ext.alloc | apply Ext.drew | refine Ext.set ?_ (by dsimp only; omega) _ | refine Ext.trans ?_ (by assumption)))⟩
      · have hno2 := Lib.hid (hno.out (by omega))
        have d1 : decide (Y < X) = false := by simp; omega
        have d2 : decide (X < ZX) = false := by simp; omega
        have d3 : decide (ZY < Y) = true := by simp; omega
        go_wp2_with fail
        refine wp_region_text (by kernel_rfl) (by kernel_rfl) ?_
        (repeat' (first | (refine bl_off (by rfl) ?_; simp only [Act.put, List.setIfInBounds_toArray, List.set_cons_zero, List.set_cons_succ]) | (apply bl_op; rfl; (intro w1 h1; obtain ⟨hc, hf, hz⟩ := bcell h1; go_simp; (try go_bits); (first | exact ⟨rfl, Ext.refl _⟩)); simp only [Act.put, List.setIfInBounds_toArray, List.set_cons_zero, List.set_cons_succ]) | (refine bl_split rfl rfl (fun hx => ?_) (fun hx => ?_) <;> simp only [hx])))
        refine bl_nil ?_
        intro w3 h3
        obtain ⟨hc_w3, hf_w3, hz_w3⟩ := bcell h3; (repeat (first | rw [World.size_alloc] at hz_w3 | rw [World.size_drew] at hz_w3 | rw [World.size_setCell] at hz_w3)); (try (have : w.heap.size < w3.heap.size := (by omega))); (try (have : w.heap.size + 1 < w3.heap.size := (by omega))); (try (have : w.heap.size + 1 + 1 < w3.heap.size := (by omega))); (try (have : w.heap.size + 1 + 1 + 1 < w3.heap.size := (by omega))); (try (have : w.heap.size + 1 + 1 + 1 + 1 < w3.heap.size := (by omega)))
        go_wp2_with fail
        go_ret
        exact ⟨ret_b hno2.out.symm, by (repeat' (first | exact Ext.refl _ | assumption | apply Ext.alloc | apply Ext.drew | refine Ext.set ?_ (by dsimp only; omega) _ | refine Ext.trans ?_ (by assumption)))⟩
      · have d1 : decide (Y < X) = false := by simp; omega
        have d2 : decide (X < ZX) = false := by simp; omega
        have d3 : decide (ZY < Y) = false := by simp; omega
        go_wp2_with fail
        refine wp_region_text (by kernel_rfl) (by kernel_rfl) ?_
        (repeat' (first | (refine bl_off (by rfl) ?_; simp only [Act.put, List.setIfInBounds_toArray, List.set_cons_zero, List.set_cons_succ]) | (apply bl_op; rfl; (intro w1 h1; obtain ⟨hc, hf, hz⟩ := bcell h1; go_simp; (try go_bits); (first | exact ⟨rfl, Ext.refl _⟩)); simp only [Act.put, List.setIfInBounds_toArray, List.set_cons_zero, List.set_cons_succ]) | (refine bl_split rfl rfl (fun hx => ?_) (fun hx => ?_) <;> simp only [hx])))
        refine bl_nil ?_
        intro w3 h3
        obtain ⟨hc_w3, hf_w3, hz_w3⟩ := bcell h3; (repeat (first | rw [World.size_alloc] at hz_w3 | rw [World.size_drew] at hz_w3 | rw [World.size_setCell] at hz_w3)); (try (have : w.heap.size < w3.heap.size := (by omega))); (try (have : w.heap.size + 1 < w3.heap.size := (by omega))); (try (have : w.heap.size + 1 + 1 < w3.heap.size := (by omega))); (try (have : w.heap.size + 1 + 1 + 1 < w3.heap.size := (by omega))); (try (have : w.heap.size + 1 + 1 + 1 + 1 < w3.heap.size := (by omega)))
        go_wp2_with fail
        go_roundw
        case rel => exact ⟨k + 1, by omega, by go_num, Lib.hid (by have := HX.out; have := HZ.out; have := HI.out; omega), by (repeat' (first | exact Ext.refl _ | assumption | apply Ext.alloc | apply Ext.drew | refine Ext.set ?_ (by dsimp only; omega) _ | refine Ext.trans ?_ (by assumption)))⟩
        case measure => simp [intOf]; omega
    · obtain rfl : k = 4 := by omega
      go_wp2_with fail
      go_ret
      exact ⟨ret_b (HR.out.2 (by have := HI.out; omega)).symm, by (repeat' (first | exact Ext.refl _ | assumption | apply Ext.alloc | apply Ext.drew | refine Ext.set ?_ (by dsimp only; omega) _ | refine Ext.trans ?_ (by assumption)))⟩
end Go.Proofs.YtfniicgoeljmdaaGreat
