/- States, boxes and sets that are valid: the program. No condition. Sets that are valid; states in boxes; boxes in boxes: the program. No condition. Distances, and a number times a vector over squares: the reference. No condition. A number times a vector over squares: the reference. No condition. -/
import Derived.Test.YtfniicgoeljmdaaGreatForceAt
import Derived.Test.YtfniicgoeljmdaaGreatRefForce
import Derived.Test.YtfniicgoeljmdaaGreatForceOf
namespace Go.Proofs.YtfniicgoeljmdaaGreat
open Go.RowKit

def stErr (s : St) : Int := if within s.x (-33554432) 33554432 && within s.y (-33554432) 33554432 && within s.u (-1048576) 1048576 && within s.v (-1048576) 1048576 then 0 else 2
theorem stErr_two (s : St) : stErr s = 0 ∨ stErr s = 2 := by unfold stErr; split <;> simp
theorem stErr_ok {s : St} : stErr s = 0 ↔ (-33554432 ≤ s.x ∧ s.x ≤ 33554432) ∧ (-33554432 ≤ s.y ∧ s.y ≤ 33554432) ∧ (-1048576 ≤ s.u ∧ s.u ≤ 1048576) ∧ -1048576 ≤ s.v ∧ s.v ≤ 1048576 := by
  unfold stErr
  by_cases h : (within s.x (-33554432) 33554432 && within s.y (-33554432) 33554432 && within s.u (-1048576) 1048576 && within s.v (-1048576) 1048576) = true
  · rw [if_pos h]
    simp only [within, Bool.and_eq_true, decide_eq_true_eq] at h
    exact ⟨fun _ => by omega, fun _ => rfl⟩
  · rw [if_neg h]
    simp only [within, Bool.and_eq_true, decide_eq_true_eq] at h
    exact ⟨fun h => (by cases h), fun q => absurd (by omega) h⟩
def fullB (b : Bx) : Bool := decide (b.x.lo ≤ b.x.hi) && decide (b.y.lo ≤ b.y.hi) && decide (b.u.lo ≤ b.u.hi) && decide (b.v.lo ≤ b.v.hi)
theorem fullB_iff {b : Bx} : fullB b = true ↔ b.x.lo ≤ b.x.hi ∧ b.y.lo ≤ b.y.hi ∧ b.u.lo ≤ b.u.hi ∧ b.v.lo ≤ b.v.hi := by simp only [fullB, Bool.and_eq_true, decide_eq_true_eq, and_assoc]
def lowS (b : Bx) : St := ⟨b.x.lo, b.y.lo, b.u.lo, b.v.lo⟩
def highS (b : Bx) : St := ⟨b.x.hi, b.y.hi, b.u.hi, b.v.hi⟩
def bxErr (b : Bx) : Int := if fullB b then max (stErr (lowS b)) (stErr (highS b)) else 2
/-- The span number k of a box. -/
def spanAt (b : Bx) (k : Nat) (X Y : Int) : Prop := (k = 0 ∧ X = b.x.lo ∧ Y = b.x.hi) ∨ (k = 1 ∧ X = b.y.lo ∧ Y = b.y.hi) ∨ (k = 2 ∧ X = b.u.lo ∧ Y = b.u.hi) ∨ (k = 3 ∧ X = b.v.lo ∧ Y = b.v.hi)
theorem span_some (b : Bx) {k : Nat} (h : k < 4) : ∃ X Y, spanAt b k X Y := by
  unfold spanAt
  rcases (show k = 0 ∨ k = 1 ∨ k = 2 ∨ k = 3 by omega) with rfl | rfl | rfl | rfl
  · exact ⟨_, _, .inl ⟨rfl, rfl, rfl⟩⟩
  · exact ⟨_, _, .inr (.inl ⟨rfl, rfl, rfl⟩)⟩
  · exact ⟨_, _, .inr (.inr (.inl ⟨rfl, rfl, rfl⟩))⟩
  · exact ⟨_, _, .inr (.inr (.inr ⟨rfl, rfl, rfl⟩))⟩
theorem span_ix {b : Bx} {k : Nat} {X Y : Int} (h : spanAt b k X Y) : ∀ W, (Instr.index 119 (.agg #[.int .i64 b.x.lo, .int .i64 b.x.hi, .int .i64 b.y.lo, .int .i64 b.y.hi, .int .i64 b.u.lo, .int .i64 b.u.hi, .int .i64 b.v.lo, .int .i64 b.v.hi]) (.int .i64 (k : Int))).run Tryz.prog W = .ok (.agg #[.int .i64 X, .int .i64 Y]) W := by
  rcases h with ⟨rfl, rfl, rfl⟩ | ⟨rfl, rfl, rfl⟩ | ⟨rfl, rfl, rfl⟩ | ⟨rfl, rfl, rfl⟩ <;> intro W <;> kernel_rfl

set_option maxHeartbeats 400000 in
theorem oWithin_c (a b c : Int) (w : World) :
    Calls Tryz.prog 68 #[.int .i64 a, .int .i64 b, .int .i64 c] w fun e w' => e = .returned (.bool (within a b c)) ∧ Ext w w' := by
  go_enter Tryz.func68, Tryz.ntmps68
  go_wp2
  all_goals go_ret
  all_goals exact ⟨ret_b (by simp [within, *] <;> omega), Ext.refl _⟩
set_option maxHeartbeats 2000000 in
theorem oCheckState_c (x y u v : Int) (w : World) :
    Calls Tryz.prog 35 #[.agg #[.int .i64 x, .int .i64 y, .int .i64 u, .int .i64 v]] w fun e w' => e = .returned (.int .i64 (stErr ⟨x, y, u, v⟩)) ∧ Ext w w' := by
  have H1 := Lib.hid fun W => oWithin_c x (-33554432) 33554432 W
  have H2 := Lib.hid fun W => oWithin_c y (-33554432) 33554432 W
  have H3 := Lib.hid fun W => oWithin_c u (-1048576) 1048576 W
  have H4 := Lib.hid fun W => oWithin_c v (-1048576) 1048576 W
  unfold stErr
  dsimp only
  generalize within x (-33554432) 33554432 = b1 at *
  generalize within y (-33554432) 33554432 = b2 at *
  generalize within u (-1048576) 1048576 = b3 at *
  generalize within v (-1048576) 1048576 = b4 at *
  cases b1
  · go_enter Tryz.func35, Tryz.ntmps35
    go_wp2_with fail
    refine (H1.out _).mono ?_
    rintro e w1 ⟨rfl, h1⟩
    obtain ⟨hc_w1, hf_w1, hz_w1⟩ := bcell h1; (repeat (first | rw [World.size_alloc] at hz_w1 | rw [World.size_drew] at hz_w1 | rw [World.size_setCell] at hz_w1)); (try (have : w.heap.size < w1.heap.size := (by omega))); (try (have : w.heap.size + 1 < w1.heap.size := (by omega))); (try (have : w.heap.size + 1 + 1 < w1.heap.size := (by omega))); (try (have : w.heap.size + 1 + 1 + 1 < w1.heap.size := (by omega))); (try (have : w.heap.size + 1 + 1 + 1 + 1 < w1.heap.size := (by omega)))
    go_wp2_with fail
    go_ret
    exact ⟨rfl, by (repeat' (first | exact Ext.refl _ | assumption | apply Ext.alloc | apply Ext.drew | refine Ext.set ?_ (by dsimp only; omega) _ | refine Ext.trans ?_ (by assumption)))⟩
  · cases b2
    · go_enter Tryz.func35, Tryz.ntmps35
      go_wp2_with fail
      refine (H1.out _).mono ?_
      rintro e w1 ⟨rfl, h1⟩
      obtain ⟨hc_w1, hf_w1, hz_w1⟩ := bcell h1; (repeat (first | rw [World.size_alloc] at hz_w1 | rw [World.size_drew] at hz_w1 | rw [World.size_setCell] at hz_w1)); (try (have : w.heap.size < w1.heap.size := (by omega))); (try (have : w.heap.size + 1 < w1.heap.size := (by omega))); (try (have : w.heap.size + 1 + 1 < w1.heap.size := (by omega))); (try (have : w.heap.size + 1 + 1 + 1 < w1.heap.size := (by omega))); (try (have : w.heap.size + 1 + 1 + 1 + 1 < w1.heap.size := (by omega)))
      go_wp2_with fail
      refine (H2.out _).mono ?_
      rintro e w2 ⟨rfl, h2⟩
      obtain ⟨hc_w2, hf_w2, hz_w2⟩ := bcell h2; (repeat (first | rw [World.size_alloc] at hz_w2 | rw [World.size_drew] at hz_w2 | rw [World.size_setCell] at hz_w2)); (try (have : w.heap.size < w2.heap.size := (by omega))); (try (have : w.heap.size + 1 < w2.heap.size := (by omega))); (try (have : w.heap.size + 1 + 1 < w2.heap.size := (by omega))); (try (have : w.heap.size + 1 + 1 + 1 < w2.heap.size := (by omega))); (try (have : w.heap.size + 1 + 1 + 1 + 1 < w2.heap.size := (by omega)))
      go_wp2_with fail
      go_ret
      exact ⟨rfl, by (repeat' (first | exact Ext.refl _ | assumption | apply Ext.alloc | apply Ext.drew | refine Ext.set ?_ (by dsimp only; omega) _ | refine Ext.trans ?_ (by assumption)))⟩
    · cases b3
      · go_enter Tryz.func35, Tryz.ntmps35
        go_wp2_with fail
        refine (H1.out _).mono ?_
        rintro e w1 ⟨rfl, h1⟩
        obtain ⟨hc_w1, hf_w1, hz_w1⟩ := bcell h1; (repeat (first | rw [World.size_alloc] at hz_w1 | rw [World.size_drew] at hz_w1 | rw [World.size_setCell] at hz_w1)); (try (have : w.heap.size < w1.heap.size := (by omega))); (try (have : w.heap.size + 1 < w1.heap.size := (by omega))); (try (have : w.heap.size + 1 + 1 < w1.heap.size := (by omega))); (try (have : w.heap.size + 1 + 1 + 1 < w1.heap.size := (by omega))); (try (have : w.heap.size + 1 + 1 + 1 + 1 < w1.heap.size := (by omega)))
        go_wp2_with fail
        refine (H2.out _).mono ?_
        rintro e w2 ⟨rfl, h2⟩
        obtain ⟨hc_w2, hf_w2, hz_w2⟩ := bcell h2; (repeat (first | rw [World.size_alloc] at hz_w2 | rw [World.size_drew] at hz_w2 | rw [World.size_setCell] at hz_w2)); (try (have : w.heap.size < w2.heap.size := (by omega))); (try (have : w.heap.size + 1 < w2.heap.size := (by omega))); (try (have : w.heap.size + 1 + 1 < w2.heap.size := (by omega))); (try (have : w.heap.size + 1 + 1 + 1 < w2.heap.size := (by omega))); (try (have : w.heap.size + 1 + 1 + 1 + 1 < w2.heap.size := (by omega)))
        go_wp2_with fail
        refine (H3.out _).mono ?_
        rintro e w3 ⟨rfl, h3⟩
        obtain ⟨hc_w3, hf_w3, hz_w3⟩ := bcell h3; (repeat (first | rw [World.size_alloc] at hz_w3 | rw [World.size_drew] at hz_w3 | rw [World.size_setCell] at hz_w3)); (try (have : w.heap.size < w3.heap.size := (by omega))); (try (have : w.heap.size + 1 < w3.heap.size := (by omega))); (try (have : w.heap.size + 1 + 1 < w3.heap.size := (by omega))); (try (have : w.heap.size + 1 + 1 + 1 < w3.heap.size := (by omega))); (try (have : w.heap.size + 1 + 1 + 1 + 1 < w3.heap.size := (by omega)))
        go_wp2_with fail
        go_ret
        exact ⟨rfl, by (repeat' (first | exact Ext.refl _ | assumption | apply Ext.alloc | apply Ext.drew | refine Ext.set ?_ (by dsimp only; omega) _ | refine Ext.trans ?_ (by assumption)))⟩
      · cases b4
        all_goals
          go_enter Tryz.func35, Tryz.ntmps35
          go_wp2_with fail
          refine (H1.out _).mono ?_
          rintro e w1 ⟨rfl, h1⟩
          obtain ⟨hc_w1, hf_w1, hz_w1⟩ := bcell h1; (repeat (first | rw [World.size_alloc] at hz_w1 | rw [World.size_drew] at hz_w1 | rw [World.size_setCell] at hz_w1)); (try (have : w.heap.size < w1.heap.size := (by omega))); (try (have : w.heap.size + 1 < w1.heap.size := (by omega))); (try (have : w.heap.size + 1 + 1 < w1.heap.size := (by omega))); (try (have : w.heap.size + 1 + 1 + 1 < w1.heap.size := (by omega))); (try (have : w.heap.size + 1 + 1 + 1 + 1 < w1.heap.size := (by omega)))
          go_wp2_with fail
          refine (H2.out _).mono ?_
          rintro e w2 ⟨rfl, h2⟩
          obtain ⟨hc_w2, hf_w2, hz_w2⟩ := bcell h2; (repeat (first | rw [World.size_alloc] at hz_w2 | rw [World.size_drew] at hz_w2 | rw [World.size_setCell] at hz_w2)); (try (have : w.heap.size < w2.heap.size := (by omega))); (try (have : w.heap.size + 1 < w2.heap.size := (by omega))); (try (have : w.heap.size + 1 + 1 < w2.heap.size := (by omega))); (try (have : w.heap.size + 1 + 1 + 1 < w2.heap.size := (by omega))); (try (have : w.heap.size + 1 + 1 + 1 + 1 < w2.heap.size := (by omega)))
          go_wp2_with fail
          refine (H3.out _).mono ?_
          rintro e w3 ⟨rfl, h3⟩
          obtain ⟨hc_w3, hf_w3, hz_w3⟩ := bcell h3; (repeat (first | rw [World.size_alloc] at hz_w3 | rw [World.size_drew] at hz_w3 | rw [World.size_setCell] at hz_w3)); (try (have : w.heap.size < w3.heap.size := (by omega))); (try (have : w.heap.size + 1 < w3.heap.size := (by omega))); (try (have : w.heap.size + 1 + 1 < w3.heap.size := (by omega))); (try (have : w.heap.size + 1 + 1 + 1 < w3.heap.size := (by omega))); (try (have : w.heap.size + 1 + 1 + 1 + 1 < w3.heap.size := (by omega)))
          go_wp2_with fail
          refine (H4.out _).mono ?_
          rintro e w4 ⟨rfl, h4⟩
          obtain ⟨hc_w4, hf_w4, hz_w4⟩ := bcell h4; (repeat (first | rw [World.size_alloc] at hz_w4 | rw [World.size_drew] at hz_w4 | rw [World.size_setCell] at hz_w4)); (try (have : w.heap.size < w4.heap.size := (by omega))); (try (have : w.heap.size + 1 < w4.heap.size := (by omega))); (try (have : w.heap.size + 1 + 1 < w4.heap.size := (by omega))); (try (have : w.heap.size + 1 + 1 + 1 < w4.heap.size := (by omega))); (try (have : w.heap.size + 1 + 1 + 1 + 1 < w4.heap.size := (by omega)))
          go_wp2_with fail
          go_ret
          exact ⟨rfl, by (repeat' (first | exact Ext.refl _ | assumption | apply Ext.alloc | apply Ext.drew | refine Ext.set ?_ (by dsimp only; omega) _ | refine Ext.trans ?_ (by assumption)))⟩
set_option maxHeartbeats 1000000 in
theorem oOf_c (xl xh yl yh ul uh vl vh : Int) (w : World) :
    Calls Tryz.prog 88 #[.agg #[.int .i64 xl, .int .i64 xh, .int .i64 yl, .int .i64 yh, .int .i64 ul, .int .i64 uh, .int .i64 vl, .int .i64 vh]] w fun e w' => e = .returned (.agg #[.int .i64 xl, .int .i64 xh, .int .i64 yl, .int .i64 yh, .int .i64 ul, .int .i64 uh, .int .i64 vl, .int .i64 vh]) ∧ Ext w w' := by
  go_enter Tryz.func88, Tryz.ntmps88
  go_wp2_with fail
  (try simp only [Exit.inBlock, Exit.then]); apply bodyPost_ret; (focus (simp only [results, Tryz.results88]; go_simp; try rfl)); rfl
  exact ⟨rfl, by (repeat' (first | exact Ext.refl _ | assumption | apply Ext.alloc | apply Ext.drew | refine Ext.set ?_ (by dsimp only; omega) _ | refine Ext.trans ?_ (by assumption)))⟩
set_option maxRecDepth 20000 in
set_option maxHeartbeats 4000000 in
theorem oCheck_c (b : Bx) (w : World) :
    Calls Tryz.prog 37 #[.agg #[.int .i64 b.x.lo, .int .i64 b.x.hi, .int .i64 b.y.lo, .int .i64 b.y.hi, .int .i64 b.u.lo, .int .i64 b.u.hi, .int .i64 b.v.lo, .int .i64 b.v.hi]] w fun e w' => e = .returned (.int .i64 (bxErr b)) ∧ Ext w w' := by
  have HS := Lib.hid fun x y u v W => oCheckState_c x y u v W
  obtain ⟨E1, h1⟩ : ∃ E, stErr (lowS b) = E := ⟨_, rfl⟩
  obtain ⟨E2, h2⟩ : ∃ E, stErr (highS b) = E := ⟨_, rfl⟩
  have t1 := stErr_two (lowS b)
  have t2 := stErr_two (highS b)
  rw [h1] at t1
  rw [h2] at t2
  obtain ⟨R, hR⟩ : ∃ R, bxErr b = R := ⟨_, rfl⟩
  rw [hR]
  have hR2 : (fullB b = true → R = max E1 E2) ∧ (fullB b ≠ true → R = 2) := by
    rw [← hR]; unfold bxErr
    exact ⟨fun h => by rw [if_pos h, h1, h2], fun h => by rw [if_neg h]⟩
  have HR := Lib.hid hR2
  have H1 := Lib.hid h1
  have H2 := Lib.hid h2
  have hix := fun k X Y (h : spanAt b k X Y) => span_ix h
  have hfull : Hid (fullB b = true ↔ b.x.lo ≤ b.x.hi ∧ b.y.lo ≤ b.y.hi ∧ b.u.lo ≤ b.u.hi ∧ b.v.lo ≤ b.v.hi) := fullB_iff
  have hspan := Lib.hid fun k (h : k < 4) => span_some b h
  clear hR hR2 h1 h2
  have HIX := Lib.hid hix
  clear hix
  obtain ⟨⟨xl, xh⟩, ⟨yl, yh⟩, ⟨ul, uh⟩, vl, vh⟩ := b
  dsimp only at HIX hfull hspan
  unfold spanAt at hspan
  dsimp only at hspan
  go_enter Tryz.func37, Tryz.ntmps37
  go_wp2_with fail
  refine (oOf_c _ _ _ _ _ _ _ _ _).mono ?_
  rintro e w1 ⟨rfl, h1⟩
  have e1 : Ext w w1 := by (repeat' (first | exact Ext.refl _ | assumption | apply Ext.alloc | apply Ext.drew | refine Ext.set ?_ (by dsimp only; omega) _ | refine Ext.trans ?_ (by assumption)))
  have B1 : Blk w1 w.heap.size 38 #[.int .i64 xl, .int .i64 xh, .int .i64 yl, .int .i64 yh, .int .i64 ul, .int .i64 uh, .int .i64 vl, .int .i64 vh] := (Blk.newAt rfl).ext h1
  clear h1
  go_wp2_with fail
  go_loopw [7] (fun i wr => ∃ k : Nat, k ≤ 4 ∧ i = .int .i64 k ∧ Hid ((0 < k → xl ≤ xh) ∧ (1 < k → yl ≤ yh) ∧ (2 < k → ul ≤ uh) ∧ (3 < k → vl ≤ vh)) ∧ Ext w1 wr) (fun i _ => 4 - (intOf i).toNat)
  case atStart => exact ⟨0, Nat.zero_le _, rfl, Lib.hid (by omega), Ext.refl _⟩
  case round =>
    obtain ⟨k, hk, rfl, HI, hb⟩ := hrel
    by_cases hk4 : k < 4
    · obtain ⟨X, Y, hX⟩ := hspan.out k hk4
      have ixk := HIX.out k X Y hX
      have HX := Lib.hid hX
      clear hX
      by_cases c1 : Y < X
      · go_wp2_with fail
        go_ret
        refine ⟨ret_i ?_, by (repeat' (first | exact Ext.refl _ | assumption | apply Ext.alloc | apply Ext.drew | refine Ext.set ?_ (by dsimp only; omega) _ | refine Ext.trans ?_ (by assumption)))⟩
        have h3 := HR.out.2 (fun h => by have h4 := hfull.out.1 h; have := HX.out; omega)
        exact h3.symm
      · have c2 : X ≤ Y := by omega
        go_wp2_with fail
        go_roundw
        case rel => exact ⟨k + 1, by omega, by go_num, Lib.hid (by have := HX.out; have := HI.out; omega), by (repeat' (first | exact Ext.refl _ | assumption | apply Ext.alloc | apply Ext.drew | refine Ext.set ?_ (by dsimp only; omega) _ | refine Ext.trans ?_ (by assumption)))⟩
        case measure => simp [intOf]; omega
    · obtain rfl : k = 4 := by omega
      have B2 := B1.ext hb
      have cb := B2.cell
      have lb := B2.lt
      have HRR := Lib.hid (HR.out.1 (hfull.out.2 (by have := HI.out; omega)))
      go_wp2_with fail
      refine wp_region_text (by kernel_rfl) (by kernel_rfl) ?_
      (repeat' (first | (refine bl_off (by rfl) ?_; simp only [Act.put, List.setIfInBounds_toArray, List.set_cons_zero, List.set_cons_succ]) | (apply bl_op; rfl; (intro w1 h1; obtain ⟨hc, hf, hz⟩ := bcell h1; go_simp; (try go_bits); (first | exact ⟨rfl, Ext.refl _⟩ | (apply gives_call; first | (go_at_call 35; exact HS.out _ _ _ _ _)) | (go_invoke; go_simp; apply gives_call; first | (go_at_call 35; exact HS.out _ _ _ _ _)))); simp only [Act.put, List.setIfInBounds_toArray, List.set_cons_zero, List.set_cons_succ]) | (refine bl_split rfl rfl (fun hx => ?_) (fun hx => ?_) <;> simp only [hx])))
      refine bl_nil ?_
      intro w3 h3
      obtain ⟨hc_w3, hf_w3, hz_w3⟩ := bcell h3; (repeat (first | rw [World.size_alloc] at hz_w3 | rw [World.size_drew] at hz_w3 | rw [World.size_setCell] at hz_w3)); (try (have : w.heap.size < w3.heap.size := (by omega))); (try (have : w.heap.size + 1 < w3.heap.size := (by omega))); (try (have : w.heap.size + 1 + 1 < w3.heap.size := (by omega))); (try (have : w.heap.size + 1 + 1 + 1 < w3.heap.size := (by omega))); (try (have : w.heap.size + 1 + 1 + 1 + 1 < w3.heap.size := (by omega)))
      go_wp2_with fail
      go_ret
      exact ⟨ret_i (by rw [HRR.out, ← H1.out, ← H2.out]; rfl), by (repeat' (first | exact Ext.refl _ | assumption | apply Ext.alloc | apply Ext.drew | refine Ext.set ?_ (by dsimp only; omega) _ | refine Ext.trans ?_ (by assumption)))⟩
end Go.Proofs.YtfniicgoeljmdaaGreat

namespace Go.Proofs.YtfniicgoeljmdaaGreat
open Go.RowKit

def boxesErr : List Bx → Int
  | [] => 0
  | b :: r => if bxErr b = 0 then boxesErr r else bxErr b
def setErr (l : List Bx) : Int := if 512 < l.length then 8 else boxesErr l
set_option maxRecDepth 20000 in
set_option maxHeartbeats 2000000 in
theorem oCheckSet_c (A : Option Addr) (n c : Nat) (l : List Bx) (w : World) (hl : Bxs w A n l) :
    Calls Tryz.prog 39 #[.slice A n c] w fun e w' => e = .returned (.int .i64 (setErr l)) ∧ Ext w w' := by
  have hn := hl.le
  have hln := Lib.hid hl.len
  by_cases h512 : 512 < n
  · have hs : setErr l = 8 := by rw [setErr, if_pos (by have := hl.len; omega)]
    rw [hs]
    go_enter Tryz.func39, Tryz.ntmps39
    go_wp2_with fail
    go_ret
    exact ⟨rfl, by (repeat' (first | exact Ext.refl _ | assumption | apply Ext.alloc | apply Ext.drew | refine Ext.set ?_ (by dsimp only; omega) _ | refine Ext.trans ?_ (by assumption)))⟩
  · obtain ⟨T, hT⟩ : ∃ T, setErr l = T := ⟨_, rfl⟩
    rw [hT]
    have hT2 : boxesErr l = T := by rw [← hT, setErr, if_neg (by have := hl.len; omega)]
    have HT := Lib.hid hT2
    clear hT hT2
    go_enter Tryz.func39, Tryz.ntmps39
    go_wp2_with fail
    go_loopw [11] (fun i wr => ∃ k : Nat, k ≤ n ∧ i = .int .i64 k ∧ Hid (boxesErr (l.drop k) = T) ∧ Ext w wr) (fun i _ => n - (intOf i).toNat)
    case atStart => exact ⟨0, Nat.zero_le _, rfl, HT.out, Ext.refl _⟩
    case round =>
      obtain ⟨k, hk, rfl, HI, hb⟩ := hrel
      by_cases hlt : k < n
      · obtain ⟨b, off, x, rfl, HD, hxm, hx⟩ := hl.one hlt
        obtain ⟨hx0, hx1, hx2, hx3, hx4, hx5, hx6, hx7⟩ := bxAt.ext hb hx
        have hbl : b < wr.heap.size := World.block_lt_of_cell? wr _ hx0
        have HC := Lib.hid fun W => oCheck_c x W
        have hi := HI.out
        rw [HD.out, boxesErr] at hi
        generalize bxErr x = E at *
        obtain ⟨⟨xl, xh⟩, ⟨yl, yh⟩, ⟨ul, uh⟩, vl, vh⟩ := x
        dsimp only at hx0 hx1 hx2 hx3 hx4 hx5 hx6 hx7 HC
        by_cases hE : E = 0
        · subst hE
          rw [if_pos rfl] at hi
          have Hi := Lib.hid hi
          clear hi
          go_wp2_with fail
          refine (HC.out _).mono ?_
          rintro e w1 ⟨rfl, h1⟩
          obtain ⟨hc_w1, hf_w1, hz_w1⟩ := bcell h1; (repeat (first | rw [World.size_alloc] at hz_w1 | rw [World.size_drew] at hz_w1 | rw [World.size_setCell] at hz_w1)); (try (have : w.heap.size < w1.heap.size := (by omega))); (try (have : w.heap.size + 1 < w1.heap.size := (by omega))); (try (have : w.heap.size + 1 + 1 < w1.heap.size := (by omega))); (try (have : w.heap.size + 1 + 1 + 1 < w1.heap.size := (by omega))); (try (have : w.heap.size + 1 + 1 + 1 + 1 < w1.heap.size := (by omega)))
          go_wp2_with fail
          go_roundw
          case rel => exact ⟨k + 1, by omega, by go_num, Hi, by (repeat' (first | exact Ext.refl _ | assumption | apply Ext.alloc | apply Ext.drew | refine Ext.set ?_ (by dsimp only; omega) _ | refine Ext.trans ?_ (by assumption)))⟩
          case measure => simp [intOf]; omega
        · rw [if_neg hE] at hi
          have Hi := Lib.hid hi
          clear hi
          go_wp2_with fail
          refine (HC.out _).mono ?_
          rintro e w1 ⟨rfl, h1⟩
          obtain ⟨hc_w1, hf_w1, hz_w1⟩ := bcell h1; (repeat (first | rw [World.size_alloc] at hz_w1 | rw [World.size_drew] at hz_w1 | rw [World.size_setCell] at hz_w1)); (try (have : w.heap.size < w1.heap.size := (by omega))); (try (have : w.heap.size + 1 < w1.heap.size := (by omega))); (try (have : w.heap.size + 1 + 1 < w1.heap.size := (by omega))); (try (have : w.heap.size + 1 + 1 + 1 < w1.heap.size := (by omega))); (try (have : w.heap.size + 1 + 1 + 1 + 1 < w1.heap.size := (by omega)))
          go_wp2_with fail
          go_ret
          exact ⟨ret_i Hi.out, by (repeat' (first | exact Ext.refl _ | assumption | apply Ext.alloc | apply Ext.drew | refine Ext.set ?_ (by dsimp only; omega) _ | refine Ext.trans ?_ (by assumption)))⟩
      · have hkn : k = n := by omega
        have hi := HI.out
        rw [hkn, hln.out, List.drop_length] at hi
        have Hi := Lib.hid hi
        clear hi
        go_wp2_with fail
        go_ret
        exact ⟨ret_i Hi.out, hb⟩
end Go.Proofs.YtfniicgoeljmdaaGreat

namespace Go.Proofs.YtfniicgoeljmdaaGreat
open Go.RowKit

set_option maxRecDepth 20000 in
set_option maxHeartbeats 4000000 in
theorem gDist_c (mu r : Int) (A : Option Addr) (n c : Nat) (xl xh yl yh : Int) (w : World) (hr : 0 ≤ r ∧ r ≤ 1048576) :
    Calls Tryz.prog 210 #[.agg #[.int .i64 mu, .int .i64 r, .slice A n c], .agg #[.int .i64 xl, .int .i64 xh], .agg #[.int .i64 yl, .int .i64 yh]] w fun e w' =>
      e = .returned (.tuple #[.agg #[.int .i64 (qM r ⟨⟨xl, xh⟩, ⟨yl, yh⟩⟩).lo, .int .i64 (qM r ⟨⟨xl, xh⟩, ⟨yl, yh⟩⟩).hi], .agg #[.int .i64 (rM (qM r ⟨⟨xl, xh⟩, ⟨yl, yh⟩⟩)).lo, .int .i64 (rM (qM r ⟨⟨xl, xh⟩, ⟨yl, yh⟩⟩)).hi]]) ∧ Ext w w' := by
  have m1 : r * r ≤ 1099511627776 := Int.mul_le_mul hr.2 hr.2 hr.1 (by omega)
  have m0 : 0 ≤ r * r := Int.mul_nonneg hr.1 hr.1
  obtain ⟨S, hS⟩ : ∃ S, addS (squareS ⟨xl, xh⟩) (squareS ⟨yl, yh⟩) = S := ⟨_, rfl⟩
  have hq : qM r ⟨⟨xl, xh⟩, ⟨yl, yh⟩⟩ = ⟨max S.lo (max 1 (r * r)), max S.hi (max 1 (r * r))⟩ := by unfold qM edgeM; rw [hS]
  rw [hq]
  unfold rM
  have HS := Lib.hid hS
  obtain ⟨Sl, Sh⟩ := S
  dsimp only
  have HR := Lib.hid fun W => rRoots_c (max Sl (max 1 (r * r))) (max Sh (max 1 (r * r))) W
  generalize rootsM _ = R at *
  obtain ⟨⟨rl, rh⟩, re⟩ := R
  obtain ⟨hr1, hr2⟩ := hr
  clear hS hq
  go_enter Tryz.func210, Tryz.ntmps210
  go_wp2_with fail
  refine wp_region_forced 5 (Ext _) (Stable.ext _) (Ext.drew (Ext.refl _)) (by kernel_rfl) (by kernel_rfl) ?_
  simp only [List.take_succ_cons, List.take_zero, List.drop_succ_cons, List.drop_zero]
  (repeat' (first | (refine bl_off (by rfl) ?_; simp only [Act.put, List.setIfInBounds_toArray, List.set_cons_zero, List.set_cons_succ]) | (apply bl_op; rfl; (intro w1 h1; obtain ⟨hc, hf, hz⟩ := bcell h1; go_simp; (try go_bits); (first | exact ⟨rfl, Ext.refl _⟩ | (apply gives_call; first | (go_at_call 234; exact gSquared_c _ _ _) | (go_at_call 168; exact gSum_c _ _ _ _ _)) | (go_invoke; go_simp; apply gives_call; first | (go_at_call 234; exact gSquared_c _ _ _) | (go_at_call 168; exact gSum_c _ _ _ _ _)))); simp only [Act.put, List.setIfInBounds_toArray, List.set_cons_zero, List.set_cons_succ]) | (refine bl_split rfl rfl (fun hx => ?_) (fun hx => ?_) <;> simp only [hx])))
  refine bl_nil ?_
  intro w1 h1
  have B3 : Blk w1 w.heap.size 97 #[.int .i64 mu, .int .i64 r, .slice A n c] := (((((Blk.newAt rfl).alloc _).alloc _).alloc _).alloc _).ext h1
  have B6 : Blk w1 (w.heap.size + 1 + 1 + 1) 26 #[.int .i64 0, .int .i64 0] := ((Blk.newAt (by simp)).alloc _).ext h1
  have B7 : Blk w1 (w.heap.size + 1 + 1 + 1 + 1) 26 #[.int .i64 0, .int .i64 0] := (Blk.newAt (by simp)).ext h1
  have E1 : Ext w w1 := by (repeat' (first | exact Ext.refl _ | assumption | apply Ext.alloc | apply Ext.drew | refine Ext.set ?_ (by dsimp only; omega) _ | refine Ext.trans ?_ (by assumption)))
  rw [HS.out]
  dsimp only
  clear h1
  have c_B3 := B3.cell; have f_B3 := B3.frozen; have l_B3 := B3.lt; have c_B6 := B6.cell; have f_B6 := B6.frozen; have l_B6 := B6.lt; have c_B7 := B7.cell; have f_B7 := B7.frozen; have l_B7 := B7.lt
  (try dsimp only); iterate 2 (first | go_values | go_skip | go_guarded | go_step | go_upon | go_in)
  refine name_world _ ?_
  intro W hW
  have C3 : Blk W w.heap.size 97 #[.int .i64 mu, .int .i64 r, .slice A n c] := by rw [hW]; exact blk_far2 B3 (by omega)
  have C6 : Blk W (w.heap.size + 1 + 1 + 1) 26 #[.int .i64 Sl, .int .i64 Sh] := by rw [hW]; exact blk_set2 B6 rfl
  have C7 : Blk W (w.heap.size + 1 + 1 + 1 + 1) 26 #[.int .i64 0, .int .i64 0] := by rw [hW]; exact blk_far2 B7 (by omega)
  have E2 : Ext w W := by rw [hW]; exact ext_set2 E1 (by omega)
  clear c_B3 f_B3 l_B3 c_B6 f_B6 l_B6 c_B7 f_B7 l_B7
  clear hW B3 B6 B7 E1
  have c_C3 := C3.cell; have f_C3 := C3.frozen; have l_C3 := C3.lt; have c_C6 := C6.cell; have f_C6 := C6.frozen; have l_C6 := C6.lt; have c_C7 := C7.cell; have f_C7 := C7.frozen; have l_C7 := C7.lt
  go_wp2_with fail
  refine (HR.out _).mono ?_
  rintro e w2 ⟨rfl, h2⟩
  have B6' : Blk w2 (w.heap.size + 1 + 1 + 1) 26 #[.int .i64 (max Sl (max 1 (r * r))), .int .i64 (max Sh (max 1 (r * r)))] := (blk_set2 (i := 0) (j := 1) C6 rfl).ext h2
  have B7' : Blk w2 (w.heap.size + 1 + 1 + 1 + 1) 26 #[.int .i64 0, .int .i64 0] := (blk_far2 (b := w.heap.size + 1 + 1 + 1) (i := 0) (j := 1) C7 (by omega)).ext h2
  replace E2 : Ext w w2 := (ext_set2 E2 (by omega)).trans h2
  clear c_C3 f_C3 l_C3 c_C6 f_C6 l_C6 c_C7 f_C7 l_C7
  clear C3 C6 C7 h2
  have c_B6' := B6'.cell; have f_B6' := B6'.frozen; have l_B6' := B6'.lt; have c_B7' := B7'.cell; have f_B7' := B7'.frozen; have l_B7' := B7'.lt
  go_wp2_with fail
  refine name_world _ ?_
  intro W5 hW5
  have D6 : Blk W5 (w.heap.size + 1 + 1 + 1) 26 #[.int .i64 (max Sl (max 1 (r * r))), .int .i64 (max Sh (max 1 (r * r)))] := by rw [hW5]; exact blk_far2 B6' (by omega)
  have D7 : Blk W5 (w.heap.size + 1 + 1 + 1 + 1) 26 #[.int .i64 rl, .int .i64 rh] := by rw [hW5]; exact blk_set2 B7' rfl
  have E5 : Ext w W5 := by rw [hW5]; exact ext_set2 E2 (by omega)
  clear c_B6' f_B6' l_B6' c_B7' f_B7' l_B7' B6' B7' hW5 E2
  have c_D6 := D6.cell; have f_D6 := D6.frozen; have l_D6 := D6.lt; have c_D7 := D7.cell; have f_D7 := D7.frozen; have l_D7 := D7.lt
  go_region
  go_wp2_with fail
  (try simp only [Exit.inBlock, Exit.then]); apply bodyPost_ret; (focus (simp only [results, Tryz.results210]; go_simp; try rfl)); rfl
  exact ⟨rfl, (ext_set2 (ext_set2 E5 (by omega)) (by omega)).drew⟩
end Go.Proofs.YtfniicgoeljmdaaGreat

namespace Go.Proofs.YtfniicgoeljmdaaGreat
open Go.RowKit

theorem two_at2 (a b : Int) {k : Nat} (h : k < 2) : ∃ x : Int, ((#[.int .i64 a, .int .i64 b] : Array Value)[k]? = some (.int .i64 x)) ∧ Hid ([a, b].drop k = x :: [a, b].drop (k + 1)) ∧ (x = a ∨ x = b) := by
  rcases (show k = 0 ∨ k = 1 by omega) with rfl | rfl
  · exact ⟨a, rfl, rfl, .inl rfl⟩
  · exact ⟨b, rfl, rfl, .inr rfl⟩
set_option maxRecDepth 20000 in
set_option maxHeartbeats 8000000 in
theorem gScaled_c (mu al ah bl bh : Int) (w : World) (hmu : 0 ≤ mu ∧ mu ≤ 1125899906842624) (hx : Sm 67108864 ⟨al, ah⟩) (hq : 1 ≤ bl ∧ bl ≤ bh ∧ bh ≤ 9007199254740992) :
    Calls Tryz.prog 213 #[.int .i64 mu, .agg #[.int .i64 al, .int .i64 ah], .agg #[.int .i64 bl, .int .i64 bh]] w fun e w' => e = .returned (.agg #[.int .i64 (scaledM mu ⟨al, ah⟩ ⟨bl, bh⟩).lo, .int .i64 (scaledM mu ⟨al, ah⟩ ⟨bl, bh⟩).hi]) ∧ Ext w w' := by
  obtain ⟨T, hT⟩ : ∃ T, joinR (cornQ (scQ mu) ⟨al, ah⟩ ⟨bl, bh⟩) ⟨0, 0⟩ true = T := ⟨_, rfl⟩
  have hsc : scaledM mu ⟨al, ah⟩ ⟨bl, bh⟩ = T.s := by
    unfold scaledM
    rw [← hT, corners_eq (scQ_ok mu)]
  rw [hsc]
  have hT2 : joinR (([al, ah].drop 0).flatMap fun x => [bl, bh].map (scQ mu x)) ⟨0, 0⟩ true = T := hT
  have HT := Lib.hid hT2
  have HA := Lib.hid fun k (h : k < 2) => two_at2 al ah h
  have HB := Lib.hid fun k (h : k < 2) => two_at2 bl bh h
  obtain ⟨hx1, hx2, hx3⟩ := hx
  dsimp only at hx1 hx2 hx3
  have HM := Lib.hid fun (x y : Int) (h1 : x = al ∨ x = ah) (h2 : y = bl ∨ y = bh) W => rMulDiv_c mu x y W (fitsP_of (by omega)) (fitsP_of (by omega)) (fitsP_of (by omega)) (by omega)
  clear hT hT2 hsc hmu hx1 hx2 hx3 hq
  go_enter Tryz.func213, Tryz.ntmps213
  go_wp2_with fail
  refine name_world _ ?_
  intro W1 hW1
  obtain ⟨g, hg⟩ : ∃ b, b = w.heap.size := ⟨_, rfl⟩
  have B4 : Blk W1 (g + 1) 26 #[.int .i64 bl, .int .i64 bh] := by rw [hW1, hg]; exact ((((Blk.newAt (by simp)).alloc _).alloc _).alloc _)
  have B6 : Blk W1 (g + 1 + 1) 26 #[.int .i64 0, .int .i64 0] := by rw [hW1, hg]; exact (((Blk.newAt (by simp)).alloc _).alloc _)
  have B8 : Blk W1 (g + 1 + 1 + 1) 26 #[.int .i64 0, .int .i64 0] := by rw [hW1, hg]; exact ((Blk.newAt (by simp)).alloc _)
  have BA : Blk W1 (g + 1 + 1 + 1 + 1) 2 #[.int .i64 al, .int .i64 ah] := by rw [hW1, hg]; exact (Blk.newAt (by simp))
  have E1 : Ext w W1 := by rw [hW1]; (repeat' (first | exact Ext.refl _ | assumption | apply Ext.alloc | apply Ext.drew | refine Ext.set ?_ (by dsimp only; omega) _ | refine Ext.trans ?_ (by assumption)))
  have og : w.heap.size ≤ g := by omega
  rw [← hg]
  clear hW1 hg
  go_loopw [8, 22] (fun f i wr => ∃ (k : Nat) (fb : Bool) (o : Sp), k ≤ 2 ∧ f = .bool fb ∧ i = .int .i64 k ∧ Hid (joinR (([al, ah].drop k).flatMap fun x => [bl, bh].map (scQ mu x)) o fb = T) ∧ Hid (Blk wr (g + 1) 26 #[.int .i64 bl, .int .i64 bh]) ∧ Hid (Blk wr (g + 1 + 1) 26 #[.int .i64 0, .int .i64 0]) ∧ Hid (Blk wr (g + 1 + 1 + 1) 26 #[.int .i64 o.lo, .int .i64 o.hi]) ∧ Hid (Blk wr (g + 1 + 1 + 1 + 1) 2 #[.int .i64 al, .int .i64 ah]) ∧ Ext w wr) (fun _ i _ => 2 - (intOf i).toNat)
  case atStart => exact ⟨0, true, ⟨0, 0⟩, Nat.zero_le _, rfl, rfl, HT.out, B4, B6, B8, BA, E1⟩
  case round =>
    clear B4 B6 B8 BA E1
    obtain ⟨k, fb, o, hk, rfl, rfl, HI, B4, B6, B8, BA, hb⟩ := hrel
    by_cases hk2 : k < 2
    · have hkz : (k : Int) < 2 := by omega
      have hkd : decide ((k : Int) < 2) = true := by simp; omega
      obtain ⟨x, hxc, HD, hxb⟩ := HA.out k hk2
      have cx : wr.cell? ⟨g + 1 + 1 + 1 + 1, k, none⟩ = some (.int .i64 x) := (BA.out.cell k).trans hxc
      have lx := BA.out.lt
      have c4 := B4.out.cell
      have l4 := B4.out.lt
      have hi := HI.out
      rw [HD.out, List.flatMap_cons] at hi
      obtain ⟨RS, hRS⟩ : ∃ RS, (([al, ah].drop (k + 1)).flatMap fun x => [bl, bh].map (scQ mu x)) = RS := ⟨_, rfl⟩
      rw [hRS] at hi
      have Hi : Hid (joinR (([bl, bh].drop 0).map (scQ mu x) ++ RS) o fb = T) := hi
      have HRS := Lib.hid hRS
      have HXB := Lib.hid hxb
      clear hi HI hRS HD hxc hxb
      obtain ⟨wo, rfl⟩ : ∃ wo : World, wo = wr := ⟨_, rfl⟩
      go_wp2_with fail
      refine name_world _ ?_
      intro W2 hW2
      obtain ⟨q, hq⟩ : ∃ b, b = wo.heap.size := ⟨_, rfl⟩
      have D4 : Blk W2 (g + 1) 26 #[.int .i64 bl, .int .i64 bh] := by rw [hW2]; exact B4.out.alloc _
      have D6 : Blk W2 (g + 1 + 1) 26 #[.int .i64 0, .int .i64 0] := by rw [hW2]; exact B6.out.alloc _
      have D8 : Blk W2 (g + 1 + 1 + 1) 26 #[.int .i64 o.lo, .int .i64 o.hi] := by rw [hW2]; exact B8.out.alloc _
      have DA : Blk W2 (g + 1 + 1 + 1 + 1) 2 #[.int .i64 al, .int .i64 ah] := by rw [hW2]; exact BA.out.alloc _
      have DB : Blk W2 q 2 #[.int .i64 bl, .int .i64 bh] := by rw [hW2]; exact Blk.newAt hq
      have E2 : Ext w W2 := by rw [hW2]; exact hb.alloc _
      have oq : g + 1 + 1 + 1 + 1 < q := by omega
      rw [← hq]
      clear hW2 hq B4 B6 B8 BA hb cx lx c4 l4
      go_loopw [8, 32] (fun f j wr => ∃ (p : Nat) (fb : Bool) (o : Sp), p ≤ 2 ∧ f = .bool fb ∧ j = .int .i64 p ∧ Hid (joinR (([bl, bh].drop p).map (scQ mu x) ++ RS) o fb = T) ∧ Hid (Blk wr (g + 1) 26 #[.int .i64 bl, .int .i64 bh]) ∧ Hid (Blk wr (g + 1 + 1) 26 #[.int .i64 0, .int .i64 0]) ∧ Hid (Blk wr (g + 1 + 1 + 1) 26 #[.int .i64 o.lo, .int .i64 o.hi]) ∧ Hid (Blk wr (g + 1 + 1 + 1 + 1) 2 #[.int .i64 al, .int .i64 ah]) ∧ Hid (Blk wr q 2 #[.int .i64 bl, .int .i64 bh]) ∧ Ext w wr) (fun _ j _ => 2 - (intOf j).toNat)
      case atStart => exact ⟨0, fb, o, Nat.zero_le _, rfl, rfl, Hi.out, D4, D6, D8, DA, DB, E2⟩
      case round =>
        clear D4 D6 D8 DA DB E2 Hi
        obtain ⟨p, fb, o, hp, rfl, rfl, HI, B4, B6, B8, BA, BB, hb⟩ := hrel
        by_cases hp2 : p < 2
        · have hpz : (p : Int) < 2 := by omega
          have hpd : decide ((p : Int) < 2) = true := by simp; omega
          obtain ⟨y, hyc, HD, hyb⟩ := HB.out p hp2
          have cy : wr.cell? ⟨q, p, none⟩ = some (.int .i64 y) := (BB.out.cell p).trans hyc
          have ly := BB.out.lt
          have hi := HI.out
          rw [HD.out, List.map_cons, List.cons_append, joinR, if_pos (scQ_e mu x y)] at hi
          have HQ := Lib.hid fun W => HM.out x y HXB.out hyb W
          have hQs : ((mulDivM mu x y).e = 0 ∧ (scQ mu x y).lo = (mulDivM mu x y).lo ∧ (scQ mu x y).hi = (mulDivM mu x y).hi) ∨ ((mulDivM mu x y).e = 14 ∧ x < 0 ∧ (scQ mu x y).lo = -1152921504606846976 ∧ (scQ mu x y).hi = -1152921504606846976) ∨ ((mulDivM mu x y).e = 14 ∧ 0 ≤ x ∧ (scQ mu x y).lo = 1152921504606846976 ∧ (scQ mu x y).hi = 1152921504606846976) := by
            unfold scQ
            rcases mulDiv_ok mu x y with h | h
            · rw [if_pos h.1]; exact .inl ⟨h.1, rfl, rfl⟩
            · rw [if_neg (by rw [h.1]; decide)]
              by_cases hn : x < 0
              · rw [if_pos hn]; exact .inr (.inl ⟨h.1, hn, rfl, rfl⟩)
              · rw [if_neg hn]; exact .inr (.inr ⟨h.1, by omega, rfl, rfl⟩)
          generalize scQ mu x y = Q at *
          generalize mulDivM mu x y = M at *
          obtain ⟨sl, sh, se⟩ := Q
          obtain ⟨ml, mh, me⟩ := M
          dsimp only at hi HQ hQs
          have Hi := Lib.hid hi
          clear HI HD hyc hyb hi
          have hcase : ∃ lo' hi' : Int, Hid (joinR (([bl, bh].drop (p + 1)).map (scQ mu x) ++ RS) ⟨lo', hi'⟩ false = T) ∧ (fb = true ∧ lo' = sl ∧ hi' = sh ∨ fb = false ∧ (sl < o.lo ∧ lo' = sl ∨ o.lo ≤ sl ∧ lo' = o.lo) ∧ (o.hi < sh ∧ hi' = sh ∨ sh ≤ o.hi ∧ hi' = o.hi)) := by
            refine ⟨_, _, Hi, ?_⟩
            cases fb
            · right
              refine ⟨rfl, ?_, ?_⟩
              · by_cases c : sl < o.lo
                · left; exact ⟨c, by rw [if_pos (.inr c)]⟩
                · right; exact ⟨by omega, by rw [if_neg (by simp; omega)]⟩
              · by_cases c : o.hi < sh
                · left; exact ⟨c, by rw [if_pos (.inr c)]⟩
                · right; exact ⟨by omega, by rw [if_neg (by simp; omega)]⟩
            · left
              exact ⟨rfl, by simp, by simp⟩
          clear Hi
          obtain ⟨lo', hi', Hi, hcase⟩ := hcase
          have n4 : g + 1 ≠ g + 1 + 1 + 1 := by omega
          have n6 : g + 1 + 1 ≠ g + 1 + 1 + 1 := by omega
          have nA : g + 1 + 1 + 1 + 1 ≠ g + 1 + 1 + 1 := by omega
          have nB : q ≠ g + 1 + 1 + 1 := by omega
          obtain ⟨ol, oh⟩ := o
          dsimp only at hcase B8
          rcases hQs with ⟨rfl, rfl, rfl⟩ | ⟨rfl, hxn, rfl, rfl⟩ | ⟨rfl, hxn, rfl, rfl⟩
          all_goals rcases hcase with ⟨rfl, rfl, rfl⟩ | ⟨rfl, ⟨u1, rfl⟩ | ⟨u1, rfl⟩, ⟨u2, rfl⟩ | ⟨u2, rfl⟩⟩
          all_goals go_wp2_with fail
          all_goals refine (HQ.out _).mono ?_
          all_goals rintro e w7 ⟨rfl, h7⟩
          all_goals have F4 := Lib.hid (B4.out.ext h7)
          all_goals have F6 := Lib.hid (B6.out.ext h7)
          all_goals have F8 := Lib.hid (B8.out.ext h7)
          all_goals have FA := Lib.hid (BA.out.ext h7)
          all_goals have FB := Lib.hid (BB.out.ext h7)
          all_goals have FE := hb.trans h7
          all_goals clear h7 cy ly
          all_goals have c8 := F8.out.cell
          all_goals have l8 := F8.out.lt
          all_goals have f8 := F8.out.frozen
          all_goals go_wp2_with fail
          all_goals go_roundw
          all_goals try (simp [intOf]; omega)
          all_goals exact ⟨p + 1, false, ⟨_, _⟩, by omega, rfl, by go_num, Hi.out, by first | exact Lib.hid F4.out | exact Lib.hid (F4.out.far n4 _) | exact Lib.hid ((F4.out.far n4 _).far n4 _), by first | exact Lib.hid F6.out | exact Lib.hid (F6.out.far n6 _) | exact Lib.hid ((F6.out.far n6 _).far n6 _), by first | exact Lib.hid F8.out | exact Lib.hid (F8.out.set_ 0 _) | exact Lib.hid (F8.out.set_ 1 _) | exact Lib.hid ((F8.out.set_ 0 _).set_ 1 _), by first | exact Lib.hid FA.out | exact Lib.hid (FA.out.far nA _) | exact Lib.hid ((FA.out.far nA _).far nA _), by first | exact Lib.hid FB.out | exact Lib.hid (FB.out.far nB _) | exact Lib.hid ((FB.out.far nB _).far nB _), by (repeat' (first | exact Ext.refl _ | assumption | apply Ext.alloc | apply Ext.drew | refine Ext.set ?_ (by dsimp only; omega) _ | refine Ext.trans ?_ (by assumption)))⟩
        · have hp' : p = 2 := by omega
          subst hp'
          have hi : joinR RS o fb = T := HI.out
          have Hi : Hid (joinR (([al, ah].drop (k + 1)).flatMap fun x => [bl, bh].map (scQ mu x)) o fb = T) := by rw [HRS.out]; exact hi
          clear hi HI
          go_wp2_with fail
          go_roundw
          case rel => exact ⟨k + 1, fb, o, by omega, rfl, by go_num, Hi.out, B4, B6, B8, BA, hb⟩
          case measure => simp [intOf]; omega
    · have hk' : k = 2 := by omega
      subst hk'
      have hi : SpR.mk o 0 = T := HI.out
      subst hi
      have c8 := B8.out.cell
      have c6 := B6.out.cell
      have f6 := B6.out.frozen
      have l8 := B8.out.lt
      have l6 := B6.out.lt
      obtain ⟨ol, oh⟩ := o
      dsimp only at c8
      go_wp2_with fail
      (try simp only [Exit.inBlock, Exit.then]); apply bodyPost_ret; (focus (simp only [results, Tryz.results213]; go_simp; try rfl)); rfl
      exact ⟨rfl, by (repeat' (first | exact Ext.refl _ | assumption | apply Ext.alloc | apply Ext.drew | refine Ext.set ?_ (by dsimp only; omega) _ | refine Ext.trans ?_ (by assumption)))⟩
end Go.Proofs.YtfniicgoeljmdaaGreat
