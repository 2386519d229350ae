/- What moves a small body in an area, and in a place: the program. No condition. States, boxes and sets that are valid: the program. No condition. Sets that are valid; states in boxes; boxes in boxes: the program. No condition. -/
import Derived.Test.YtfniicgoeljmdaaForceOver
namespace Go.Proofs.Ytfniicgoeljmdaa
open Go.RowKit

abbrev arRV (r : ArR) : Value := .tuple #[.agg #[.int .i64 r.a.x.lo, .int .i64 r.a.x.hi, .int .i64 r.a.y.lo, .int .i64 r.a.y.hi], .int .i64 r.e]
theorem fOver_c (A : Option Addr) (n c : Nat) (home : Int) (l : List Body) (d : Drf) (tick : Int) (a : Ar) (w : World) (hl : Bodies w A n l) :
    Calls Try.prog 29 #[.agg #[.slice A n c, .int .i64 home], .agg #[.int .i64 d.light.lo, .int .i64 d.light.hi, .int .i64 d.heat.lo, .int .i64 d.heat.hi, .int .i64 d.gas], .int .i64 tick, .agg #[.int .i64 a.x.lo, .int .i64 a.x.hi, .int .i64 a.y.lo, .int .i64 a.y.hi]] w fun e w' =>
      e = .returned (arRV (overM l home d tick a)) ∧ Ext w w' := by
  unfold overM
  by_cases h0 : fAskErr l home d tick a = 0
  · rw [if_pos h0]
    exact fOver_ok A n c home l d tick a w hl h0
  · rw [if_neg h0]
    exact fOver_no A n c home l d tick a w hl h0
set_option maxRecDepth 20000 in
set_option maxHeartbeats 2000000 in
theorem fPullAt_c (A : Option Addr) (n c : Nat) (home : Int) (l : List Body) (d : Drf) (tick x y : Int) (w : World) (hl : Bodies w A n l) :
    Calls Try.prog 31 #[.agg #[.slice A n c, .int .i64 home], .agg #[.int .i64 d.light.lo, .int .i64 d.light.hi, .int .i64 d.heat.lo, .int .i64 d.heat.hi, .int .i64 d.gas], .int .i64 tick, .agg #[.int .i64 x, .int .i64 y]] w fun e w' =>
      e = .returned (arRV (overM l home d tick ⟨⟨x, x⟩, ⟨y, y⟩⟩)) ∧ Ext w w' := by
  have HO := Lib.hid fun W (hW : Ext w W) => fOver_c A n c home l d tick ⟨⟨x, x⟩, ⟨y, y⟩⟩ W (Bodies.ext hW hl)
  generalize overM _ _ _ _ _ = R at *
  obtain ⟨⟨⟨xl, xh⟩, yl, yh⟩, e⟩ := R
  dsimp only at HO ⊢
  clear hl
  go_enter Try.func31, Try.ntmps31
  go_wp2_with fail
  refine wp_region_forced 8 (Ext _) (Stable.ext _) (Ext.drew (Ext.refl _)) (by kernel_rfl) (by kernel_rfl) ?_
  simp only [List.take_succ_cons, List.take_zero, List.drop_succ_cons, List.drop_zero]
  (repeat' (first | (refine bl_off (by rfl) ?_; simp only [putX]) | (apply bl_op; rfl; (intro w1 h1; obtain ⟨hc, hf, hz⟩ := bcell h1; go_simp; (try go_bits); (first | exact ⟨rfl, Ext.refl _⟩ | (apply gives_call; first | (go_at_call 42; exact fAlone_c _ _ _) | (go_at_call 29; exact HO.out _ ext_by)) | (go_invoke; go_simp; apply gives_call; first | (go_at_call 42; exact fAlone_c _ _ _) | (go_at_call 29; exact HO.out _ ext_by)))); simp only [putX]) | (refine bl_split rfl rfl (fun hx => ?_) (fun hx => ?_) <;> simp only [hx])))
  refine bl_nil ?_
  intro w1 h1
  obtain ⟨hc_w1, hf_w1, hz_w1⟩ := bcell h1; (try simp only [szA] at hz_w1); (try have := wz0 w w1); (try have := wz1 w w1); (try have := wz2 w w1); (try have := wz3 w w1); (try have := wz4 w w1)
  go_wp2_with fail
  (try simp only [Exit.inBlock, Exit.then]); apply bodyPost_ret; (focus (simp only [results, Try.results31]; go_simp; try rfl)); rfl
  exact ⟨rfl, ext_by⟩
end Go.Proofs.Ytfniicgoeljmdaa

namespace Go.Proofs.Ytfniicgoeljmdaa
open Go.RowKit

def stErr (s : St) : Int := if within s.x (-33554432) 33554432 && within s.y (-33554432) 33554432 && within s.u (-1048576) 1048576 && within s.v (-1048576) 1048576 then 0 else 2
theorem stErr_two (s : St) : stErr s = 0 ∨ stErr s = 2 := by unfold stErr; split <;> simp
theorem stErr_ok {s : St} : stErr s = 0 ↔ (-33554432 ≤ s.x ∧ s.x ≤ 33554432) ∧ (-33554432 ≤ s.y ∧ s.y ≤ 33554432) ∧ (-1048576 ≤ s.u ∧ s.u ≤ 1048576) ∧ -1048576 ≤ s.v ∧ s.v ≤ 1048576 := by
  unfold stErr
  by_cases h : (within s.x (-33554432) 33554432 && within s.y (-33554432) 33554432 && within s.u (-1048576) 1048576 && within s.v (-1048576) 1048576) = true
  · rw [if_pos h]
    simp only [within, Bool.and_eq_true, decide_eq_true_eq] at h
    exact ⟨fun _ => by omega, fun _ => rfl⟩
  · rw [if_neg h]
    simp only [within, Bool.and_eq_true, decide_eq_true_eq] at h
    exact ⟨fun h => (by cases h), fun q => absurd (by omega) h⟩
def fullB (b : Bx) : Bool := decide (b.x.lo ≤ b.x.hi) && decide (b.y.lo ≤ b.y.hi) && decide (b.u.lo ≤ b.u.hi) && decide (b.v.lo ≤ b.v.hi)
theorem fullB_iff {b : Bx} : fullB b = true ↔ b.x.lo ≤ b.x.hi ∧ b.y.lo ≤ b.y.hi ∧ b.u.lo ≤ b.u.hi ∧ b.v.lo ≤ b.v.hi := by simp only [fullB, Bool.and_eq_true, decide_eq_true_eq, and_assoc]
def lowS (b : Bx) : St := ⟨b.x.lo, b.y.lo, b.u.lo, b.v.lo⟩
def highS (b : Bx) : St := ⟨b.x.hi, b.y.hi, b.u.hi, b.v.hi⟩
def bxErr (b : Bx) : Int := if fullB b then max (stErr (lowS b)) (stErr (highS b)) else 2
def spanAt (b : Bx) (k : Nat) (X Y : Int) : Prop := (k = 0 ∧ X = b.x.lo ∧ Y = b.x.hi) ∨ (k = 1 ∧ X = b.y.lo ∧ Y = b.y.hi) ∨ (k = 2 ∧ X = b.u.lo ∧ Y = b.u.hi) ∨ (k = 3 ∧ X = b.v.lo ∧ Y = b.v.hi)
theorem span_some (b : Bx) {k : Nat} (h : k < 4) : ∃ X Y, spanAt b k X Y := by
  unfold spanAt
  rcases (show k = 0 ∨ k = 1 ∨ k = 2 ∨ k = 3 by omega) with rfl | rfl | rfl | rfl
  · exact ⟨_, _, .inl ⟨rfl, rfl, rfl⟩⟩
  · exact ⟨_, _, .inr (.inl ⟨rfl, rfl, rfl⟩)⟩
  · exact ⟨_, _, .inr (.inr (.inl ⟨rfl, rfl, rfl⟩))⟩
  · exact ⟨_, _, .inr (.inr (.inr ⟨rfl, rfl, rfl⟩))⟩
theorem span_ix {b : Bx} {k : Nat} {X Y : Int} (h : spanAt b k X Y) : ∀ W, (Instr.index 81 (.agg #[.int .i64 b.x.lo, .int .i64 b.x.hi, .int .i64 b.y.lo, .int .i64 b.y.hi, .int .i64 b.u.lo, .int .i64 b.u.hi, .int .i64 b.v.lo, .int .i64 b.v.hi]) (.int .i64 (k : Int))).run Try.prog W = .ok (.agg #[.int .i64 X, .int .i64 Y]) W := by
  rcases h with ⟨rfl, rfl, rfl⟩ | ⟨rfl, rfl, rfl⟩ | ⟨rfl, rfl, rfl⟩ | ⟨rfl, rfl, rfl⟩ <;> intro W <;> kernel_rfl

set_option maxHeartbeats 400000 in
theorem oWithin_c (a b c : Int) (w : World) :
    Calls Try.prog 14 #[.int .i64 a, .int .i64 b, .int .i64 c] w fun e w' => e = .returned (.bool (within a b c)) ∧ Ext w w' := by
  go_enter Try.func14, Try.ntmps14
  go_wp2
  all_goals go_ret
  all_goals exact ⟨ret_b (by simp [within, *] <;> omega), Ext.refl _⟩
set_option maxHeartbeats 2000000 in
theorem oCheckState_c (x y u v : Int) (w : World) :
    Calls Try.prog 20 #[.agg #[.int .i64 x, .int .i64 y, .int .i64 u, .int .i64 v]] w fun e w' => e = .returned (.int .i64 (stErr ⟨x, y, u, v⟩)) ∧ Ext w w' := by
  have H1 := Lib.hid fun W => oWithin_c x (-33554432) 33554432 W
  have H2 := Lib.hid fun W => oWithin_c y (-33554432) 33554432 W
  have H3 := Lib.hid fun W => oWithin_c u (-1048576) 1048576 W
  have H4 := Lib.hid fun W => oWithin_c v (-1048576) 1048576 W
  unfold stErr
  dsimp only
  generalize within x (-33554432) 33554432 = b1 at *
  generalize within y (-33554432) 33554432 = b2 at *
  generalize within u (-1048576) 1048576 = b3 at *
  generalize within v (-1048576) 1048576 = b4 at *
  cases b1
  · go_enter Try.func20, Try.ntmps20
    go_wp2_with fail
    refine (H1.out _).mono ?_
    rintro e w1 ⟨rfl, h1⟩
    obtain ⟨hc_w1, hf_w1, hz_w1⟩ := bcell h1; (try simp only [szA] at hz_w1); (try have := wz0 w w1); (try have := wz1 w w1); (try have := wz2 w w1); (try have := wz3 w w1); (try have := wz4 w w1)
    go_wp2_with fail
    go_ret
    exact ⟨rfl, ext_by⟩
  · cases b2
    · go_enter Try.func20, Try.ntmps20
      go_wp2_with fail
      refine (H1.out _).mono ?_
      rintro e w1 ⟨rfl, h1⟩
      obtain ⟨hc_w1, hf_w1, hz_w1⟩ := bcell h1; (try simp only [szA] at hz_w1); (try have := wz0 w w1); (try have := wz1 w w1); (try have := wz2 w w1); (try have := wz3 w w1); (try have := wz4 w w1)
      go_wp2_with fail
      refine (H2.out _).mono ?_
      rintro e w2 ⟨rfl, h2⟩
      obtain ⟨hc_w2, hf_w2, hz_w2⟩ := bcell h2; (try simp only [szA] at hz_w2); (try have := wz0 w w2); (try have := wz1 w w2); (try have := wz2 w w2); (try have := wz3 w w2); (try have := wz4 w w2)
      go_wp2_with fail
      go_ret
      exact ⟨rfl, ext_by⟩
    · cases b3
      · go_enter Try.func20, Try.ntmps20
        go_wp2_with fail
        refine (H1.out _).mono ?_
        rintro e w1 ⟨rfl, h1⟩
        obtain ⟨hc_w1, hf_w1, hz_w1⟩ := bcell h1; (try simp only [szA] at hz_w1); (try have := wz0 w w1); (try have := wz1 w w1); (try have := wz2 w w1); (try have := wz3 w w1); (try have := wz4 w w1)
        go_wp2_with fail
        refine (H2.out _).mono ?_
        rintro e w2 ⟨rfl, h2⟩
        obtain ⟨hc_w2, hf_w2, hz_w2⟩ := bcell h2; (try simp only [szA] at hz_w2); (try have := wz0 w w2); (try have := wz1 w w2); (try have := wz2 w w2); (try have := wz3 w w2); (try have := wz4 w w2)
        go_wp2_with fail
        refine (H3.out _).mono ?_
        rintro e w3 ⟨rfl, h3⟩
        obtain ⟨hc_w3, hf_w3, hz_w3⟩ := bcell h3; (try simp only [szA] at hz_w3); (try have := wz0 w w3); (try have := wz1 w w3); (try have := wz2 w w3); (try have := wz3 w w3); (try have := wz4 w w3)
        go_wp2_with fail
        go_ret
        exact ⟨rfl, ext_by⟩
      · cases b4
        all_goals
          go_enter Try.func20, Try.ntmps20
          go_wp2_with fail
          refine (H1.out _).mono ?_
          rintro e w1 ⟨rfl, h1⟩
          obtain ⟨hc_w1, hf_w1, hz_w1⟩ := bcell h1; (try simp only [szA] at hz_w1); (try have := wz0 w w1); (try have := wz1 w w1); (try have := wz2 w w1); (try have := wz3 w w1); (try have := wz4 w w1)
          go_wp2_with fail
          refine (H2.out _).mono ?_
          rintro e w2 ⟨rfl, h2⟩
          obtain ⟨hc_w2, hf_w2, hz_w2⟩ := bcell h2; (try simp only [szA] at hz_w2); (try have := wz0 w w2); (try have := wz1 w w2); (try have := wz2 w w2); (try have := wz3 w w2); (try have := wz4 w w2)
          go_wp2_with fail
          refine (H3.out _).mono ?_
          rintro e w3 ⟨rfl, h3⟩
          obtain ⟨hc_w3, hf_w3, hz_w3⟩ := bcell h3; (try simp only [szA] at hz_w3); (try have := wz0 w w3); (try have := wz1 w w3); (try have := wz2 w w3); (try have := wz3 w w3); (try have := wz4 w w3)
          go_wp2_with fail
          refine (H4.out _).mono ?_
          rintro e w4 ⟨rfl, h4⟩
          obtain ⟨hc_w4, hf_w4, hz_w4⟩ := bcell h4; (try simp only [szA] at hz_w4); (try have := wz0 w w4); (try have := wz1 w w4); (try have := wz2 w w4); (try have := wz3 w w4); (try have := wz4 w w4)
          go_wp2_with fail
          go_ret
          exact ⟨rfl, ext_by⟩
set_option maxHeartbeats 1000000 in
theorem oOf_c (xl xh yl yh ul uh vl vh : Int) (w : World) :
    Calls Try.prog 28 #[.agg #[.int .i64 xl, .int .i64 xh, .int .i64 yl, .int .i64 yh, .int .i64 ul, .int .i64 uh, .int .i64 vl, .int .i64 vh]] w fun e w' => e = .returned (.agg #[.int .i64 xl, .int .i64 xh, .int .i64 yl, .int .i64 yh, .int .i64 ul, .int .i64 uh, .int .i64 vl, .int .i64 vh]) ∧ Ext w w' := by
  go_enter Try.func28, Try.ntmps28
  go_wp2_with fail
  (try simp only [Exit.inBlock, Exit.then]); apply bodyPost_ret; (focus (simp only [results, Try.results28]; go_simp; try rfl)); rfl
  exact ⟨rfl, ext_by⟩
set_option maxRecDepth 20000 in
set_option maxHeartbeats 4000000 in
theorem oCheck_c (b : Bx) (w : World) :
    Calls Try.prog 15 #[.agg #[.int .i64 b.x.lo, .int .i64 b.x.hi, .int .i64 b.y.lo, .int .i64 b.y.hi, .int .i64 b.u.lo, .int .i64 b.u.hi, .int .i64 b.v.lo, .int .i64 b.v.hi]] w fun e w' => e = .returned (.int .i64 (bxErr b)) ∧ Ext w w' := by
  have HS := Lib.hid fun x y u v W => oCheckState_c x y u v W
  obtain ⟨E1, h1⟩ : ∃ E, stErr (lowS b) = E := ⟨_, rfl⟩
  obtain ⟨E2, h2⟩ : ∃ E, stErr (highS b) = E := ⟨_, rfl⟩
  have t1 := stErr_two (lowS b)
  have t2 := stErr_two (highS b)
  rw [h1] at t1
  rw [h2] at t2
  obtain ⟨R, hR⟩ : ∃ R, bxErr b = R := ⟨_, rfl⟩
  rw [hR]
  have hR2 : (fullB b = true → R = max E1 E2) ∧ (fullB b ≠ true → R = 2) := by
    rw [← hR]; unfold bxErr
    exact ⟨fun h => by rw [if_pos h, h1, h2], fun h => by rw [if_neg h]⟩
  have HR := Lib.hid hR2
  have H1 := Lib.hid h1
  have H2 := Lib.hid h2
  have hix := fun k X Y (h : spanAt b k X Y) => span_ix h
  have hfull : Hid (fullB b = true ↔ b.x.lo ≤ b.x.hi ∧ b.y.lo ≤ b.y.hi ∧ b.u.lo ≤ b.u.hi ∧ b.v.lo ≤ b.v.hi) := fullB_iff
  have hspan := Lib.hid fun k (h : k < 4) => span_some b h
  clear hR hR2 h1 h2
  have HIX := Lib.hid hix
  clear hix
  obtain ⟨⟨xl, xh⟩, ⟨yl, yh⟩, ⟨ul, uh⟩, vl, vh⟩ := b
  dsimp only at HIX hfull hspan
  unfold spanAt at hspan
  dsimp only at hspan
  go_enter Try.func15, Try.ntmps15
  go_wp2_with fail
  refine (oOf_c _ _ _ _ _ _ _ _ _).mono ?_
  rintro e w1 ⟨rfl, h1⟩
  have e1 : Ext w w1 := ext_by
  have B1 : Blk w1 w.heap.size 36 #[.int .i64 xl, .int .i64 xh, .int .i64 yl, .int .i64 yh, .int .i64 ul, .int .i64 uh, .int .i64 vl, .int .i64 vh] := (Blk.newAt rfl).ext h1
  clear h1
  go_wp2_with fail
  go_loopw [7] (fun i wr => ∃ k : Nat, k ≤ 4 ∧ i = .int .i64 k ∧ Hid ((0 < k → xl ≤ xh) ∧ (1 < k → yl ≤ yh) ∧ (2 < k → ul ≤ uh) ∧ (3 < k → vl ≤ vh)) ∧ Ext w1 wr) (fun i _ => 4 - (intOf i).toNat)
  case atStart => exact ⟨0, Nat.zero_le _, rfl, Lib.hid (by omega), Ext.refl _⟩
  case round =>
    obtain ⟨k, hk, rfl, HI, hb⟩ := hrel
    by_cases hk4 : k < 4
    · obtain ⟨X, Y, hX⟩ := hspan.out k hk4
      have ixk := HIX.out k X Y hX
      have HX := Lib.hid hX
      clear hX
      by_cases c1 : Y < X
      · go_wp2_with fail
        go_ret
        refine ⟨ret_i ?_, ext_by⟩
        have h3 := HR.out.2 (fun h => by have h4 := hfull.out.1 h; have := HX.out; omega)
        exact h3.symm
      · have c2 : X ≤ Y := by omega
        go_wp2_with fail
        go_roundw
        case rel => exact ⟨k + 1, by omega, by go_num, Lib.hid (by have := HX.out; have := HI.out; omega), ext_by⟩
        case measure => simp [intOf]; omega
    · obtain rfl : k = 4 := by omega
      have B2 := B1.ext hb
      have cb := B2.cell
      have lb := B2.lt
      have HRR := Lib.hid (HR.out.1 (hfull.out.2 (by have := HI.out; omega)))
      go_wp2_with fail
      refine wp_region_text (by kernel_rfl) (by kernel_rfl) ?_
      (repeat' (first | (refine bl_off (by rfl) ?_; simp only [putX]) | (apply bl_op; rfl; (intro w1 h1; obtain ⟨hc, hf, hz⟩ := bcell h1; go_simp; (try go_bits); (first | exact ⟨rfl, Ext.refl _⟩ | (apply gives_call; first | (go_at_call 20; exact HS.out _ _ _ _ _)) | (go_invoke; go_simp; apply gives_call; first | (go_at_call 20; exact HS.out _ _ _ _ _)))); simp only [putX]) | (refine bl_split rfl rfl (fun hx => ?_) (fun hx => ?_) <;> simp only [hx])))
      refine bl_nil ?_
      intro w3 h3
      obtain ⟨hc_w3, hf_w3, hz_w3⟩ := bcell h3; (try simp only [szA] at hz_w3); (try have := wz0 w w3); (try have := wz1 w w3); (try have := wz2 w w3); (try have := wz3 w w3); (try have := wz4 w w3)
      go_wp2_with fail
      go_ret
      exact ⟨ret_i (by rw [HRR.out, ← H1.out, ← H2.out]; rfl), ext_by⟩
end Go.Proofs.Ytfniicgoeljmdaa

namespace Go.Proofs.Ytfniicgoeljmdaa
open Go.RowKit

def holdsB (b : Bx) (s : St) : Bool := within s.x b.x.lo b.x.hi && within s.y b.y.lo b.y.hi && within s.u b.u.lo b.u.hi && within s.v b.v.lo b.v.hi
theorem holdsB_iff {b : Bx} {s : St} : holdsB b s = true ↔ (b.x.lo ≤ s.x ∧ s.x ≤ b.x.hi) ∧ (b.y.lo ≤ s.y ∧ s.y ≤ b.y.hi) ∧ (b.u.lo ≤ s.u ∧ s.u ≤ b.u.hi) ∧ b.v.lo ≤ s.v ∧ s.v ≤ b.v.hi := by
  simp only [holdsB, within, Bool.and_eq_true, decide_eq_true_eq, and_assoc]
end Go.Proofs.Ytfniicgoeljmdaa
