/- The chapter's examples. No condition. -/
import Derived.Test.YtmgjjgmadiabfaaSkyOutside
import Derived.Test.YtmgjjgmadiabfaaAt
import Derived.Test.YtmgjjgmadiabfaaLink
import Derived.Test.YtmgjjgmadiabfaaSameInts
import Derived.Deep.RegionWith
namespace Go.Proofs.Ytmgjjgmadiabfaa
open Go.RowKit

section
variable {A1 A2 A3 : Option Addr} {c1 c2 c3 : Nat} {W : World} (hs : IsSky W A1 2 1 A2 1 A3 2 shownS)
include hs
theorem agr_c (kind st cat tick dx dy er lo hi : Int) (px py : Int) (b : Bool) (h : agreesAll shownS ⟨kind, st, cat, tick, dx, dy, er, lo, hi⟩ px py = b) :
    Calls Try.prog 21 #[.agg #[.slice A1 2 c1, .int .i64 1, .slice A2 1 c2, .slice A3 2 c3], .agg #[.int .i64 kind, .int .i64 st, .int .i64 cat, .int .i64 tick, .int .i64 dx, .int .i64 dy, .int .i64 er, .int .i64 lo, .int .i64 hi], .agg #[.int .i64 px, .int .i64 py]] W fun e w' => e = .returned (.bool b) ∧ Ext W w' := h ▸ Agrees_c A1 2 c1 1 A2 1 c2 A3 2 c3 shownS kind st cat tick dx dy er lo hi px py W hs
theorem exc_c (kind st cat tick dx dy er lo hi : Int) (xl xh yl yh : Int) (b : Bool) (h : exclAll shownS ⟨kind, st, cat, tick, dx, dy, er, lo, hi⟩ xl xh yl yh = b) :
    Calls Try.prog 40 #[.agg #[.slice A1 2 c1, .int .i64 1, .slice A2 1 c2, .slice A3 2 c3], .agg #[.int .i64 kind, .int .i64 st, .int .i64 cat, .int .i64 tick, .int .i64 dx, .int .i64 dy, .int .i64 er, .int .i64 lo, .int .i64 hi], .agg #[.int .i64 xl, .int .i64 xh, .int .i64 yl, .int .i64 yh]] W fun e w' => e = .returned (.bool b) ∧ Ext W w' := h ▸ Excludes_c A1 2 c1 1 A2 1 c2 A3 2 c3 shownS kind st cat tick dx dy er lo hi xl xh yl yh W hs
end
theorem link_yes : linkR shownS [⟨1, 7, 1, 0, 0, 1, 100000, 0, 0⟩] [⟨1, 7, 1, 1, 1, 0, 100000, 0, 0⟩] [⟨1000, 110, -500, 900⟩] 0 = (0, []) := by rfl
theorem link_no : linkR shownS [⟨1, 7, 1, 0, 0, 1, 100000, 0, 0⟩] [⟨1, 7, 1, 1, 1, 0, 100000, 0, 0⟩] [⟨1000, 110, 0, 0⟩] 0 = (-1, [1]) := by rfl
theorem link_yes_err : linkErr shownS [⟨1, 7, 1, 0, 0, 1, 100000, 0, 0⟩] [⟨1, 7, 1, 1, 1, 0, 100000, 0, 0⟩] [⟨1000, 110, -500, 900⟩] 0 = 0 := by rfl
theorem link_no_err : linkErr shownS [⟨1, 7, 1, 0, 0, 1, 100000, 0, 0⟩] [⟨1, 7, 1, 1, 1, 0, 100000, 0, 0⟩] [⟨1000, 110, 0, 0⟩] 0 = 0 := by rfl
theorem one_sight {w : World} {b : Nat} {t : TypeId} {x : Sight} (h : Blk w b t #[.int .i64 x.kind, .int .i64 x.station, .int .i64 x.catalog, .int .i64 x.tick, .int .i64 x.dx, .int .i64 x.dy, .int .i64 x.err, .int .i64 x.lo, .int .i64 x.hi]) : Sights w (some ⟨b, 0, none⟩) 1 [x] :=
  ⟨rfl, by decide, .inr ⟨b, 0, rfl, one_ (P := fun x k => sightAt w x b (0 + k * 9)) ⟨h.cell 0, h.cell 1, h.cell 2, h.cell 3, h.cell 4, h.cell 5, h.cell 6, h.cell 7, h.cell 8⟩⟩⟩
theorem one_st {w : World} {b : Nat} {t : TypeId} {x : St} (h : Blk w b t #[.int .i64 x.x, .int .i64 x.y, .int .i64 x.u, .int .i64 x.v]) : Sts w (some ⟨b, 0, none⟩) 1 [x] :=
  ⟨rfl, by decide, .inr ⟨b, 0, rfl, one_ (P := fun x k => stAt w x b (0 + k * 4)) ⟨h.cell 0, h.cell 1, h.cell 2, h.cell 3⟩⟩⟩
theorem one_int {w : World} {b : Nat} {t : TypeId} {x : Int} (h : Blk w b t #[.int .i64 x]) : Ints w (some ⟨b, 0, none⟩) 1 [x] :=
  ⟨rfl, by decide, .inr ⟨b, 0, rfl, one_ (P := fun x k => intAt w x b (0 + k * 1)) (h.cell 0)⟩⟩
theorem at_shown : atM shownS.world.bodies 1 1 3 = ⟨0, 1000⟩ := rfl

set_option maxRecDepth 8000 in
set_option maxHeartbeats 4000000 in
theorem SkyKnown_c (w : World) : Calls Try.prog 16 #[] w fun e w' => e = .returned (.bool true) ∧ Ext w w' := by
  go_enter Try.func16, Try.ntmps16
  go_wp2_with fail
  refine (shown_c _).mono ?_
  rintro e w1 ⟨A1, c1, A2, c2, A3, c3, rfl, hs1, h1⟩
  go_wp2_with fail
  refine (At_c A1 2 c1 1 1 3 shownS.world.bodies _ (hs1.ext (Ext.alloc0 _ _)).bodies).mono ?_
  rw [at_shown]
  rintro e w2 ⟨rfl, h2⟩
  have hA2 : Blk w2 w1.heap.size 28 #[.slice A1 2 c1, .int .i64 1, .slice A2 1 c2, .slice A3 2 c3] := (Blk.newAt rfl).ext h2
  have hs2 := (hs1.ext (Ext.alloc0 _ _)).ext h2
  have hE2 : Ext w w2 := h1.trans ((Ext.alloc0 _ _).trans h2)
  have hc2 := hA2.cell
  have hl2 := hA2.lt
  clear h1 h2 hs1
  go_wp2_with fail
  obtain ⟨W3, hW3⟩ : ∃ W, W = (w2.alloc (.cells #[.int .i64 1000, .int .i64 1010, .int .i64 990, .int .i64 1011, .int .i64 1000, .int .i64 990, .int .i64 970, .int .i64 969] 2)).alloc (.cells #[.bool true, .bool true, .bool true, .bool false, .bool true, .bool true, .bool true, .bool false] 4) := ⟨_, rfl⟩
  rw [← hW3]
  have hE23 : Ext w2 W3 := by rw [hW3]; (repeat' (first | exact Ext.refl _ | assumption | apply Ext.alloc | apply Ext.drew | refine Ext.set ?_ (by dsimp only; omega) _ | refine Ext.trans ?_ (by assumption)))
  have hA3 : Blk W3 w1.heap.size 28 #[.slice A1 2 c1, .int .i64 1, .slice A2 1 c2, .slice A3 2 c3] := hA2.ext hE23
  have hX3 : Blk W3 w2.heap.size 2 #[.int .i64 1000, .int .i64 1010, .int .i64 990, .int .i64 1011, .int .i64 1000, .int .i64 990, .int .i64 970, .int .i64 969] := by rw [hW3]; exact (Blk.newAt rfl).alloc _
  have hY3 : Blk W3 (w2.heap.size + 1) 4 #[.bool true, .bool true, .bool true, .bool false, .bool true, .bool true, .bool true, .bool false] := by rw [hW3]; exact Blk.newAt (by simp)
  have hs3 := hs2.ext hE23
  have hE3 := hE2.trans hE23
  clear hW3 hE23 hA2 hs2 hE2 hc2 hl2
  go_loopw [4] (fun i wr => ∃ k : Nat, k ≤ 8 ∧ i = .int .i64 k ∧ Ext W3 wr) (fun i _ => 8 - (intOf i).toNat)
  case atStart => exact ⟨0, by omega, rfl, Ext.refl _⟩
  case round =>
    obtain ⟨k, hk, rfl, hb⟩ := hrel
    obtain ⟨wo, rfl⟩ : ∃ wo : World, wo = wr := ⟨_, rfl⟩
    have hA := hA3.ext hb
    have hX := hX3.ext hb
    have hY := hY3.ext hb
    have hs := hs3.ext hb
    have hEo := hE3.trans hb
    have hcA := hA.cell
    have hcX := hX.cell
    have hcY := hY.cell
    have hlA := hA.lt
    have hlX := hX.lt
    have hlY := hY.lt
    by_cases hlt : k < 8
    · obtain rfl | rfl | rfl | rfl | rfl | rfl | rfl | rfl : k = 0 ∨ k = 1 ∨ k = 2 ∨ k = 3 ∨ k = 4 ∨ k = 5 ∨ k = 6 ∨ k = 7 := by omega
      all_goals go_wp2_with fail
      all_goals refine wp_region_text (by kernel_rfl) (by kernel_rfl) ?_
      all_goals (
        repeat' (first | (refine bl_off (by rfl) ?_; simp only [Act.put, List.setIfInBounds_toArray, List.set_cons_zero, List.set_cons_succ]) | (apply bl_op; rfl; (intro w1 h1; obtain ⟨hc, hf, hz⟩ := bcell h1; go_simp; (try go_bits); (first | exact ⟨rfl, Ext.refl _⟩ | (apply gives_call; first | (go_at_call 21; first | exact agr_c (hs.ext h1) _ _ _ _ _ _ _ _ _ _ _ true rfl | exact agr_c (hs.ext h1) _ _ _ _ _ _ _ _ _ _ _ false rfl) | (go_at_call 54; exact angle_c _ _)) | (go_invoke; go_simp; apply gives_call; first | (go_at_call 21; first | exact agr_c (hs.ext h1) _ _ _ _ _ _ _ _ _ _ _ true rfl | exact agr_c (hs.ext h1) _ _ _ _ _ _ _ _ _ _ _ false rfl) | (go_at_call 54; exact angle_c _ _)))); simp only [Act.put, List.setIfInBounds_toArray, List.set_cons_zero, List.set_cons_succ]) | (refine bl_split rfl rfl (fun hx => ?_) (fun hx => ?_) <;> simp only [hx])))
      all_goals refine bl_nil ?_
      all_goals intro w5 h5
      all_goals go_wp2_with fail
      all_goals go_roundw
      all_goals first
        | exact ⟨1, by omega, rfl, hb.trans h5⟩
        | exact ⟨2, by omega, rfl, hb.trans h5⟩
        | exact ⟨3, by omega, rfl, hb.trans h5⟩
        | exact ⟨4, by omega, rfl, hb.trans h5⟩
        | exact ⟨5, by omega, rfl, hb.trans h5⟩
        | exact ⟨6, by omega, rfl, hb.trans h5⟩
        | exact ⟨7, by omega, rfl, hb.trans h5⟩
        | exact ⟨8, by omega, rfl, hb.trans h5⟩
        | (simp [intOf]; done)
    · have hk8 : k = 8 := by omega
      subst hk8
      go_wp2_with fail
      refine wp_region_text (by kernel_rfl) (by kernel_rfl) ?_
      repeat' (first | (refine bl_off (by rfl) ?_; simp only [Act.put, List.setIfInBounds_toArray, List.set_cons_zero, List.set_cons_succ]) | (apply bl_op; rfl; (intro w1 h1; obtain ⟨hc, hf, hz⟩ := bcell h1; go_simp; (try go_bits); (first | exact ⟨rfl, Ext.refl _⟩ | (apply gives_call; first | (go_at_call 21; first | exact agr_c (hs.ext h1) _ _ _ _ _ _ _ _ _ _ _ true rfl | exact agr_c (hs.ext h1) _ _ _ _ _ _ _ _ _ _ _ false rfl) | (go_at_call 40; first | exact exc_c (hs.ext h1) _ _ _ _ _ _ _ _ _ _ _ _ _ true rfl | exact exc_c (hs.ext h1) _ _ _ _ _ _ _ _ _ _ _ _ _ false rfl) | (go_at_call 54; exact angle_c _ _) | (go_at_call 55; exact area_c _ _ _ _ _)) | (go_invoke; go_simp; apply gives_call; first | (go_at_call 21; first | exact agr_c (hs.ext h1) _ _ _ _ _ _ _ _ _ _ _ true rfl | exact agr_c (hs.ext h1) _ _ _ _ _ _ _ _ _ _ _ false rfl) | (go_at_call 40; first | exact exc_c (hs.ext h1) _ _ _ _ _ _ _ _ _ _ _ _ _ true rfl | exact exc_c (hs.ext h1) _ _ _ _ _ _ _ _ _ _ _ _ _ false rfl) | (go_at_call 54; exact angle_c _ _) | (go_at_call 55; exact area_c _ _ _ _ _)))); simp only [Act.put, List.setIfInBounds_toArray, List.set_cons_zero, List.set_cons_succ]) | (refine bl_split rfl rfl (fun hx => ?_) (fun hx => ?_) <;> simp only [hx]))
      refine bl_nil ?_
      intro w5 h5
      have hA5 := hA.ext h5
      have hs5 := hs.ext h5
      have hE5 := hEo.trans h5
      have hc5 := hA5.cell
      have hl5 := hA5.lt
      clear hcA hcX hcY hlA hlX hlY hA hX hY hs hEo h5 hb hA3 hX3 hY3 hs3 hE3
      go_wp2_with fail
      obtain ⟨W6, hW6⟩ : ∃ W, W = w5.alloc (.cells #[.int .i64 2, .int .i64 7, .int .i64 0, .int .i64 0, .int .i64 0, .int .i64 0, .int .i64 0, .int .i64 90, .int .i64 100] 32) := ⟨_, rfl⟩
      try rw [← hW6]
      have hR6 : Blk W6 w5.heap.size 32 #[.int .i64 2, .int .i64 7, .int .i64 0, .int .i64 0, .int .i64 0, .int .i64 0, .int .i64 0, .int .i64 90, .int .i64 100] := by rw [hW6]; exact Blk.newAt rfl
      have hA6 : Blk W6 w1.heap.size 28 #[.slice A1 2 c1, .int .i64 1, .slice A2 1 c2, .slice A3 2 c3] := by rw [hW6]; exact hA5.alloc _
      have hs6 : IsSky W6 A1 2 1 A2 1 A3 2 shownS := by rw [hW6]; exact hs5.ext (Ext.alloc0 _ _)
      have hE6 : Ext w W6 := by rw [hW6]; exact hE5.trans (Ext.alloc0 _ _)
      clear hW6 hA5 hs5 hE5 hc5 hl5
      have hc1 := hA6.cell
      have hc2 := hR6.cell
      have hl1 := hA6.lt
      have hl2 := hR6.lt
      refine wp_region_text (by kernel_rfl) (by kernel_rfl) ?_
      repeat' (first | (refine bl_off (by rfl) ?_; simp only [Act.put, List.setIfInBounds_toArray, List.set_cons_zero, List.set_cons_succ]) | (apply bl_op; rfl; (intro w1 h1; obtain ⟨hc, hf, hz⟩ := bcell h1; go_simp; (try go_bits); (first | exact ⟨rfl, Ext.refl _⟩ | (apply gives_call; first | (go_at_call 21; first | exact agr_c (hs6.ext h1) _ _ _ _ _ _ _ _ _ _ _ true rfl | exact agr_c (hs6.ext h1) _ _ _ _ _ _ _ _ _ _ _ false rfl) | (go_at_call 40; first | exact exc_c (hs6.ext h1) _ _ _ _ _ _ _ _ _ _ _ _ _ true rfl | exact exc_c (hs6.ext h1) _ _ _ _ _ _ _ _ _ _ _ _ _ false rfl) | (go_at_call 54; exact angle_c _ _) | (go_at_call 55; exact area_c _ _ _ _ _)) | (go_invoke; go_simp; apply gives_call; first | (go_at_call 21; first | exact agr_c (hs6.ext h1) _ _ _ _ _ _ _ _ _ _ _ true rfl | exact agr_c (hs6.ext h1) _ _ _ _ _ _ _ _ _ _ _ false rfl) | (go_at_call 40; first | exact exc_c (hs6.ext h1) _ _ _ _ _ _ _ _ _ _ _ _ _ true rfl | exact exc_c (hs6.ext h1) _ _ _ _ _ _ _ _ _ _ _ _ _ false rfl) | (go_at_call 54; exact angle_c _ _) | (go_at_call 55; exact area_c _ _ _ _ _)))); simp only [Act.put, List.setIfInBounds_toArray, List.set_cons_zero, List.set_cons_succ]) | (refine bl_split rfl rfl (fun hx => ?_) (fun hx => ?_) <;> simp only [hx]))
      refine bl_nil ?_
      intro w7 h7
      have hA7 := hA6.ext h7
      have hs7 := hs6.ext h7
      have hE7 := hE6.trans h7
      clear hc1 hc2 hl1 hl2 hR6 hA6 hs6 hE6 h7
      have hc1 := hA7.cell
      have hl1 := hA7.lt
      go_wp2_with fail
      refine (angle_c _ _).mono ?_
      rintro e w8 ⟨rfl, h8⟩
      have hA8 := hA7.ext h8
      have hs8 := hs7.ext h8
      have hE8 := hE7.trans h8
      clear hc1 hl1 hA7 hs7 hE7 h8
      have hc1 := hA8.cell
      have hl1 := hA8.lt
      have hl2 : w1.heap.size < w8.heap.size + 1 := by omega
      go_wp2_with fail
      obtain ⟨W9, hW9⟩ : ∃ W, W = w8.alloc (.cells #[.int .i64 3, .int .i64 7, .int .i64 1, .int .i64 0, .int .i64 0, .int .i64 1, .int .i64 100000, .int .i64 0, .int .i64 100] 32) := ⟨_, rfl⟩
      try rw [← hW9]
      have hR9 : Blk W9 w8.heap.size 32 #[.int .i64 3, .int .i64 7, .int .i64 1, .int .i64 0, .int .i64 0, .int .i64 1, .int .i64 100000, .int .i64 0, .int .i64 100] := by rw [hW9]; exact Blk.newAt rfl
      have hA9 : Blk W9 w1.heap.size 28 #[.slice A1 2 c1, .int .i64 1, .slice A2 1 c2, .slice A3 2 c3] := by rw [hW9]; exact hA8.alloc _
      have hs9 : IsSky W9 A1 2 1 A2 1 A3 2 shownS := by rw [hW9]; exact hs8.ext (Ext.alloc0 _ _)
      have hE9 : Ext w W9 := by rw [hW9]; exact hE8.trans (Ext.alloc0 _ _)
      clear hW9 hA8 hs8 hE8 hc1 hl1 hl2
      have hc1 := hA9.cell
      have hc2 := hR9.cell
      have hl1 := hA9.lt
      have hl2 := hR9.lt
      refine wp_region_text (by kernel_rfl) (by kernel_rfl) ?_
      repeat' (first | (refine bl_off (by rfl) ?_; simp only [Act.put, List.setIfInBounds_toArray, List.set_cons_zero, List.set_cons_succ]) | (apply bl_op; rfl; (intro w1 h1; obtain ⟨hc, hf, hz⟩ := bcell h1; go_simp; (try go_bits); (first | exact ⟨rfl, Ext.refl _⟩ | (apply gives_call; first | (go_at_call 21; first | exact agr_c (hs9.ext h1) _ _ _ _ _ _ _ _ _ _ _ true rfl | exact agr_c (hs9.ext h1) _ _ _ _ _ _ _ _ _ _ _ false rfl) | (go_at_call 40; first | exact exc_c (hs9.ext h1) _ _ _ _ _ _ _ _ _ _ _ _ _ true rfl | exact exc_c (hs9.ext h1) _ _ _ _ _ _ _ _ _ _ _ _ _ false rfl) | (go_at_call 54; exact angle_c _ _) | (go_at_call 55; exact area_c _ _ _ _ _)) | (go_invoke; go_simp; apply gives_call; first | (go_at_call 21; first | exact agr_c (hs9.ext h1) _ _ _ _ _ _ _ _ _ _ _ true rfl | exact agr_c (hs9.ext h1) _ _ _ _ _ _ _ _ _ _ _ false rfl) | (go_at_call 40; first | exact exc_c (hs9.ext h1) _ _ _ _ _ _ _ _ _ _ _ _ _ true rfl | exact exc_c (hs9.ext h1) _ _ _ _ _ _ _ _ _ _ _ _ _ false rfl) | (go_at_call 54; exact angle_c _ _) | (go_at_call 55; exact area_c _ _ _ _ _)))); simp only [Act.put, List.setIfInBounds_toArray, List.set_cons_zero, List.set_cons_succ]) | (refine bl_split rfl rfl (fun hx => ?_) (fun hx => ?_) <;> simp only [hx]))
      refine bl_nil ?_
      intro w10 h10
      have hA10 := hA9.ext h10
      have hs10 := hs9.ext h10
      have hE10 := hE9.trans h10
      clear hc1 hc2 hl1 hl2 hR9 hA9 hs9 hE9 h10
      have hc1 := hA10.cell
      have hl1 := hA10.lt
      go_wp2_with fail
      refine (angle_c _ _).mono ?_
      rintro e w11 ⟨rfl, h11⟩
      have hA11 := hA10.ext h11
      have hs11 := hs10.ext h11
      have hE11 := hE10.trans h11
      clear hc1 hl1 hA10 hs10 hE10 h11
      have hc1 := hA11.cell
      have hl1 := hA11.lt
      have hl2 : w1.heap.size < w11.heap.size + 1 := by omega
      go_wp2_with fail
      obtain ⟨W12, hW12⟩ : ∃ W, W = w11.alloc (.cells #[.int .i64 1, .int .i64 7, .int .i64 1, .int .i64 1, .int .i64 1, .int .i64 0, .int .i64 100000, .int .i64 0, .int .i64 0] 32) := ⟨_, rfl⟩
      try rw [← hW12]
      have hR12 : Blk W12 w11.heap.size 32 #[.int .i64 1, .int .i64 7, .int .i64 1, .int .i64 1, .int .i64 1, .int .i64 0, .int .i64 100000, .int .i64 0, .int .i64 0] := by rw [hW12]; exact Blk.newAt rfl
      have hA12 : Blk W12 w1.heap.size 28 #[.slice A1 2 c1, .int .i64 1, .slice A2 1 c2, .slice A3 2 c3] := by rw [hW12]; exact hA11.alloc _
      have hs12 : IsSky W12 A1 2 1 A2 1 A3 2 shownS := by rw [hW12]; exact hs11.ext (Ext.alloc0 _ _)
      have hE12 : Ext w W12 := by rw [hW12]; exact hE11.trans (Ext.alloc0 _ _)
      clear hW12 hA11 hs11 hE11 hc1 hl1 hl2
      have hc2 := hR12.cell
      have hl2 := hR12.lt
      go_region_with (go_at_call 54; refine (angle_c _ _).mono ?_; rintro e w13 ⟨rfl, h13⟩; have hR13 := hR12.ext (show Ext W12 w13 by (repeat' (first | exact Ext.refl _ | assumption | apply Ext.alloc | apply Ext.drew | refine Ext.set ?_ (by dsimp only; omega) _ | refine Ext.trans ?_ (by assumption)))); have hc13 := hR13.cell; have hl13 := hR13.lt; have hA13 := hA12.ext (show Ext W12 w13 by (repeat' (first | exact Ext.refl _ | assumption | apply Ext.alloc | apply Ext.drew | refine Ext.set ?_ (by dsimp only; omega) _ | refine Ext.trans ?_ (by assumption)))); have hcA13 := hA13.cell; have hlA13 := hA13.lt; have hlB13 : w1.heap.size < w13.heap.size + 1 := (by omega); have hlC13 : w1.heap.size < w13.heap.size + 1 + 1 := (by omega))
      all_goals (
        have hcA12 := hA12.cell
        have hlA12 := hA12.lt
        have hlA1 : w1.heap.size < W12.heap.size + 1 := by omega
        have hlA2 : w1.heap.size < W12.heap.size + 1 + 1 := by omega
        go_wp2_with fail
        refine (Link_c A1 2 c1 1 A2 1 c2 A3 2 c3 shownS _ _ _ [⟨1, 7, 1, 0, 0, 1, 100000, 0, 0⟩] _ _ _ [⟨1, 7, 1, 1, 1, 0, 100000, 0, 0⟩] _ _ _ [⟨1000, 110, -500, 900⟩] 0 _ ?hs ?ha ?hb ?hg).mono ?_
        case hs => exact hs12.ext (by (repeat' (first | exact Ext.refl _ | assumption | apply Ext.alloc | apply Ext.drew | refine Ext.set ?_ (by dsimp only; omega) _ | refine Ext.trans ?_ (by assumption))))
        case ha => exact one_sight (t := 32) (by (repeat (first | exact Blk.newAt (by simp) | assumption | refine Blk.alloc ?_ _ | refine Blk.ext ?_ (Ext.drew (Ext.refl _)) | refine Blk.ext ?_ (by assumption))))
        case hb => exact one_sight (t := 32) (by (repeat (first | exact Blk.newAt (by simp) | assumption | refine Blk.alloc ?_ _ | refine Blk.ext ?_ (Ext.drew (Ext.refl _)) | refine Blk.ext ?_ (by assumption))))
        case hg => exact one_st (t := 53) (by (repeat (first | exact Blk.newAt (by simp) | assumption | refine Blk.alloc ?_ _ | refine Blk.ext ?_ (Ext.drew (Ext.refl _)) | refine Blk.ext ?_ (by assumption))))
        rw [link_yes, link_yes_err]
        rintro e w14 ⟨L1, d1, rfl, hL1, h14⟩
        have hA14 := hA12.ext (show Ext W12 w14 by (repeat' (first | exact Ext.refl _ | assumption | apply Ext.alloc | apply Ext.drew | refine Ext.set ?_ (by dsimp only; omega) _ | refine Ext.trans ?_ (by assumption))))
        have hcA14 := hA14.cell
        have hlA14 := hA14.lt
        have hlA15 : w1.heap.size < w14.heap.size + 1 := by omega
        go_wp2_with fail
        refine (Link_c A1 2 c1 1 A2 1 c2 A3 2 c3 shownS _ _ _ [⟨1, 7, 1, 0, 0, 1, 100000, 0, 0⟩] _ _ _ [⟨1, 7, 1, 1, 1, 0, 100000, 0, 0⟩] _ _ _ [⟨1000, 110, 0, 0⟩] 0 _ ?hs ?ha ?hb ?hg).mono ?_
        case hs => exact hs12.ext (by (repeat' (first | exact Ext.refl _ | assumption | apply Ext.alloc | apply Ext.drew | refine Ext.set ?_ (by dsimp only; omega) _ | refine Ext.trans ?_ (by assumption))))
        case ha => exact one_sight (t := 32) (by (repeat (first | exact Blk.newAt (by simp) | assumption | refine Blk.alloc ?_ _ | refine Blk.ext ?_ (Ext.drew (Ext.refl _)) | refine Blk.ext ?_ (by assumption))))
        case hb => exact one_sight (t := 32) (by (repeat (first | exact Blk.newAt (by simp) | assumption | refine Blk.alloc ?_ _ | refine Blk.ext ?_ (Ext.drew (Ext.refl _)) | refine Blk.ext ?_ (by assumption))))
        case hg => exact one_st (t := 53) (by (repeat (first | exact Blk.newAt (by simp) | assumption | refine Blk.alloc ?_ _ | refine Blk.ext ?_ (Ext.drew (Ext.refl _)) | refine Blk.ext ?_ (by assumption))))
        rw [link_no, link_no_err]
        rintro e w15 ⟨L2, d2, rfl, hL2, h15⟩
        go_wp2_with fail
        refine (SameInts_c L2 1 d2 _ 1 1 [1] _ (Ints.ext (by (repeat' (first | exact Ext.refl _ | assumption | apply Ext.alloc | apply Ext.drew | refine Ext.set ?_ (by dsimp only; omega) _ | refine Ext.trans ?_ (by assumption)))) hL2) ?hm).mono ?_
        case hm => exact one_int (t := 3) (by (repeat (first | exact Blk.newAt (by simp) | assumption | refine Blk.alloc ?_ _ | refine Blk.ext ?_ (Ext.drew (Ext.refl _)) | refine Blk.ext ?_ (by assumption))))
        rintro e w16 ⟨rfl, h16⟩
        go_wp2_with fail
        refine (awake_c _).mono ?_
        rintro e w17 ⟨rfl, h17⟩
        go_wp2_with fail
        go_ret
        exact ⟨rfl, by (repeat' (first | exact Ext.refl _ | assumption | apply Ext.alloc | apply Ext.drew | refine Ext.set ?_ (by dsimp only; omega) _ | refine Ext.trans ?_ (by assumption)))⟩)
end Go.Proofs.Ytmgjjgmadiabfaa
