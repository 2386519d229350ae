/- Whether a sight excludes an area: pieces of the reference. No condition. Whether a sight excludes an area: the reference. No condition. Whether an empty look excludes an area: the reference. No condition. Whether a range excludes an area: the reference; the law SkyExcludes. No condition. -/
import Derived.Test.YtfniicgoeljmdaaGreatExcludes3
namespace Go.Proofs.YtfniicgoeljmdaaGreat
open Go.RowKit

set_option maxRecDepth 4000 in
set_option maxHeartbeats 1000000 in
theorem refCheckArea_c (xl xh yl yh : Int) (w : World) :
    Calls Tryz.prog 183 #[.agg #[.int .i64 xl, .int .i64 xh, .int .i64 yl, .int .i64 yh]] w fun e w' => e = .returned (.bool (rightA xl xh yl yh)) ∧ Ext w w' := by
  have H1 := Lib.hid fun W => Near_c xl yl W
  have H2 := Lib.hid fun W => Near_c xh yh W
  have HM : Hid (rightA xl xh yl yh = (decide (xl ≤ xh) && decide (yl ≤ yh) && near ⟨xl, yl⟩ 33554432 && near ⟨xh, yh⟩ 33554432)) := by
    show _ = _
    rw [Bool.eq_iff_iff, rightA_iff]
    simp only [Bool.and_eq_true, decide_eq_true_eq, near_iff]
    omega
  generalize rightA xl xh yl yh = R at *
  generalize near ⟨xl, yl⟩ 33554432 = n1 at *
  generalize near ⟨xh, yh⟩ 33554432 = n2 at *
  by_cases hx : xl ≤ xh
  · by_cases hy : yl ≤ yh
    · go_enter Tryz.func183, Tryz.ntmps183
      go_wp2_with fail
      refine (H1.out _).mono ?_
      rintro e w1 ⟨rfl, h1⟩; obtain ⟨hc_w1, hf_w1, hz_w1⟩ := bcell h1; (try simp only [szA] at hz_w1); have : w.heap.size < w1.heap.size := (by omega)
      cases n1
      · go_wp2_with fail
        go_ret
        exact ⟨ret_b (by rw [HM.out]; simp), ext_by⟩
      · go_wp2_with fail
        refine (H2.out _).mono ?_
        rintro e w2 ⟨rfl, h2⟩; obtain ⟨hc_w2, hf_w2, hz_w2⟩ := bcell h2; (try simp only [szA] at hz_w2); have : w.heap.size < w2.heap.size := (by omega)
        go_wp2_with fail
        go_ret
        exact ⟨ret_b (by rw [HM.out]; simp [hx, hy]), ext_by⟩
    · have hy' : yh < yl := by omega
      go_enter Tryz.func183, Tryz.ntmps183
      go_wp2_with fail
      go_ret
      exact ⟨ret_b (by rw [HM.out]; simp; intro _ h; omega), ext_by⟩
  · have hx' : xh < xl := by omega
    go_enter Tryz.func183, Tryz.ntmps183
    go_wp2_with fail
    go_ret
    exact ⟨ret_b (by rw [HM.out]; simp; intro h; omega), ext_by⟩

theorem four {α : Type} {a b c d : α} {P : α → Nat → Prop} (h0 : P a 0) (h1 : P b 1) (h2 : P c 2) (h3 : P d 3) : ∀ k (h : k < [a, b, c, d].length), P ([a, b, c, d][k]) k
  | 0, _ => h0
  | 1, _ => h1
  | 2, _ => h2
  | 3, _ => h3

set_option maxRecDepth 4000 in
set_option maxHeartbeats 1000000 in
theorem refcorners_c (xl xh yl yh : Int) (w : World) :
    Calls Tryz.prog 184 #[.agg #[.int .i64 xl, .int .i64 xh, .int .i64 yl, .int .i64 yh]] w fun e w' => ∃ A c, e = .returned (.slice A 4 c) ∧ Vecs w' A 4 (cornersL xl xh yl yh) ∧ Ext w w' := by
  go_enter Tryz.func184, Tryz.ntmps184
  go_wp2_with fail
  go_ret
  refine ⟨_, _, rfl, ⟨rfl, by decide, .inr ⟨_, 0, rfl, ?_⟩⟩, ext_by⟩
  have hB : Blk ((w.alloc (.cells #[.int .i64 xl, .int .i64 xh, .int .i64 yl, .int .i64 yh] 112)).alloc (.cells #[.int .i64 xl, .int .i64 yl, .int .i64 xl, .int .i64 yh, .int .i64 xh, .int .i64 yl, .int .i64 xh, .int .i64 yh] 85)) (w.heap.size + 1) 85 #[.int .i64 xl, .int .i64 yl, .int .i64 xl, .int .i64 yh, .int .i64 xh, .int .i64 yl, .int .i64 xh, .int .i64 yh] := Blk.newAt (by simp)
  exact four (P := fun x k => vecAt _ x (w.heap.size + 1) (0 + k * 2)) ⟨hB.cell 0, hB.cell 1⟩ ⟨hB.cell 2, hB.cell 3⟩ ⟨hB.cell 4, hB.cell 5⟩ ⟨hB.cell 6, hB.cell 7⟩

def cntP (p : Vec → Bool) (L : List Vec) (k : Nat) : Nat := (L.take k).countP p
theorem cntP_le (p : Vec → Bool) (L : List Vec) (k : Nat) : cntP p L k ≤ k := Nat.le_trans List.countP_le_length (by rw [List.length_take]; omega)
theorem cntP_succ {p : Vec → Bool} {L : List Vec} {k : Nat} {x : Vec} (h : L.drop k = x :: L.drop (k + 1)) : cntP p L (k + 1) = cntP p L k + if p x then 1 else 0 := by
  unfold cntP
  rw [take_snoc h, List.countP_append]
  simp [List.countP_cons]
theorem cntP_all {p : Vec → Bool} {L : List Vec} (h : L.length = 4) : decide ((cntP p L 4 : Int) = 4) = L.all p := by
  unfold cntP
  rw [List.take_of_length_le (by omega), Bool.eq_iff_iff, decide_eq_true_eq, List.all_eq_true, ← List.countP_eq_length]
  omega
end Go.Proofs.YtfniicgoeljmdaaGreat

namespace Go.Proofs.YtfniicgoeljmdaaGreat
open Go.RowKit

set_option maxRecDepth 4000 in
set_option maxHeartbeats 2000000 in
theorem refExcludes_no (A1 : Option Addr) (n1 c1 : Nat) (home : Int) (A2 : Option Addr) (n2 c2 : Nat) (A3 : Option Addr) (n3 c3 : Nat) (s : Sky) (kind st cat tick dx dy er lo hi : Int) (xl xh yl yh : Int) (w : World) (hs : IsSky w A1 n1 home A2 n2 A3 n3 s) (hno : (decide (sightErr2 s ⟨kind, st, cat, tick, dx, dy, er, lo, hi⟩ = 0) && rightA xl xh yl yh) = false) :
    Calls Tryz.prog 142 #[.agg #[.slice A1 n1 c1, .int .i64 home, .slice A2 n2 c2, .slice A3 n3 c3], .agg #[.int .i64 kind, .int .i64 st, .int .i64 cat, .int .i64 tick, .int .i64 dx, .int .i64 dy, .int .i64 er, .int .i64 lo, .int .i64 hi], .agg #[.int .i64 xl, .int .i64 xh, .int .i64 yl, .int .i64 yh]] w fun e w' => e = .returned (.bool false) ∧ Ext w w' := by
  have HC := Lib.hid fun W (hW : Ext w W) => refCheckSight_c A1 n1 c1 home A2 n2 c2 A3 n3 c3 s kind st cat tick dx dy er lo hi W (hs.ext hW)
  by_cases h0 : sightErr2 s ⟨kind, st, cat, tick, dx, dy, er, lo, hi⟩ = 0
  · have hr : rightA xl xh yl yh = false := by simpa [h0] using hno
    have HR := Lib.hid fun W => refCheckArea_c xl xh yl yh W
    rw [hr] at HR
    rw [h0] at HC
    clear h0 hno hr hs
    go_enter Tryz.func142, Tryz.ntmps142
    go_wp2_with fail
    refine (HC.out _ ext_by).mono ?_
    rintro e w1 ⟨rfl, h1⟩; obtain ⟨hc_w1, hf_w1, hz_w1⟩ := bcell h1; (try simp only [szA] at hz_w1); have : w.heap.size < w1.heap.size := (by omega); have : w.heap.size + 1 < w1.heap.size := (by omega); have : w.heap.size + 2 < w1.heap.size := (by omega)
    go_wp2_with fail
    refine (HR.out _).mono ?_
    rintro e w2 ⟨rfl, h2⟩; obtain ⟨hc_w2, hf_w2, hz_w2⟩ := bcell h2; (try simp only [szA] at hz_w2); have : w.heap.size < w2.heap.size := (by omega); have : w.heap.size + 1 < w2.heap.size := (by omega); have : w.heap.size + 2 < w2.heap.size := (by omega)
    go_wp2_with fail
    go_ret
    exact ⟨rfl, ext_by⟩
  · have h0' : (sightErr2 s ⟨kind, st, cat, tick, dx, dy, er, lo, hi⟩ != 0) = true := by simpa using h0
    generalize sightErr2 s ⟨kind, st, cat, tick, dx, dy, er, lo, hi⟩ = E at *
    clear h0 hno hs
    go_enter Tryz.func142, Tryz.ntmps142
    go_wp2_with fail
    refine (HC.out _ ext_by).mono ?_
    rintro e w1 ⟨rfl, h1⟩; obtain ⟨hc_w1, hf_w1, hz_w1⟩ := bcell h1; (try simp only [szA] at hz_w1); have : w.heap.size < w1.heap.size := (by omega); have : w.heap.size + 1 < w1.heap.size := (by omega); have : w.heap.size + 2 < w1.heap.size := (by omega)
    go_wp2_with fail
    go_ret
    exact ⟨rfl, ext_by⟩

set_option maxRecDepth 8000 in
set_option maxHeartbeats 4000000 in
theorem refExcludes_one (A1 : Option Addr) (n1 c1 : Nat) (home : Int) (A2 : Option Addr) (n2 c2 : Nat) (A3 : Option Addr) (n3 c3 : Nat) (s : Sky) (kind st cat tick dx dy er lo hi : Int) (xl xh yl yh : Int) (w : World) (hs : IsSky w A1 n1 home A2 n2 A3 n3 s) (h0 : sightErr2 s ⟨kind, st, cat, tick, dx, dy, er, lo, hi⟩ = 0) (hr : rightA xl xh yl yh = true) (hk : kind = 1) :
    Calls Tryz.prog 142 #[.agg #[.slice A1 n1 c1, .int .i64 home, .slice A2 n2 c2, .slice A3 n3 c3], .agg #[.int .i64 kind, .int .i64 st, .int .i64 cat, .int .i64 tick, .int .i64 dx, .int .i64 dy, .int .i64 er, .int .i64 lo, .int .i64 hi], .agg #[.int .i64 xl, .int .i64 xh, .int .i64 yl, .int .i64 yh]] w fun e w' =>
      e = .returned (.bool (exclM s ⟨kind, st, cat, tick, dx, dy, er, lo, hi⟩ (cornersL xl xh yl yh) (nearestP s ⟨kind, st, cat, tick, dx, dy, er, lo, hi⟩ xl xh yl yh))) ∧ Ext w w' := by
  have HC := Lib.hid fun W (hW : Ext w W) => refCheckSight_c A1 n1 c1 home A2 n2 c2 A3 n3 c3 s kind st cat tick dx dy er lo hi W (hs.ext hW)
  have HR := Lib.hid fun W => refCheckArea_c xl xh yl yh W
  have HL := Lib.hid fun W => refcorners_c xl xh yl yh W
  have hv := sight_ok h0
  have hk2 : kind ≠ 2 := by omega
  rw [h0] at HC
  rw [hr] at HR
  unfold exclM
  rw [if_neg hk2, if_pos hk]
  have hcn := corner_near hr
  have HF := Lib.hid fun (v : Vec) (hvm : v ∈ cornersL xl xh yl yh) W (hW : Ext w W) => far_c A1 n1 c1 home A2 n2 c2 A3 n3 c3 s kind st cat tick dx dy er lo hi v.x v.y W (hs.ext hW) hv (hcn v hvm)
  have HS := Lib.hid fun (v : Vec) (hvm : v ∈ cornersL xl xh yl yh) W (hW : Ext w W) => refsides_c A1 n1 c1 home A2 n2 c2 A3 n3 c3 s kind st cat tick dx dy er lo hi v.x v.y W (hs.ext hW) hv hk2 (hcn v hvm) _ _ rfl rfl
  dsimp only at *
  generalize orig s ⟨kind, st, cat, tick, dx, dy, er, lo, hi⟩ = o at *
  obtain ⟨fx, fy⟩ := o
  dsimp only at *
  generalize biasLo s ⟨kind, st, cat, tick, dx, dy, er, lo, hi⟩ = bl at *
  generalize biasHi s ⟨kind, st, cat, tick, dx, dy, er, lo, hi⟩ = bh at *
  have k1 : (kind == 1) = true := by simpa using hk
  have k2 : (kind == 2) = false := by simpa using hk2
  have hlen : (cornersL xl xh yl yh).length = 4 := rfl
  have HA1 := Lib.hid (cntP_all (p := fun p => behindB fx fy dx dy p.x p.y) hlen)
  have HA2 := Lib.hid (cntP_all (p := fun p => belowB fx fy dx dy bl p.x p.y) hlen)
  have HA3 := Lib.hid (cntP_all (p := fun p => aboveB fx fy dx dy bh p.x p.y) hlen)
  generalize cornersL xl xh yl yh = L at *
  generalize hG : (L.all (fun p => behindB fx fy dx dy p.x p.y) || L.all (fun p => belowB fx fy dx dy bl p.x p.y) || L.all (fun p => aboveB fx fy dx dy bh p.x p.y)) = G
  have HG := Lib.hid hG
  have Hlen := Lib.hid hlen
  clear hs h0 hr hv hcn hk2 hG hlen hk
  go_enter Tryz.func142, Tryz.ntmps142
  go_wp2_with fail
  refine (HC.out _ ext_by).mono ?_
  rintro e w1 ⟨rfl, h1⟩; obtain ⟨hc_w1, hf_w1, hz_w1⟩ := bcell h1; (try simp only [szA] at hz_w1); have : w.heap.size < w1.heap.size := (by omega); have : w.heap.size + 1 < w1.heap.size := (by omega); have : w.heap.size + 2 < w1.heap.size := (by omega)
  go_wp2_with fail
  refine (HR.out _).mono ?_
  rintro e w2 ⟨rfl, h2⟩; obtain ⟨hc_w2, hf_w2, hz_w2⟩ := bcell h2; (try simp only [szA] at hz_w2); have : w.heap.size < w2.heap.size := (by omega); have : w.heap.size + 1 < w2.heap.size := (by omega); have : w.heap.size + 2 < w2.heap.size := (by omega)
  go_wp2_with fail
  refine (HL.out _).mono ?_
  rintro e w3 ⟨A, c, rfl, hV, h3⟩
  obtain ⟨hc3, hf3, hz3⟩ := bcell h3
  have e3 : Ext w w3 := ext_by
  have HV := Lib.hid hV
  have hw30 : w.heap.size < w3.heap.size := by omega
  have hw31 : w.heap.size + 1 < w3.heap.size := by omega
  have hw3 : w.heap.size + 1 + 1 < w3.heap.size := by omega
  clear hV
  go_wp2_with fail
  go_loopw [8, 9, 10, 12, 13] (fun a1 a2 a3 a4 i wr => ∃ (k z : Nat), k ≤ 4 ∧ i = .int .i64 k ∧ z ≤ k ∧ a4 = .int .i64 z ∧ a1 = .int .i64 (cntP (fun p => behindB fx fy dx dy p.x p.y) L k) ∧ a2 = .int .i64 (cntP (fun p => belowB fx fy dx dy bl p.x p.y) L k) ∧ a3 = .int .i64 (cntP (fun p => aboveB fx fy dx dy bh p.x p.y) L k) ∧ Ext w3 wr) (fun _ _ _ _ i _ => 4 - (intOf i).toNat)
  case atStart => exact ⟨0, 0, Nat.zero_le _, rfl, Nat.le_refl _, rfl, rfl, rfl, rfl, Ext.refl _⟩
  case round =>
    obtain ⟨k, z, hk, rfl, hz, rfl, rfl, rfl, rfl, hb⟩ := hrel
    obtain ⟨hcb, hfb, hzb⟩ := bcell hb
    have hwr0 : w.heap.size < wr.heap.size := by omega
    have hwr1 : w.heap.size + 1 < wr.heap.size := by omega
    have hwr2 : w.heap.size + 1 + 1 < wr.heap.size := by omega
    have l1 := cntP_le (fun p => behindB fx fy dx dy p.x p.y) L k
    have l2 := cntP_le (fun p => belowB fx fy dx dy bl p.x p.y) L k
    have l3 := cntP_le (fun p => aboveB fx fy dx dy bh p.x p.y) L k
    by_cases hlt : k < 4
    · obtain ⟨b, off, x, rfl, HD, hxm, hx⟩ := HV.out.one hlt
      obtain ⟨hx0, hx1⟩ := vecAt.ext hb hx
      have hbl : b < wr.heap.size := World.block_lt_of_cell? wr _ hx0
      have s1 := Lib.hid (cntP_succ (p := fun p => behindB fx fy dx dy p.x p.y) HD.out)
      have s2 := Lib.hid (cntP_succ (p := fun p => belowB fx fy dx dy bl p.x p.y) HD.out)
      have s3 := Lib.hid (cntP_succ (p := fun p => aboveB fx fy dx dy bh p.x p.y) HD.out)
      have HFx := Lib.hid (HF.out x hxm)
      have HSx := Lib.hid (HS.out x hxm)
      have HBx := Lib.hid (show behindB fx fy dx dy x.x x.y = decide (dotD fx fy dx dy x.x x.y ≤ 0) from rfl)
      have HLx := Lib.hid (show belowB fx fy dx dy bl x.x x.y = decide (1000000 * crossD fx fy dx dy x.x x.y < bl * dotD fx fy dx dy x.x x.y) from rfl)
      have HHx := Lib.hid (show aboveB fx fy dx dy bh x.x x.y = decide (bh * dotD fx fy dx dy x.x x.y < 1000000 * crossD fx fy dx dy x.x x.y) from rfl)
      generalize behindB fx fy dx dy x.x x.y = t1 at *
      generalize belowB fx fy dx dy bl x.x x.y = t2 at *
      generalize aboveB fx fy dx dy bh x.x x.y = t3 at *
      generalize cntP (fun p => behindB fx fy dx dy p.x p.y) L k = n1 at *
      generalize cntP (fun p => belowB fx fy dx dy bl p.x p.y) L k = n2 at *
      generalize cntP (fun p => aboveB fx fy dx dy bh p.x p.y) L k = n3 at *
      generalize distD x.x x.y fx fy = N at *
      generalize dotD fx fy dx dy x.x x.y = D at *
      generalize 1000000 * crossD fx fy dx dy x.x x.y = C at *
      generalize hlv : C - bl * D = lv at *
      generalize hhv : bh * D - C = hv at *
      have q1 : t1 = decide (D ≤ 0) := HBx.out
      have q2 : t2 = decide (lv < 0) := by rw [HLx.out, ← hlv, Bool.eq_iff_iff, decide_eq_true_eq, decide_eq_true_eq]; omega
      have q3 : t3 = decide (hv < 0) := by rw [HHx.out, ← hhv, Bool.eq_iff_iff, decide_eq_true_eq, decide_eq_true_eq]; omega
      subst q1 q2 q3
      clear hlv hhv HBx HLx HHx hx
      go_wp2_with fail
      refine wp_region_text (by kernel_rfl) (by kernel_rfl) ?_
      repeat' (first | (refine bl_off (by rfl) ?_; simp only [putX]) | (apply bl_op; rfl; (intro w1 h1; obtain ⟨hc, hf, hz⟩ := bcell h1; go_simp; (try go_bits); (first | exact ⟨rfl, Ext.refl _⟩ | (apply gives_call; first | (go_at_call 185; exact HFx.out _ ext_by)) | (go_invoke; go_simp; apply gives_call; first | (go_at_call 185; exact HFx.out _ ext_by)))); simp only [putX]) | (refine bl_split rfl rfl (fun hx => ?_) (fun hx => ?_) <;> simp only [hx]))
      refine bl_nil ?_
      intro w4 h4
      obtain ⟨hc4, hf4, hz4⟩ := bcell h4
      have hr0 : w.heap.size < w4.heap.size := by omega
      have hr1 : w.heap.size + 1 < w4.heap.size := by omega
      have hr2 : b < w4.heap.size := by omega
      go_wp2_with fail
      refine wp_region_text (by kernel_rfl) (by kernel_rfl) ?_
      repeat' (first | (refine bl_off (by rfl) ?_; simp only [putX]) | (apply bl_op; rfl; (intro w1 h1; obtain ⟨hc, hf, hz⟩ := bcell h1; go_simp; (try go_bits); (first | exact ⟨rfl, Ext.refl _⟩ | (apply gives_call; first | (go_at_call 186; exact HSx.out _ ext_by)) | (go_invoke; go_simp; apply gives_call; first | (go_at_call 186; exact HSx.out _ ext_by)))); simp only [putX]) | (refine bl_split rfl rfl (fun hx => ?_) (fun hx => ?_) <;> simp only [hx]))
      refine bl_nil ?_
      intro w5 h5
      obtain ⟨hc5, hf5, hz5⟩ := bcell h5
      have hr3 : w.heap.size + 1 < w5.heap.size := by omega
      have e5 := Lib.hid (show Ext w3 w5 by exact ext_by)
      by_cases hD : D ≤ 0 <;> by_cases hLv : lv < 0 <;> by_cases hHv : hv < 0
      all_goals simp only [hD, hLv, hHv, decide_true, decide_false, if_true, if_false, Bool.false_eq_true] at s1 s2 s3
      all_goals go_wp2_with fail
      all_goals go_roundw
      all_goals first
        | (case rel => exact ⟨k + 1, z, by omega, by go_num, by omega, rfl, by rw [s1.out]; go_num, by rw [s2.out]; go_num, by rw [s3.out]; go_num, e5.out⟩)
        | (case rel => exact ⟨k + 1, z + 1, by omega, by go_num, by omega, by go_num, by rw [s1.out]; go_num, by rw [s2.out]; go_num, by rw [s3.out]; go_num, e5.out⟩)
        | (case measure => simp [intOf]; omega)
    · obtain rfl : k = 4 := by omega
      have g1 := HA1.out
      have g2 := HA2.out
      have g3 := HA3.out
      have hG := HG.out
      rw [← g1, ← g2, ← g3] at hG
      generalize cntP (fun p => behindB fx fy dx dy p.x p.y) L 4 = n1 at *
      generalize cntP (fun p => belowB fx fy dx dy bl p.x p.y) L 4 = n2 at *
      generalize cntP (fun p => aboveB fx fy dx dy bh p.x p.y) L 4 = n3 at *
      have HG2 := Lib.hid hG
      clear hG g1 g2 g3 HA1 HA2 HA3 HG
      by_cases m1 : n1 = 4
      · subst m1
        go_wp2_with fail
        go_ret
        exact ⟨ret_b (by rw [← HG2.out]; simp), ext_by⟩
      · have m1' : ((n1 : Int) == 4) = false := by simp; omega
        by_cases m2 : n2 = 4
        · subst m2
          go_wp2_with fail
          go_ret
          exact ⟨ret_b (by rw [← HG2.out]; simp), ext_by⟩
        · have m2' : ((n2 : Int) == 4) = false := by simp; omega
          by_cases m3 : n3 = 4
          · subst m3
            go_wp2_with fail
            go_ret
            exact ⟨ret_b (by rw [← HG2.out]; simp), ext_by⟩
          · have m3' : ((n3 : Int) == 4) = false := by simp; omega
            go_wp2_with fail
            go_ret
            exact ⟨ret_b (by rw [← HG2.out]; simp; omega), ext_by⟩
end Go.Proofs.YtfniicgoeljmdaaGreat

namespace Go.Proofs.YtfniicgoeljmdaaGreat
open Go.RowKit

set_option maxRecDepth 8000 in
set_option maxHeartbeats 4000000 in
theorem refExcludes_three (A1 : Option Addr) (n1 c1 : Nat) (home : Int) (A2 : Option Addr) (n2 c2 : Nat) (A3 : Option Addr) (n3 c3 : Nat) (s : Sky) (kind st cat tick dx dy er lo hi : Int) (xl xh yl yh : Int) (w : World) (hs : IsSky w A1 n1 home A2 n2 A3 n3 s) (h0 : sightErr2 s ⟨kind, st, cat, tick, dx, dy, er, lo, hi⟩ = 0) (hr : rightA xl xh yl yh = true) (hk : kind = 3) :
    Calls Tryz.prog 142 #[.agg #[.slice A1 n1 c1, .int .i64 home, .slice A2 n2 c2, .slice A3 n3 c3], .agg #[.int .i64 kind, .int .i64 st, .int .i64 cat, .int .i64 tick, .int .i64 dx, .int .i64 dy, .int .i64 er, .int .i64 lo, .int .i64 hi], .agg #[.int .i64 xl, .int .i64 xh, .int .i64 yl, .int .i64 yh]] w fun e w' =>
      e = .returned (.bool (exclM s ⟨kind, st, cat, tick, dx, dy, er, lo, hi⟩ (cornersL xl xh yl yh) (nearestP s ⟨kind, st, cat, tick, dx, dy, er, lo, hi⟩ xl xh yl yh))) ∧ Ext w w' := by
  have HC := Lib.hid fun W (hW : Ext w W) => refCheckSight_c A1 n1 c1 home A2 n2 c2 A3 n3 c3 s kind st cat tick dx dy er lo hi W (hs.ext hW)
  have HR := Lib.hid fun W => refCheckArea_c xl xh yl yh W
  have HL := Lib.hid fun W => refcorners_c xl xh yl yh W
  have hv := sight_ok h0
  have hk2 : kind ≠ 2 := by omega
  have hk1 : kind ≠ 1 := by omega
  rw [h0] at HC
  rw [hr] at HR
  unfold exclM
  rw [if_neg hk2, if_neg hk1]
  have hcn := corner_near hr
  obtain ⟨f1, f2⟩ := hv.far hk
  have HF := Lib.hid fun (v : Vec) (hvm : v ∈ cornersL xl xh yl yh) W (hW : Ext w W) => far_c A1 n1 c1 home A2 n2 c2 A3 n3 c3 s kind st cat tick dx dy er lo hi v.x v.y W (hs.ext hW) hv (hcn v hvm)
  have HS := Lib.hid fun (v : Vec) (hvm : v ∈ cornersL xl xh yl yh) W (hW : Ext w W) => refsides_c A1 n1 c1 home A2 n2 c2 A3 n3 c3 s kind st cat tick dx dy er lo hi v.x v.y W (hs.ext hW) hv hk2 (hcn v hvm) _ _ rfl rfl
  dsimp only at *
  generalize orig s ⟨kind, st, cat, tick, dx, dy, er, lo, hi⟩ = o at *
  obtain ⟨fx, fy⟩ := o
  dsimp only at *
  generalize biasLo s ⟨kind, st, cat, tick, dx, dy, er, lo, hi⟩ = bl at *
  generalize biasHi s ⟨kind, st, cat, tick, dx, dy, er, lo, hi⟩ = bh at *
  have k1 : (kind == 1) = false := by simpa using hk1
  have k2 : (kind == 2) = false := by simpa using hk2
  have hlen : (cornersL xl xh yl yh).length = 4 := rfl
  have HA1 := Lib.hid (cntP_all (p := fun p => inB fx fy dx dy bl bh p.x p.y && decide (distD p.x p.y fx fy ≤ hi * hi)) hlen)
  obtain ⟨qh1, qh2⟩ := mul_bd (a := hi) (b := hi) (A := 134217728) (B := 134217728) (by omega) (by omega)
  generalize cornersL xl xh yl yh = L at *
  generalize hG : (L.all fun p => inB fx fy dx dy bl bh p.x p.y && decide (distD p.x p.y fx fy ≤ hi * hi)) = G
  have HG := Lib.hid hG
  have Hlen := Lib.hid hlen
  clear hs h0 hr hv hcn hk2 hk1 hG hlen hk f1 f2
  go_enter Tryz.func142, Tryz.ntmps142
  go_wp2_with fail
  refine (HC.out _ ext_by).mono ?_
  rintro e w1 ⟨rfl, h1⟩; obtain ⟨hc_w1, hf_w1, hz_w1⟩ := bcell h1; (try simp only [szA] at hz_w1); have : w.heap.size < w1.heap.size := (by omega); have : w.heap.size + 1 < w1.heap.size := (by omega); have : w.heap.size + 2 < w1.heap.size := (by omega)
  go_wp2_with fail
  refine (HR.out _).mono ?_
  rintro e w2 ⟨rfl, h2⟩; obtain ⟨hc_w2, hf_w2, hz_w2⟩ := bcell h2; (try simp only [szA] at hz_w2); have : w.heap.size < w2.heap.size := (by omega); have : w.heap.size + 1 < w2.heap.size := (by omega); have : w.heap.size + 2 < w2.heap.size := (by omega)
  go_wp2_with fail
  refine (HL.out _).mono ?_
  rintro e w3 ⟨A, c, rfl, hV, h3⟩
  obtain ⟨hc3, hf3, hz3⟩ := bcell h3
  have e3 : Ext w w3 := ext_by
  have HV := Lib.hid hV
  have hw30 : w.heap.size < w3.heap.size := by omega
  have hw31 : w.heap.size + 1 < w3.heap.size := by omega
  have hw3 : w.heap.size + 1 + 1 < w3.heap.size := by omega
  clear hV
  go_wp2_with fail
  go_loopw [8, 9, 10, 12, 13] (fun a1 a2 a3 a4 i wr => ∃ (k z1 z2 z3 : Nat), k ≤ 4 ∧ i = .int .i64 k ∧ z1 ≤ k ∧ a1 = .int .i64 z1 ∧ z2 ≤ k ∧ a2 = .int .i64 z2 ∧ z3 ≤ k ∧ a3 = .int .i64 z3 ∧ a4 = .int .i64 (cntP (fun p => inB fx fy dx dy bl bh p.x p.y && decide (distD p.x p.y fx fy ≤ hi * hi)) L k) ∧ Ext w3 wr) (fun _ _ _ _ i _ => 4 - (intOf i).toNat)
  case atStart => exact ⟨0, 0, 0, 0, Nat.zero_le _, rfl, Nat.le_refl _, rfl, Nat.le_refl _, rfl, Nat.le_refl _, rfl, rfl, Ext.refl _⟩
  case round =>
    obtain ⟨k, z1, z2, z3, hk, rfl, hz1, rfl, hz2, rfl, hz3, rfl, rfl, hb⟩ := hrel
    obtain ⟨hcb, hfb, hzb⟩ := bcell hb
    have hwr0 : w.heap.size < wr.heap.size := by omega
    have hwr1 : w.heap.size + 1 < wr.heap.size := by omega
    have hwr2 : w.heap.size + 1 + 1 < wr.heap.size := by omega
    have l1 := cntP_le (fun p => inB fx fy dx dy bl bh p.x p.y && decide (distD p.x p.y fx fy ≤ hi * hi)) L k
    by_cases hlt : k < 4
    · obtain ⟨b, off, x, rfl, HD, hxm, hx⟩ := HV.out.one hlt
      obtain ⟨hx0, hx1⟩ := vecAt.ext hb hx
      have hbl : b < wr.heap.size := World.block_lt_of_cell? wr _ hx0
      have s1 := Lib.hid (cntP_succ (p := fun p => inB fx fy dx dy bl bh p.x p.y && decide (distD p.x p.y fx fy ≤ hi * hi)) HD.out)
      have HFx := Lib.hid (HF.out x hxm)
      have HSx := Lib.hid (HS.out x hxm)
      have HBx := Lib.hid (show inB fx fy dx dy bl bh x.x x.y = (!decide (dotD fx fy dx dy x.x x.y ≤ 0) && !decide (1000000 * crossD fx fy dx dy x.x x.y < bl * dotD fx fy dx dy x.x x.y) && !decide (bh * dotD fx fy dx dy x.x x.y < 1000000 * crossD fx fy dx dy x.x x.y)) from rfl)
      generalize inB fx fy dx dy bl bh x.x x.y = t1 at *
      generalize cntP (fun p => inB fx fy dx dy bl bh p.x p.y && decide (distD p.x p.y fx fy ≤ hi * hi)) L k = n1 at *
      generalize distD x.x x.y fx fy = N at *
      generalize dotD fx fy dx dy x.x x.y = D at *
      generalize 1000000 * crossD fx fy dx dy x.x x.y = C at *
      generalize hlv : C - bl * D = lv at *
      generalize hhv : bh * D - C = hv at *
      have q2 : decide (C < bl * D) = decide (lv < 0) := by rw [← hlv, Bool.eq_iff_iff, decide_eq_true_eq, decide_eq_true_eq]; omega
      have q3 : decide (bh * D < C) = decide (hv < 0) := by rw [← hhv, Bool.eq_iff_iff, decide_eq_true_eq, decide_eq_true_eq]; omega
      have q1 := HBx.out
      rw [q2, q3] at q1
      subst q1
      clear hlv hhv HBx hx q2 q3
      go_wp2_with fail
      refine wp_region_text (by kernel_rfl) (by kernel_rfl) ?_
      repeat' (first | (refine bl_off (by rfl) ?_; simp only [putX]) | (apply bl_op; rfl; (intro w1 h1; obtain ⟨hc, hf, hz⟩ := bcell h1; go_simp; (try go_bits); (first | exact ⟨rfl, Ext.refl _⟩ | (apply gives_call; first | (go_at_call 185; exact HFx.out _ ext_by)) | (go_invoke; go_simp; apply gives_call; first | (go_at_call 185; exact HFx.out _ ext_by)))); simp only [putX]) | (refine bl_split rfl rfl (fun hx => ?_) (fun hx => ?_) <;> simp only [hx]))
      refine bl_nil ?_
      intro w4 h4
      obtain ⟨hc4, hf4, hz4⟩ := bcell h4
      have hr0 : w.heap.size < w4.heap.size := by omega
      have hr1 : w.heap.size + 1 < w4.heap.size := by omega
      have hr2 : b < w4.heap.size := by omega
      go_wp2_with fail
      refine wp_region_text (by kernel_rfl) (by kernel_rfl) ?_
      repeat' (first | (refine bl_off (by rfl) ?_; simp only [putX]) | (apply bl_op; rfl; (intro w1 h1; obtain ⟨hc, hf, hz⟩ := bcell h1; go_simp; (try go_bits); (first | exact ⟨rfl, Ext.refl _⟩ | (apply gives_call; first | (go_at_call 186; exact HSx.out _ ext_by)) | (go_invoke; go_simp; apply gives_call; first | (go_at_call 186; exact HSx.out _ ext_by)))); simp only [putX]) | (refine bl_split rfl rfl (fun hx => ?_) (fun hx => ?_) <;> simp only [hx]))
      refine bl_nil ?_
      intro w5 h5
      obtain ⟨hc5, hf5, hz5⟩ := bcell h5
      have hr3 : w.heap.size + 1 < w5.heap.size := by omega
      have e5 := Lib.hid (show Ext w3 w5 by exact ext_by)
      by_cases hD : D ≤ 0 <;> by_cases hLv : lv < 0 <;> by_cases hHv : hv < 0 <;> by_cases hN : N ≤ hi * hi
      all_goals simp only [hD, hLv, hHv, hN, decide_true, decide_false, if_true, if_false, Bool.false_eq_true, Bool.not_true, Bool.not_false, Bool.and_true, Bool.and_false] at s1
      all_goals go_wp2_with fail
      all_goals go_roundw
      all_goals first
        | (case rel => exact ⟨k + 1, _, _, _, by omega, by go_num, by omega, rfl, by omega, rfl, by omega, rfl, by rw [s1.out]; go_num, e5.out⟩)
        | (case rel => exact ⟨k + 1, z1 + 1, z2, z3, by omega, by go_num, by omega, by go_num, by omega, rfl, by omega, rfl, by rw [s1.out]; go_num, e5.out⟩)
        | (case rel => exact ⟨k + 1, z1, z2 + 1, z3, by omega, by go_num, by omega, rfl, by omega, by go_num, by omega, rfl, by rw [s1.out]; go_num, e5.out⟩)
        | (case rel => exact ⟨k + 1, z1, z2, z3 + 1, by omega, by go_num, by omega, rfl, by omega, rfl, by omega, by go_num, by rw [s1.out]; go_num, e5.out⟩)
        | (case rel => exact ⟨k + 1, z1 + 1, z2 + 1, z3, by omega, by go_num, by omega, by go_num, by omega, by go_num, by omega, rfl, by rw [s1.out]; go_num, e5.out⟩)
        | (case rel => exact ⟨k + 1, z1 + 1, z2, z3 + 1, by omega, by go_num, by omega, by go_num, by omega, rfl, by omega, by go_num, by rw [s1.out]; go_num, e5.out⟩)
        | (case rel => exact ⟨k + 1, z1, z2 + 1, z3 + 1, by omega, by go_num, by omega, rfl, by omega, by go_num, by omega, by go_num, by rw [s1.out]; go_num, e5.out⟩)
        | (case rel => exact ⟨k + 1, z1 + 1, z2 + 1, z3 + 1, by omega, by go_num, by omega, by go_num, by omega, by go_num, by omega, by go_num, by rw [s1.out]; go_num, e5.out⟩)
        | (case measure => simp [intOf]; omega)
    · obtain rfl : k = 4 := by omega
      have g1 := HA1.out
      have hG := HG.out
      rw [← g1] at hG
      generalize cntP (fun p => inB fx fy dx dy bl bh p.x p.y && decide (distD p.x p.y fx fy ≤ hi * hi)) L 4 = n1 at *
      have HG2 := Lib.hid hG
      clear hG g1 HA1 HG
      by_cases m1 : n1 = 4
      · subst m1
        go_wp2_with fail
        go_ret
        exact ⟨ret_b (by rw [← HG2.out]; simp), ext_by⟩
      · have m1' : ((n1 : Int) == 4) = false := by simp; omega
        go_wp2_with fail
        go_ret
        exact ⟨ret_b (by rw [← HG2.out]; simp; omega), ext_by⟩
end Go.Proofs.YtfniicgoeljmdaaGreat

namespace Go.Proofs.YtfniicgoeljmdaaGreat
open Go.RowKit

set_option maxRecDepth 8000 in
set_option maxHeartbeats 16000000 in
theorem refExcludes_two (A1 : Option Addr) (n1 c1 : Nat) (home : Int) (A2 : Option Addr) (n2 c2 : Nat) (A3 : Option Addr) (n3 c3 : Nat) (s : Sky) (kind st cat tick dx dy er lo hi : Int) (xl xh yl yh : Int) (w : World) (hs : IsSky w A1 n1 home A2 n2 A3 n3 s) (h0 : sightErr2 s ⟨kind, st, cat, tick, dx, dy, er, lo, hi⟩ = 0) (hr : rightA xl xh yl yh = true) (hk : kind = 2) :
    Calls Tryz.prog 142 #[.agg #[.slice A1 n1 c1, .int .i64 home, .slice A2 n2 c2, .slice A3 n3 c3], .agg #[.int .i64 kind, .int .i64 st, .int .i64 cat, .int .i64 tick, .int .i64 dx, .int .i64 dy, .int .i64 er, .int .i64 lo, .int .i64 hi], .agg #[.int .i64 xl, .int .i64 xh, .int .i64 yl, .int .i64 yh]] w fun e w' =>
      e = .returned (.bool (exclM s ⟨kind, st, cat, tick, dx, dy, er, lo, hi⟩ (cornersL xl xh yl yh) (nearestP s ⟨kind, st, cat, tick, dx, dy, er, lo, hi⟩ xl xh yl yh))) ∧ Ext w w' := by
  have HC := Lib.hid fun W (hW : Ext w W) => refCheckSight_c A1 n1 c1 home A2 n2 c2 A3 n3 c3 s kind st cat tick dx dy er lo hi W (hs.ext hW)
  have HR := Lib.hid fun W => refCheckArea_c xl xh yl yh W
  have HL := Lib.hid fun W => refcorners_c xl xh yl yh W
  have hv := sight_ok h0
  rw [h0] at HC
  rw [hr] at HR
  unfold exclM nearestP
  rw [if_pos hk]
  have hcn := corner_near hr
  obtain ⟨r1, r2, r3⟩ := hv.reach hk
  have HF := Lib.hid fun (p : Vec) (hp : near ⟨p.x, p.y⟩ 33554432 = true) W (hW : Ext w W) => far_c A1 n1 c1 home A2 n2 c2 A3 n3 c3 s kind st cat tick dx dy er lo hi p.x p.y W (hs.ext hW) hv hp
  obtain ⟨x, hx⟩ := hv.stn
  obtain ⟨i, hi1, hi2⟩ := stn_at hx
  have ho : orig s ⟨kind, st, cat, tick, dx, dy, er, lo, hi⟩ = addV (homeAt s tick) x.off := by
    unfold orig
    rw [whereM, if_pos ⟨hv.sky, (within_iff _ _ _).2 hv.tick⟩, hx]
    rfl
  have HSt := Lib.hid fun W (hW : Ext w W) => refStation_c A1 n1 c1 home A2 n2 c2 A3 n3 c3 st s.stations W (hs.ext hW).stations
  have HWh := Lib.hid fun W (hW : Ext w W) => refwhere_c A1 n1 c1 home A2 n2 c2 A3 n3 c3 s i x tick W (hs.ext hW) hv.sky hi2 hv.tick.1 hv.tick.2
  dsimp only at hi1
  rw [hi1] at HSt
  rw [← ho] at HWh
  dsimp only at *
  generalize orig s ⟨kind, st, cat, tick, dx, dy, er, lo, hi⟩ = o at *
  obtain ⟨fx, fy⟩ := o
  dsimp only at *
  have k1 : (kind == 1) = false := by simp; omega
  have k2 : (kind == 2) = true := by simpa using hk
  have hlen : (cornersL xl xh yl yh).length = 4 := rfl
  have HA1 := Lib.hid (cntP_all (p := fun p => decide (distD p.x p.y fx fy < lo * lo)) hlen)
  obtain ⟨ql1, ql2⟩ := mul_bd (a := lo) (b := lo) (A := 134217728) (B := 134217728) (by omega) (by omega)
  obtain ⟨qh1, qh2⟩ := mul_bd (a := hi) (b := hi) (A := 134217728) (B := 134217728) (by omega) (by omega)
  have Hcn := Lib.hid hcn
  have ha := rightA_iff.1 hr
  have Ha := Lib.hid ha
  generalize cornersL xl xh yl yh = L at *
  generalize hG : (decide (hi * hi < distD (nearM fx xl xh) (nearM fy yl yh) fx fy) || L.all fun p => decide (distD p.x p.y fx fy < lo * lo)) = G
  have HG := Lib.hid hG
  clear hs h0 hr hv hcn hG hlen hk ho hi1 hi2 hx ha r1 r2 r3
  go_enter Tryz.func142, Tryz.ntmps142
  go_wp2_with fail
  refine (HC.out _ ext_by).mono ?_
  rintro e w1 ⟨rfl, h1⟩; obtain ⟨hc_w1, hf_w1, hz_w1⟩ := bcell h1; (try simp only [szA] at hz_w1); have : w.heap.size < w1.heap.size := (by omega); have : w.heap.size + 1 < w1.heap.size := (by omega); have : w.heap.size + 2 < w1.heap.size := (by omega)
  go_wp2_with fail
  refine (HR.out _).mono ?_
  rintro e w2 ⟨rfl, h2⟩; obtain ⟨hc_w2, hf_w2, hz_w2⟩ := bcell h2; (try simp only [szA] at hz_w2); have : w.heap.size < w2.heap.size := (by omega); have : w.heap.size + 1 < w2.heap.size := (by omega); have : w.heap.size + 2 < w2.heap.size := (by omega)
  go_wp2_with fail
  refine (HL.out _).mono ?_
  rintro e w3 ⟨A, c, rfl, hV, h3⟩
  obtain ⟨hc3, hf3, hz3⟩ := bcell h3
  have e3 : Ext w w3 := ext_by
  have HV := Lib.hid hV
  have hw30 : w.heap.size < w3.heap.size := by omega
  have hw31 : w.heap.size + 1 < w3.heap.size := by omega
  have hw3 : w.heap.size + 1 + 1 < w3.heap.size := by omega
  clear hV
  go_wp2_with fail
  go_loopw [11, 13] (fun a1 i wr => ∃ k : Nat, k ≤ 4 ∧ i = .int .i64 k ∧ a1 = .int .i64 (cntP (fun p => decide (distD p.x p.y fx fy < lo * lo)) L k) ∧ Ext w3 wr) (fun _ i _ => 4 - (intOf i).toNat)
  case atStart => exact ⟨0, Nat.zero_le _, rfl, rfl, Ext.refl _⟩
  case round =>
    obtain ⟨k, hk, rfl, rfl, hb⟩ := hrel
    obtain ⟨hcb, hfb, hzb⟩ := bcell hb
    have hwr0 : w.heap.size < wr.heap.size := by omega
    have hwr1 : w.heap.size + 1 < wr.heap.size := by omega
    have hwr2 : w.heap.size + 1 + 1 < wr.heap.size := by omega
    have l1 := cntP_le (fun p => decide (distD p.x p.y fx fy < lo * lo)) L k
    by_cases hlt : k < 4
    · obtain ⟨b, off, x, rfl, HD, hxm, hx⟩ := HV.out.one hlt
      obtain ⟨hx0, hx1⟩ := vecAt.ext hb hx
      have hbl : b < wr.heap.size := World.block_lt_of_cell? wr _ hx0
      have s1 := Lib.hid (cntP_succ (p := fun p => decide (distD p.x p.y fx fy < lo * lo)) HD.out)
      have HFx := Lib.hid (HF.out x (Hcn.out x hxm))
      generalize cntP (fun p => decide (distD p.x p.y fx fy < lo * lo)) L k = n1 at *
      generalize distD x.x x.y fx fy = N at *
      clear hx
      go_wp2_with fail
      refine wp_region_text (by kernel_rfl) (by kernel_rfl) ?_
      repeat' (first | (refine bl_off (by rfl) ?_; simp only [putX]) | (apply bl_op; rfl; (intro w1 h1; obtain ⟨hc, hf, hz⟩ := bcell h1; go_simp; (try go_bits); (first | exact ⟨rfl, Ext.refl _⟩ | (apply gives_call; first | (go_at_call 185; exact HFx.out _ ext_by)) | (go_invoke; go_simp; apply gives_call; first | (go_at_call 185; exact HFx.out _ ext_by)))); simp only [putX]) | (refine bl_split rfl rfl (fun hx => ?_) (fun hx => ?_) <;> simp only [hx]))
      refine bl_nil ?_
      intro w4 h4
      obtain ⟨hc4, hf4, hz4⟩ := bcell h4
      have hr0 : w.heap.size < w4.heap.size := by omega
      have hr1 : w.heap.size + 1 < w4.heap.size := by omega
      have e5 := Lib.hid (show Ext w3 w4 by exact ext_by)
      by_cases hN : N < lo * lo
      all_goals simp only [hN, decide_true, decide_false, if_true, if_false, Bool.false_eq_true] at s1
      all_goals go_wp2_with fail
      all_goals go_roundw
      all_goals first
        | (case rel => exact ⟨k + 1, by omega, by go_num, by rw [s1.out]; go_num, e5.out⟩)
        | (case measure => simp [intOf]; omega)
    · obtain rfl : k = 4 := by omega
      have g1 := HA1.out
      have hG := HG.out
      rw [← g1] at hG
      generalize cntP (fun p => decide (distD p.x p.y fx fy < lo * lo)) L 4 = n1 at *
      have HG2 := Lib.hid hG
      have e9 : Ext w wr := e3.trans hb
      clear hG g1 HA1 HG HV Hcn
      go_wp2_with fail
      refine wp_region_tail 8 (Ext _) (Ext _) (Stable.ext _) (fun _ h => h) (Ext.drew (Ext.refl _)) (by kernel_rfl) (by kernel_rfl) ?_
      repeat' (first | (refine bl_off (by rfl) ?_; simp only [putX]) | (apply bl_op; rfl; (intro w1 h1; obtain ⟨hc, hf, hz⟩ := bcell h1; go_simp; (try go_bits); (first | exact ⟨rfl, Ext.refl _⟩ | (apply gives_call; first | (go_at_call 150; exact HSt.out _ ext_by) | (go_at_call 151; exact HWh.out _ ext_by)) | (go_invoke; go_simp; apply gives_call; first | (go_at_call 150; exact HSt.out _ ext_by) | (go_at_call 151; exact HWh.out _ ext_by)))); simp only [putX]) | (refine bl_split rfl rfl (fun hx => ?_) (fun hx => ?_) <;> simp only [hx]))
      refine bl_nil ?_; refine tw_alloc (e := 85) (zs := #[.int .i64 0, .int .i64 0]) rfl (fun w => by go_simp) (fun b hb => ?_); simp only [putX]; refine tw_store (vs := #[.int .i64 fx, .int .i64 fy]) rfl rfl (fun w2 h2 hB => ?_) ?_; (focus (have hcB := hB.cell; have hfB := hB.frozen; exact ⟨_, (by go_simp), (Ext.set (Ext.set h2 (by dsimp only; omega) _) (by dsimp only; omega) _), ((hB.set_ 0 _).set_ 1 _)⟩)); refine tw_nil ?_; rintro w5 ⟨h_w5, hB_w5⟩; have hcB_w5 := hB_w5.cell; have hfB_w5 := hB_w5.frozen
      obtain ⟨hc_w5, hf_w5, hz_w5⟩ := bcell h_w5; (try simp only [szA] at hz_w5)
      have hb5 := hB_w5.lt
      have hw50 : w.heap.size < w5.heap.size := by omega
      have hw51 : w.heap.size + 1 < w5.heap.size := by omega
      have hw52 : w.heap.size + 1 + 1 < w5.heap.size := by omega
      have e10 : Ext w w5 := e9.trans h_w5
      obtain ⟨nx, hnx, hox⟩ : ∃ nx, nearM fx xl xh = nx ∧ ((fx < xl ∧ nx = xl) ∨ (xl ≤ fx ∧ fx ≤ xh ∧ nx = fx) ∨ (xl ≤ fx ∧ xh < fx ∧ nx = xh)) := by
        have := Ha.out
        refine ⟨_, rfl, ?_⟩
        unfold nearM
        omega
      obtain ⟨ny, hny, hoy⟩ : ∃ ny, nearM fy yl yh = ny ∧ ((fy < yl ∧ ny = yl) ∨ (yl ≤ fy ∧ fy ≤ yh ∧ ny = fy) ∨ (yl ≤ fy ∧ yh < fy ∧ ny = yh)) := by
        have := Ha.out
        refine ⟨_, rfl, ?_⟩
        unfold nearM
        omega
      have HFn := Lib.hid (HF.out ⟨nx, ny⟩ (by have := Ha.out; rw [near_iff]; dsimp only; omega))
      have hG := HG2.out
      rw [hnx, hny] at hG
      have HG3 := Lib.hid hG
      obtain ⟨ha1, ha2, ha3, ha4, ha5, ha6⟩ := Ha.out
      clear hG HG2 hnx hny e9
      rcases hox with ⟨o1, rfl⟩ | ⟨o1, o1', rfl⟩ | ⟨o1, o1', rfl⟩ <;> rcases hoy with ⟨o2, rfl⟩ | ⟨o2, o2', rfl⟩ | ⟨o2, o2', rfl⟩
      all_goals go_wp2_with fail
      all_goals refine wp_region_text (by kernel_rfl) (by kernel_rfl) ?_
      all_goals by_cases m1 : n1 = 4
      all_goals first
        | (subst m1
           repeat' (first | (refine bl_off (by rfl) ?_; simp only [putX]) | (apply bl_op; rfl; (intro w1 h1; obtain ⟨hc, hf, hz⟩ := bcell h1; go_simp; (try go_bits); (first | exact ⟨rfl, Ext.refl _⟩)); simp only [putX]) | (refine bl_split rfl rfl (fun hx => ?_) (fun hx => ?_) <;> simp only [hx]))
           refine bl_nil ?_
           intro w6 h6
           go_wp2_with fail
           go_ret
           exact ⟨ret_b (by rw [← HG3.out]; simp), ext_by⟩)
        | (have m1' : ((n1 : Int) == 4) = false := by simp; omega
           repeat' (first | (refine bl_off (by rfl) ?_; simp only [putX]) | (apply bl_op; rfl; (intro w1 h1; obtain ⟨hc, hf, hz⟩ := bcell h1; go_simp; (try go_bits); (first | exact ⟨rfl, Ext.refl _⟩ | (apply gives_call; first | (go_at_call 185; exact HFn.out _ ext_by)) | (go_invoke; go_simp; apply gives_call; first | (go_at_call 185; exact HFn.out _ ext_by)))); simp only [putX]) | (refine bl_split rfl rfl (fun hx => ?_) (fun hx => ?_) <;> simp only [hx]))
           refine bl_nil ?_
           intro w6 h6
           go_wp2_with fail
           go_ret
           exact ⟨ret_b (by rw [← HG3.out]; simp; omega), ext_by⟩)

theorem refExcludes_c (A1 : Option Addr) (n1 c1 : Nat) (home : Int) (A2 : Option Addr) (n2 c2 : Nat) (A3 : Option Addr) (n3 c3 : Nat) (s : Sky) (kind st cat tick dx dy er lo hi : Int) (xl xh yl yh : Int) (w : World) (hs : IsSky w A1 n1 home A2 n2 A3 n3 s) :
    Calls Tryz.prog 142 #[.agg #[.slice A1 n1 c1, .int .i64 home, .slice A2 n2 c2, .slice A3 n3 c3], .agg #[.int .i64 kind, .int .i64 st, .int .i64 cat, .int .i64 tick, .int .i64 dx, .int .i64 dy, .int .i64 er, .int .i64 lo, .int .i64 hi], .agg #[.int .i64 xl, .int .i64 xh, .int .i64 yl, .int .i64 yh]] w fun e w' => e = .returned (.bool (exclAll s ⟨kind, st, cat, tick, dx, dy, er, lo, hi⟩ xl xh yl yh)) ∧ Ext w w' := by
  cases hno : (decide (sightErr2 s ⟨kind, st, cat, tick, dx, dy, er, lo, hi⟩ = 0) && rightA xl xh yl yh)
  · have : exclAll s ⟨kind, st, cat, tick, dx, dy, er, lo, hi⟩ xl xh yl yh = false := by rw [exclAll, hno]; rfl
    rw [this]
    exact refExcludes_no A1 n1 c1 home A2 n2 c2 A3 n3 c3 s kind st cat tick dx dy er lo hi xl xh yl yh w hs hno
  · have : exclAll s ⟨kind, st, cat, tick, dx, dy, er, lo, hi⟩ xl xh yl yh = exclM s ⟨kind, st, cat, tick, dx, dy, er, lo, hi⟩ (cornersL xl xh yl yh) (nearestP s ⟨kind, st, cat, tick, dx, dy, er, lo, hi⟩ xl xh yl yh) := by rw [exclAll, hno]; rfl
    rw [this]
    simp only [Bool.and_eq_true, decide_eq_true_eq] at hno
    have hk := (sight_ok hno.1).kind
    dsimp only at hk
    by_cases h1 : kind = 1
    · exact refExcludes_one A1 n1 c1 home A2 n2 c2 A3 n3 c3 s kind st cat tick dx dy er lo hi xl xh yl yh w hs hno.1 hno.2 h1
    · by_cases h2 : kind = 2
      · exact refExcludes_two A1 n1 c1 home A2 n2 c2 A3 n3 c3 s kind st cat tick dx dy er lo hi xl xh yl yh w hs hno.1 hno.2 h2
      · exact refExcludes_three A1 n1 c1 home A2 n2 c2 A3 n3 c3 s kind st cat tick dx dy er lo hi xl xh yl yh w hs hno.1 hno.2 (by omega)

end Go.Proofs.YtfniicgoeljmdaaGreat
