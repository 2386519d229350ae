/- Whether an empty look, or an angle, excludes an area: the program. No condition. -/
import Derived.Test.YtfniicgoeljmdaaGreatExcludes
namespace Go.Proofs.YtfniicgoeljmdaaGreat
open Go.RowKit Go.Shelf
attribute [local go_sem] Oper.semAt_some

set_option maxRecDepth 8000 in
set_option maxHeartbeats 2000000 in
theorem Excludes_three (A1 : Option Addr) (n1 c1 : Nat) (home : Int) (A2 : Option Addr) (n2 c2 : Nat) (A3 : Option Addr) (n3 c3 : Nat) (s : Sky) (kind st cat tick dx dy er lo hi : Int) (xl xh yl yh : Int) (w : World) (hs : IsSky w A1 n1 home A2 n2 A3 n3 s) (h0 : sightErr2 s ⟨kind, st, cat, tick, dx, dy, er, lo, hi⟩ = 0) (hr : rightA xl xh yl yh = true) (hk : kind = 3) :
    Calls Tryz.prog 141 #[.agg #[.slice A1 n1 c1, .int .i64 home, .slice A2 n2 c2, .slice A3 n3 c3], .agg #[.int .i64 kind, .int .i64 st, .int .i64 cat, .int .i64 tick, .int .i64 dx, .int .i64 dy, .int .i64 er, .int .i64 lo, .int .i64 hi], .agg #[.int .i64 xl, .int .i64 xh, .int .i64 yl, .int .i64 yh]] w fun e w' =>
      e = .returned (.bool (exclM s ⟨kind, st, cat, tick, dx, dy, er, lo, hi⟩ (cornersL xl xh yl yh) (nearestP s ⟨kind, st, cat, tick, dx, dy, er, lo, hi⟩ xl xh yl yh))) ∧ Ext w w' := by
  have HC := Lib.hid fun W (hW : Ext w W) => CheckSight_c A1 n1 c1 home A2 n2 c2 A3 n3 c3 s kind st cat tick dx dy er lo hi W (hs.ext hW)
  have HR := Lib.hid fun W => right_c xl xh yl yh W
  have hv := sight_ok h0
  have HL := Lib.hid fun W (hW : Ext w W) => lookOf_c A1 n1 c1 home A2 n2 c2 A3 n3 c3 s kind st cat tick dx dy er lo hi W (hs.ext hW) hv
  have hk2 : kind ≠ 2 := by omega
  have hk1 : kind ≠ 1 := by omega
  rw [h0] at HC
  rw [hr] at HR
  rw [lookV, if_neg hk2, if_neg hk1] at HL
  unfold exclM
  rw [if_neg hk2, if_neg hk1]
  have hcn := corner_near hr
  have hcb := fun (v : Vec) (hvm : v ∈ cornersL xl xh yl yh) => hv.cb hk2 (hcn v hvm)
  obtain ⟨f1, f2⟩ := hv.far hk
  have hbb := hv.bias_bd hk2
  dsimp only at *
  generalize orig s ⟨kind, st, cat, tick, dx, dy, er, lo, hi⟩ = o at *
  obtain ⟨fx, fy⟩ := o
  dsimp only at *
  generalize biasLo s ⟨kind, st, cat, tick, dx, dy, er, lo, hi⟩ = bl at *
  generalize biasHi s ⟨kind, st, cat, tick, dx, dy, er, lo, hi⟩ = bh at *
  have HE := Lib.hid fun (b : Nat) (v : Vec) (hvm : v ∈ cornersL xl xh yl yh) W (hb : ∃ t, Blk W b t #[.int .i64 fx, .int .i64 fy, .int .i64 dx, .int .i64 dy, .int .i64 bl, .int .i64 bh, .int .i64 hi]) =>
    excl2_c fx fy dx dy bl bh hi v.x v.y b W hb (hcb v hvm) hbb.1 hbb.2 (by omega)
  have HA := Lib.hid fun (b : Nat) W (hb : ∃ t, Blk W b t #[.int .i64 fx, .int .i64 fy, .int .i64 dx, .int .i64 dy, .int .i64 bl, .int .i64 bh, .int .i64 hi]) => all_c xl xh yl yh 181 #[.pointer (some ⟨b, 0, none⟩)] (fun p => inB fx fy dx dy bl bh p.x p.y && decide (distD p.x p.y fx fy ≤ hi * hi)) W Tryz.call181
    (fun v hvm W2 hW2 => HE.out b v hvm W2 (hb.imp fun t h => h.ext hW2))
  have t1 : ∀ W, (Instr.typeAssert (.iface 189 (.agg #[.int .i64 fx, .int .i64 fy, .int .i64 dx, .int .i64 dy, .int .i64 bl, .int .i64 bh, .int .i64 hi])) 156 187 true).run Tryz.prog W = .ok (.tuple #[.agg #[.int .i64 0, .int .i64 0, .int .i64 0, .int .i64 0, .int .i64 0, .int .i64 0], .bool false]) W := fun _ => by kernel_rfl
  have t2 : ∀ W, (Instr.typeAssert (.iface 189 (.agg #[.int .i64 fx, .int .i64 fy, .int .i64 dx, .int .i64 dy, .int .i64 bl, .int .i64 bh, .int .i64 hi])) 156 183 true).run Tryz.prog W = .ok (.tuple #[.agg #[.int .i64 0, .int .i64 0, .int .i64 0, .int .i64 0], .bool false]) W := fun _ => by kernel_rfl
  have t3 : ∀ W, (Instr.typeAssert (.iface 189 (.agg #[.int .i64 fx, .int .i64 fy, .int .i64 dx, .int .i64 dy, .int .i64 bl, .int .i64 bh, .int .i64 hi])) 156 189 true).run Tryz.prog W = .ok (.tuple #[.agg #[.int .i64 fx, .int .i64 fy, .int .i64 dx, .int .i64 dy, .int .i64 bl, .int .i64 bh, .int .i64 hi], .bool true]) W := fun _ => by kernel_rfl
  generalize ((cornersL xl xh yl yh).all fun p => inB fx fy dx dy bl bh p.x p.y && decide (distD p.x p.y fx fy ≤ hi * hi)) = G at *
  clear HE hcn hcb hs h0 hr hk hk1 hk2 hv f1 f2 hbb
  go_enter Tryz.func141, Tryz.ntmps141
  go_wp2_with fail
  refine (HC.out _ (by (repeat' (first | exact Ext.refl _ | assumption | apply Ext.alloc | apply Ext.drew | refine Ext.set ?_ (by dsimp only; omega) _ | refine Ext.trans ?_ (by assumption))))).mono ?_
  rintro e w1 ⟨rfl, h1⟩; obtain ⟨hc_w1, hf_w1, hz_w1⟩ := bcell h1; (repeat (first | rw [World.size_alloc] at hz_w1 | rw [World.size_drew] at hz_w1 | rw [World.size_setCell] at hz_w1)); have : w.heap.size < w1.heap.size := (by omega); have : w.heap.size + 1 < w1.heap.size := (by omega); have : w.heap.size + 2 < w1.heap.size := (by omega)
  go_wp2_with fail
  refine (HR.out _).mono ?_
  rintro e w2 ⟨rfl, h2⟩; obtain ⟨hc_w2, hf_w2, hz_w2⟩ := bcell h2; (repeat (first | rw [World.size_alloc] at hz_w2 | rw [World.size_drew] at hz_w2 | rw [World.size_setCell] at hz_w2)); have : w.heap.size < w2.heap.size := (by omega); have : w.heap.size + 1 < w2.heap.size := (by omega); have : w.heap.size + 2 < w2.heap.size := (by omega)
  go_wp2_with fail
  refine (HL.out _ (by (repeat' (first | exact Ext.refl _ | assumption | apply Ext.alloc | apply Ext.drew | refine Ext.set ?_ (by dsimp only; omega) _ | refine Ext.trans ?_ (by assumption))))).mono ?_
  rintro e w3 ⟨rfl, h3⟩; obtain ⟨hc_w3, hf_w3, hz_w3⟩ := bcell h3; (repeat (first | rw [World.size_alloc] at hz_w3 | rw [World.size_drew] at hz_w3 | rw [World.size_setCell] at hz_w3)); have : w.heap.size < w3.heap.size := (by omega); have : w.heap.size + 1 < w3.heap.size := (by omega); have : w.heap.size + 2 < w3.heap.size := (by omega)
  go_wp2_with fail
  refine (HA.out w3.heap.size _ ⟨_, Blk.newAt rfl⟩).mono ?_
  rintro e w4 ⟨rfl, h4⟩; obtain ⟨hc_w4, hf_w4, hz_w4⟩ := bcell h4; (repeat (first | rw [World.size_alloc] at hz_w4 | rw [World.size_drew] at hz_w4 | rw [World.size_setCell] at hz_w4)); have : w.heap.size < w4.heap.size := (by omega); have : w.heap.size + 1 < w4.heap.size := (by omega); have : w.heap.size + 2 < w4.heap.size := (by omega)
  go_wp2_with fail
  go_ret
  exact ⟨rfl, by (repeat' (first | exact Ext.refl _ | assumption | apply Ext.alloc | apply Ext.drew | refine Ext.set ?_ (by dsimp only; omega) _ | refine Ext.trans ?_ (by assumption)))⟩

set_option maxRecDepth 100000 in
set_option maxHeartbeats 4000000 in
theorem Excludes_one (A1 : Option Addr) (n1 c1 : Nat) (home : Int) (A2 : Option Addr) (n2 c2 : Nat) (A3 : Option Addr) (n3 c3 : Nat) (s : Sky) (kind st cat tick dx dy er lo hi : Int) (xl xh yl yh : Int) (w : World) (hs : IsSky w A1 n1 home A2 n2 A3 n3 s) (h0 : sightErr2 s ⟨kind, st, cat, tick, dx, dy, er, lo, hi⟩ = 0) (hr : rightA xl xh yl yh = true) (hk : kind = 1) :
    Calls Tryz.prog 141 #[.agg #[.slice A1 n1 c1, .int .i64 home, .slice A2 n2 c2, .slice A3 n3 c3], .agg #[.int .i64 kind, .int .i64 st, .int .i64 cat, .int .i64 tick, .int .i64 dx, .int .i64 dy, .int .i64 er, .int .i64 lo, .int .i64 hi], .agg #[.int .i64 xl, .int .i64 xh, .int .i64 yl, .int .i64 yh]] w fun e w' =>
      e = .returned (.bool (exclM s ⟨kind, st, cat, tick, dx, dy, er, lo, hi⟩ (cornersL xl xh yl yh) (nearestP s ⟨kind, st, cat, tick, dx, dy, er, lo, hi⟩ xl xh yl yh))) ∧ Ext w w' := by
  have HC := Lib.hid fun W (hW : Ext w W) => CheckSight_c A1 n1 c1 home A2 n2 c2 A3 n3 c3 s kind st cat tick dx dy er lo hi W (hs.ext hW)
  have HR := Lib.hid fun W => right_c xl xh yl yh W
  have hv := sight_ok h0
  have HL := Lib.hid fun W (hW : Ext w W) => lookOf_c A1 n1 c1 home A2 n2 c2 A3 n3 c3 s kind st cat tick dx dy er lo hi W (hs.ext hW) hv
  have hk2 : kind ≠ 2 := by omega
  rw [h0] at HC
  rw [hr] at HR
  rw [lookV, if_neg hk2, if_pos hk] at HL
  generalize hG : exclM s ⟨kind, st, cat, tick, dx, dy, er, lo, hi⟩ (cornersL xl xh yl yh) (nearestP s ⟨kind, st, cat, tick, dx, dy, er, lo, hi⟩ xl xh yl yh) = G
  unfold exclM at hG
  rw [if_neg hk2, if_pos hk] at hG
  have hcn := corner_near hr
  have hcb := fun (v : Vec) (hvm : v ∈ cornersL xl xh yl yh) => hv.cb hk2 (hcn v hvm)
  have hbb := hv.bias_bd hk2
  dsimp only at *
  generalize orig s ⟨kind, st, cat, tick, dx, dy, er, lo, hi⟩ = o at *
  obtain ⟨fx, fy⟩ := o
  dsimp only at *
  generalize biasLo s ⟨kind, st, cat, tick, dx, dy, er, lo, hi⟩ = bl at *
  generalize biasHi s ⟨kind, st, cat, tick, dx, dy, er, lo, hi⟩ = bh at *
  have HS := Lib.hid fun (v : Vec) (hvm : v ∈ cornersL xl xh yl yh) W => sides_c fx fy dx dy bl bh v.x v.y W (hcb v hvm) hbb.1 hbb.2
  have t1 : ∀ W, (Instr.typeAssert (.iface 187 (.agg #[.int .i64 fx, .int .i64 fy, .int .i64 dx, .int .i64 dy, .int .i64 bl, .int .i64 bh])) 156 187 true).run Tryz.prog W = .ok (.tuple #[.agg #[.int .i64 fx, .int .i64 fy, .int .i64 dx, .int .i64 dy, .int .i64 bl, .int .i64 bh], .bool true]) W := fun _ => by kernel_rfl
  have HG := Lib.hid hG
  clear hcn hcb hs h0 hr hk hk2 hv hbb hG
  refine (callsIn_wide (n := 6)).1 (callsIn_of_wp_marks Tryz.func141 rfl trivial ?_)
  simp only [Tryz.ntmps141, List.size_toArray, List.length_cons, List.length_nil, Nat.reduceAdd, Nat.reduceSub, Array.replicate_succ, Array.replicate_zero, List.push_toArray, List.append_toArray, List.nil_append, List.cons_append]
  refine wpIn_wide.2 ?_
  go_wp2_with fail
  refine (HC.out _ (by (repeat' (first | exact Ext.refl _ | assumption | apply Ext.alloc | apply Ext.drew | refine Ext.set ?_ (by dsimp only; omega) _ | refine Ext.trans ?_ (by assumption))))).mono ?_
  rintro e w1 ⟨rfl, h1⟩; obtain ⟨hc_w1, hf_w1, hz_w1⟩ := bcell h1; (repeat (first | rw [World.size_alloc] at hz_w1 | rw [World.size_drew] at hz_w1 | rw [World.size_setCell] at hz_w1)); have : w.heap.size < w1.heap.size := (by omega); have : w.heap.size + 1 < w1.heap.size := (by omega); have : w.heap.size + 2 < w1.heap.size := (by omega)
  go_wp2_with fail
  refine (HR.out _).mono ?_
  rintro e w2 ⟨rfl, h2⟩; obtain ⟨hc_w2, hf_w2, hz_w2⟩ := bcell h2; (repeat (first | rw [World.size_alloc] at hz_w2 | rw [World.size_drew] at hz_w2 | rw [World.size_setCell] at hz_w2)); have : w.heap.size < w2.heap.size := (by omega); have : w.heap.size + 1 < w2.heap.size := (by omega); have : w.heap.size + 2 < w2.heap.size := (by omega)
  go_wp2_with fail
  refine (HL.out _ (by (repeat' (first | exact Ext.refl _ | assumption | apply Ext.alloc | apply Ext.drew | refine Ext.set ?_ (by dsimp only; omega) _ | refine Ext.trans ?_ (by assumption))))).mono ?_
  rintro e w3 ⟨rfl, h3⟩; obtain ⟨hc_w3, hf_w3, hz_w3⟩ := bcell h3; (repeat (first | rw [World.size_alloc] at hz_w3 | rw [World.size_drew] at hz_w3 | rw [World.size_setCell] at hz_w3)); have : w.heap.size < w3.heap.size := (by omega); have : w.heap.size + 1 < w3.heap.size := (by omega); have : w.heap.size + 2 < w3.heap.size := (by omega)
  have e3 : Ext w w3 := by (repeat' (first | exact Ext.refl _ | assumption | apply Ext.alloc | apply Ext.drew | refine Ext.set ?_ (by dsimp only; omega) _ | refine Ext.trans ?_ (by assumption)))
  go_wp2_with fail
  refine (corners_c _ _ _ _ _).mono ?_
  rintro e w4 ⟨rfl, rfl⟩
  go_wp2_with fail
  refine name_world _ ?_
  intro W0 hW0
  have b7 : Blk W0 w3.heap.size 187 #[.int .i64 fx, .int .i64 fy, .int .i64 dx, .int .i64 dy, .int .i64 bl, .int .i64 bh] := by rw [hW0]; exact (((Blk.newAt rfl).alloc _).alloc _).alloc _ |>.alloc _
  have b8 : Blk W0 (w3.heap.size + 1) 4 #[.bool true] := by rw [hW0]; exact ((Blk.newAt (by simp)).alloc _).alloc _ |>.alloc _
  have b9 : Blk W0 (w3.heap.size + 1 + 1) 4 #[.bool true] := by rw [hW0]; exact (Blk.newAt (by simp)).alloc _ |>.alloc _
  have b10 : Blk W0 (w3.heap.size + 1 + 1 + 1) 4 #[.bool true] := by rw [hW0]; exact (Blk.newAt (by simp)).alloc _
  have b11 : Blk W0 (w3.heap.size + 1 + 1 + 1 + 1) 112 #[.int .i64 xl, .int .i64 xh, .int .i64 yl, .int .i64 yh] := by rw [hW0]; exact Blk.newAt (by simp)
  have e0 : Ext w W0 := by rw [hW0]; (repeat' (first | exact Ext.refl _ | assumption | apply Ext.alloc | apply Ext.drew | refine Ext.set ?_ (by dsimp only; omega) _ | refine Ext.trans ?_ (by assumption)))
  have hz0 : W0.heap.size = w3.heap.size + 5 := by rw [hW0]; simp
  clear hW0
  refine wp_range_box (nb := w.heap.size) (corners_iter _ _ xl xh yl yh w.heap.size W0 b11) rfl Tryz.call216 (by omega) (fun _ => rfl)
    (fun pre W => Ext w W ∧ Blk W w3.heap.size 187 #[.int .i64 fx, .int .i64 fy, .int .i64 dx, .int .i64 dy, .int .i64 bl, .int .i64 bh] ∧ Blk W (w3.heap.size + 1) 4 #[.bool (pre.all fun p => behindB fx fy dx dy p.x p.y)] ∧
      Blk W (w3.heap.size + 1 + 1) 4 #[.bool (pre.all fun p => belowB fx fy dx dy bl p.x p.y)] ∧ Blk W (w3.heap.size + 1 + 1 + 1) 4 #[.bool (pre.all fun p => aboveB fx fy dx dy bh p.x p.y)])
    (fun _ _ _ => False)
    (OwnFrom.and (ownFrom_ext (by omega)) (OwnFrom.and (ownFrom_blk _ _ _ _) (OwnFrom.and (ownFrom_blk _ _ _ _) (OwnFrom.and (ownFrom_blk _ _ _ _) (ownFrom_blk _ _ _ _)))))
    (fun c => ownFrom_pure _ _)
    ⟨e0, b7, b8, b9, b10⟩
    (fun x b t => (t.setIfInBounds 35 (.agg #[.int .i64 x.x, .int .i64 x.y])).setIfInBounds 11 (.pointer (some ⟨b, 0, none⟩))) 85 (fun x => #[.int .i64 x.x, .int .i64 x.y]) ?assign ?body ?done ?stop
  case assign =>
    intro l n x W K hK
    simp only [Act.put, List.setIfInBounds_toArray, List.set_cons_zero, List.set_cons_succ] at hK
    simp only [vecE]
    gi_wp2
    exact hK
  case body =>
    rintro l n pre x b W hx hb hBx hW ⟨he, c7, c8, c9, c10⟩
    simp only [Act.put, List.setIfInBounds_toArray, List.set_cons_zero, List.set_cons_succ]
    have hd7 := c7.cell
    have hdx := hBx.cell
    have hl7 := c7.lt
    have hlx := hBx.lt
    have C7 := Lib.hid c7
    have C8 := Lib.hid c8
    have C9 := Lib.hid c9
    have C10 := Lib.hid c10
    have HE := Lib.hid he
    have hsx := HS.out x hx W
    generalize hv1 : behindB fx fy dx dy x.x x.y = v1 at hsx
    generalize hv2 : belowB fx fy dx dy bl x.x x.y = v2 at hsx
    generalize hv3 : aboveB fx fy dx dy bh x.x x.y = v3 at hsx
    have HSx := Lib.hid hsx
    have HV1 := Lib.hid hv1
    have HV2 := Lib.hid hv2
    have HV3 := Lib.hid hv3
    clear c7 c8 c9 c10 he hsx hv1 hv2 hv3 hBx
    gi_wp2
    refine ⟨trivial, fun h => (by cases h), (CallsIn.inRound l (callsIn_wide.2 HSx.out)).mono ?_⟩
    rintro e w' ⟨rfl, h1⟩
    have C7' := Lib.hid (C7.out.ext h1)
    have C8' := Lib.hid (C8.out.ext h1)
    have C9' := Lib.hid (C9.out.ext h1)
    have C10' := Lib.hid (C10.out.ext h1)
    have H1 := Lib.hid h1
    clear hd7 hdx h1
    have i8 := C8'.out.cell
    have i9 := C9'.out.cell
    have i10 := C10'.out.cell
    have j8 := C8'.out.frozen
    have j9 := C9'.out.frozen
    have j10 := C10'.out.frozen
    have k8 := C8'.out.lt
    have k9 := C9'.out.lt
    have k10 := C10'.out.lt
    have e8 : (pre ++ [x]).all (fun p => behindB fx fy dx dy p.x p.y) = (pre.all (fun p => behindB fx fy dx dy p.x p.y) && v1) := by rw [List.all_append]; simp [HV1.out]
    have e9 : (pre ++ [x]).all (fun p => belowB fx fy dx dy bl p.x p.y) = (pre.all (fun p => belowB fx fy dx dy bl p.x p.y) && v2) := by rw [List.all_append]; simp [HV2.out]
    have e10 : (pre ++ [x]).all (fun p => aboveB fx fy dx dy bh p.x p.y) = (pre.all (fun p => aboveB fx fy dx dy bh p.x p.y) && v3) := by rw [List.all_append]; simp [HV3.out]
    have E8 := Lib.hid e8
    have E9 := Lib.hid e9
    have E10 := Lib.hid e10
    clear e8 e9 e10
    have hcaps : ∀ g ∈ [w3.heap.size + 1 + 1 + 1 + 1], g ≠ w3.heap.size + 1 ∧ g ≠ w3.heap.size + 1 + 1 ∧ g ≠ w3.heap.size + 1 + 1 + 1 := by
      intro g hg
      simp at hg
      omega
    have HCp := Lib.hid hcaps
    clear hcaps
    generalize pre.all (fun p => behindB fx fy dx dy p.x p.y) = g1 at *
    generalize pre.all (fun p => belowB fx fy dx dy bl p.x p.y) = g2 at *
    generalize pre.all (fun p => aboveB fx fy dx dy bh p.x p.y) = g3 at *
    cases g1 <;> cases g2 <;> cases g3
    all_goals gi_wp2
    all_goals exact ⟨(H1.out.keepsFrom _).trans (((KeepsOthers.setCell _ _ _).trans ((KeepsOthers.setCell _ _ _).trans (KeepsOthers.setCell _ _ _))).from _),
      (((H1.out.kpX (by omega) _).set (by dsimp only; omega) (fun g hg => (HCp.out g hg).1) _).set (by dsimp only; omega) (fun g hg => (HCp.out g hg).2.1) _).set (by dsimp only; omega) (fun g hg => (HCp.out g hg).2.2) _,
      (((HE.out.trans H1.out).set (by dsimp only; omega) _).set (by dsimp only; omega) _).set (by dsimp only; omega) _,
      ((C7'.out.far (by dsimp only; omega) _).far (by dsimp only; omega) _).far (by dsimp only; omega) _,
      by rw [E8.out]; exact ((C8'.out.set_ 0 _).far (by dsimp only; omega) _).far (by dsimp only; omega) _,
      by rw [E9.out]; exact ((C9'.out.far (by dsimp only; omega) _).set_ 0 _).far (by dsimp only; omega) _,
      by rw [E10.out]; exact ((C10'.out.far (by dsimp only; omega) _).far (by dsimp only; omega) _).set_ 0 _⟩
  case done =>
    rintro D W hD ⟨he, c7, c8, c9, c10⟩ hK
    have hd8 := c8.cell
    have hd9 := c9.cell
    have hd10 := c10.cell
    have hl8 := c8.lt
    have hl9 := c9.lt
    have hl10 := c10.lt
    have hG := HG.out
    generalize ((cornersL xl xh yl yh).all fun p => behindB fx fy dx dy p.x p.y) = g1 at *
    generalize ((cornersL xl xh yl yh).all fun p => belowB fx fy dx dy bl p.x p.y) = g2 at *
    generalize ((cornersL xl xh yl yh).all fun p => aboveB fx fy dx dy bh p.x p.y) = g3 at *
    have HG2 := Lib.hid hG
    clear hG
    dsimp only
    cases g1 <;> cases g2 <;> cases g3
    all_goals go_wp2_with fail
    all_goals refine ⟨by simp, .inl ⟨_, _, rfl, run_takeDeferred hK, ?_⟩⟩
    all_goals exact ⟨_, results_tmp rfl _ _ _, by rw [← HG2.out]; rfl, Ext.put he (by omega)⟩
  case stop =>
    rintro D c pre W hD hpre h hK
    exact h.elim

theorem Excludes_c (A1 : Option Addr) (n1 c1 : Nat) (home : Int) (A2 : Option Addr) (n2 c2 : Nat) (A3 : Option Addr) (n3 c3 : Nat) (s : Sky) (kind st cat tick dx dy er lo hi : Int) (xl xh yl yh : Int) (w : World) (hs : IsSky w A1 n1 home A2 n2 A3 n3 s) :
    Calls Tryz.prog 141 #[.agg #[.slice A1 n1 c1, .int .i64 home, .slice A2 n2 c2, .slice A3 n3 c3], .agg #[.int .i64 kind, .int .i64 st, .int .i64 cat, .int .i64 tick, .int .i64 dx, .int .i64 dy, .int .i64 er, .int .i64 lo, .int .i64 hi], .agg #[.int .i64 xl, .int .i64 xh, .int .i64 yl, .int .i64 yh]] w fun e w' => e = .returned (.bool (exclAll s ⟨kind, st, cat, tick, dx, dy, er, lo, hi⟩ xl xh yl yh)) ∧ Ext w w' := by
  cases hno : (decide (sightErr2 s ⟨kind, st, cat, tick, dx, dy, er, lo, hi⟩ = 0) && rightA xl xh yl yh)
  · have : exclAll s ⟨kind, st, cat, tick, dx, dy, er, lo, hi⟩ xl xh yl yh = false := by rw [exclAll, hno]; rfl
    rw [this]
    exact Excludes_no A1 n1 c1 home A2 n2 c2 A3 n3 c3 s kind st cat tick dx dy er lo hi xl xh yl yh w hs hno
  · have : exclAll s ⟨kind, st, cat, tick, dx, dy, er, lo, hi⟩ xl xh yl yh = exclM s ⟨kind, st, cat, tick, dx, dy, er, lo, hi⟩ (cornersL xl xh yl yh) (nearestP s ⟨kind, st, cat, tick, dx, dy, er, lo, hi⟩ xl xh yl yh) := by rw [exclAll, hno]; rfl
    rw [this]
    simp only [Bool.and_eq_true, decide_eq_true_eq] at hno
    have hk := (sight_ok hno.1).kind
    dsimp only at hk
    by_cases h1 : kind = 1
    · exact Excludes_one A1 n1 c1 home A2 n2 c2 A3 n3 c3 s kind st cat tick dx dy er lo hi xl xh yl yh w hs hno.1 hno.2 h1
    · by_cases h2 : kind = 2
      · exact Excludes_two A1 n1 c1 home A2 n2 c2 A3 n3 c3 s kind st cat tick dx dy er lo hi xl xh yl yh w hs hno.1 hno.2 h2
      · exact Excludes_three A1 n1 c1 home A2 n2 c2 A3 n3 c3 s kind st cat tick dx dy er lo hi xl xh yl yh w hs hno.1 hno.2 (by omega)
end Go.Proofs.YtfniicgoeljmdaaGreat
