/- Whether an empty look, or an angle, excludes an area: the program. No condition. Whether a sight excludes an area: pieces of the reference. No condition. Whether a sight excludes an area: the reference. No condition. -/
import Derived.Test.YtfniicgoeljmdaaGreatExcludes
namespace Go.Proofs.YtfniicgoeljmdaaGreat
open Go.RowKit Go.Shelf
attribute [local go_sem] Oper.semAt_some

set_option maxRecDepth 8000 in
set_option maxHeartbeats 2000000 in
theorem Excludes_three (A1 : Option Addr) (n1 c1 : Nat) (home : Int) (A2 : Option Addr) (n2 c2 : Nat) (A3 : Option Addr) (n3 c3 : Nat) (s : Sky) (kind st cat tick dx dy er lo hi : Int) (xl xh yl yh : Int) (w : World) (hs : IsSky w A1 n1 home A2 n2 A3 n3 s) (h0 : sightErr2 s ⟨kind, st, cat, tick, dx, dy, er, lo, hi⟩ = 0) (hr : rightA xl xh yl yh = true) (hk : kind = 3) :
    Calls Tryz.prog 141 #[.agg #[.slice A1 n1 c1, .int .i64 home, .slice A2 n2 c2, .slice A3 n3 c3], .agg #[.int .i64 kind, .int .i64 st, .int .i64 cat, .int .i64 tick, .int .i64 dx, .int .i64 dy, .int .i64 er, .int .i64 lo, .int .i64 hi], .agg #[.int .i64 xl, .int .i64 xh, .int .i64 yl, .int .i64 yh]] w fun e w' =>
      e = .returned (.bool (exclM s ⟨kind, st, cat, tick, dx, dy, er, lo, hi⟩ (cornersL xl xh yl yh) (nearestP s ⟨kind, st, cat, tick, dx, dy, er, lo, hi⟩ xl xh yl yh))) ∧ Ext w w' := by
  have HC := Lib.hid fun W (hW : Ext w W) => CheckSight_c A1 n1 c1 home A2 n2 c2 A3 n3 c3 s kind st cat tick dx dy er lo hi W (hs.ext hW)
  have HR := Lib.hid fun W => right_c xl xh yl yh W
  have hv := sight_ok h0
  have HL := Lib.hid fun W (hW : Ext w W) => lookOf_c A1 n1 c1 home A2 n2 c2 A3 n3 c3 s kind st cat tick dx dy er lo hi W (hs.ext hW) hv
  have hk2 : kind ≠ 2 := by omega
  have hk1 : kind ≠ 1 := by omega
  rw [h0] at HC
  rw [hr] at HR
  rw [lookV, if_neg hk2, if_neg hk1] at HL
  unfold exclM
  rw [if_neg hk2, if_neg hk1]
  have hcn := corner_near hr
  have hcb := fun (v : Vec) (hvm : v ∈ cornersL xl xh yl yh) => hv.cb hk2 (hcn v hvm)
  obtain ⟨f1, f2⟩ := hv.far hk
  have hbb := hv.bias_bd hk2
  dsimp only at *
  generalize orig s ⟨kind, st, cat, tick, dx, dy, er, lo, hi⟩ = o at *
  obtain ⟨fx, fy⟩ := o
  dsimp only at *
  generalize biasLo s ⟨kind, st, cat, tick, dx, dy, er, lo, hi⟩ = bl at *
  generalize biasHi s ⟨kind, st, cat, tick, dx, dy, er, lo, hi⟩ = bh at *
  have HE := Lib.hid fun (b : Nat) (v : Vec) (hvm : v ∈ cornersL xl xh yl yh) W (hb : ∃ t, Blk W b t #[.int .i64 fx, .int .i64 fy, .int .i64 dx, .int .i64 dy, .int .i64 bl, .int .i64 bh, .int .i64 hi]) =>
    excl2_c fx fy dx dy bl bh hi v.x v.y b W hb (hcb v hvm) hbb.1 hbb.2 (by omega)
  have HA := Lib.hid fun (b : Nat) W (hb : ∃ t, Blk W b t #[.int .i64 fx, .int .i64 fy, .int .i64 dx, .int .i64 dy, .int .i64 bl, .int .i64 bh, .int .i64 hi]) => all_c xl xh yl yh 181 #[.pointer (some ⟨b, 0, none⟩)] (fun p => inB fx fy dx dy bl bh p.x p.y && decide (distD p.x p.y fx fy ≤ hi * hi)) W Tryz.call181
    (fun v hvm W2 hW2 => HE.out b v hvm W2 (hb.imp fun t h => h.ext hW2))
  have t1 : ∀ W, (Instr.typeAssert (.iface 189 (.agg #[.int .i64 fx, .int .i64 fy, .int .i64 dx, .int .i64 dy, .int .i64 bl, .int .i64 bh, .int .i64 hi])) 156 187 true).run Tryz.prog W = .ok (.tuple #[.agg #[.int .i64 0, .int .i64 0, .int .i64 0, .int .i64 0, .int .i64 0, .int .i64 0], .bool false]) W := fun _ => by kernel_rfl
  have t2 : ∀ W, (Instr.typeAssert (.iface 189 (.agg #[.int .i64 fx, .int .i64 fy, .int .i64 dx, .int .i64 dy, .int .i64 bl, .int .i64 bh, .int .i64 hi])) 156 183 true).run Tryz.prog W = .ok (.tuple #[.agg #[.int .i64 0, .int .i64 0, .int .i64 0, .int .i64 0], .bool false]) W := fun _ => by kernel_rfl
  have t3 : ∀ W, (Instr.typeAssert (.iface 189 (.agg #[.int .i64 fx, .int .i64 fy, .int .i64 dx, .int .i64 dy, .int .i64 bl, .int .i64 bh, .int .i64 hi])) 156 189 true).run Tryz.prog W = .ok (.tuple #[.agg #[.int .i64 fx, .int .i64 fy, .int .i64 dx, .int .i64 dy, .int .i64 bl, .int .i64 bh, .int .i64 hi], .bool true]) W := fun _ => by kernel_rfl
  generalize ((cornersL xl xh yl yh).all fun p => inB fx fy dx dy bl bh p.x p.y && decide (distD p.x p.y fx fy ≤ hi * hi)) = G at *
  clear HE hcn hcb hs h0 hr hk hk1 hk2 hv f1 f2 hbb
  go_enter Tryz.func141, Tryz.ntmps141
  go_wp2_with fail
  refine (HC.out _ (by (repeat' (first | exact Ext.refl _ | assumption | apply Ext.alloc | apply Ext.drew | refine Ext.set ?_ (by dsimp only; omega) _ | refine Ext.trans ?_ (by assumption))))).mono ?_
  rintro e w1 ⟨rfl, h1⟩; obtain ⟨hc_w1, hf_w1, hz_w1⟩ := bcell h1; (repeat (first | rw [World.size_alloc] at hz_w1 | rw [World.size_drew] at hz_w1 | rw [World.size_setCell] at hz_w1)); have : w.heap.size < w1.heap.size := (by omega); have : w.heap.size + 1 < w1.heap.size := (by omega); have : w.heap.size + 2 < w1.heap.size := (by omega)
  go_wp2_with fail
  refine (HR.out _).mono ?_
  rintro e w2 ⟨rfl, h2⟩; obtain ⟨hc_w2, hf_w2, hz_w2⟩ := bcell h2; (repeat (first | rw [World.size_alloc] at hz_w2 | rw [World.size_drew] at hz_w2 | rw [World.size_setCell] at hz_w2)); have : w.heap.size < w2.heap.size := (by omega); have : w.heap.size + 1 < w2.heap.size := (by omega); have : w.heap.size + 2 < w2.heap.size := (by omega)
  go_wp2_with fail
  refine (HL.out _ (by (repeat' (first | exact Ext.refl _ | assumption | apply Ext.alloc | apply Ext.drew | refine Ext.set ?_ (by dsimp only; omega) _ | refine Ext.trans ?_ (by assumption))))).mono ?_
  rintro e w3 ⟨rfl, h3⟩; obtain ⟨hc_w3, hf_w3, hz_w3⟩ := bcell h3; (repeat (first | rw [World.size_alloc] at hz_w3 | rw [World.size_drew] at hz_w3 | rw [World.size_setCell] at hz_w3)); have : w.heap.size < w3.heap.size := (by omega); have : w.heap.size + 1 < w3.heap.size := (by omega); have : w.heap.size + 2 < w3.heap.size := (by omega)
  go_wp2_with fail
  refine (HA.out w3.heap.size _ ⟨_, Blk.newAt rfl⟩).mono ?_
  rintro e w4 ⟨rfl, h4⟩; obtain ⟨hc_w4, hf_w4, hz_w4⟩ := bcell h4; (repeat (first | rw [World.size_alloc] at hz_w4 | rw [World.size_drew] at hz_w4 | rw [World.size_setCell] at hz_w4)); have : w.heap.size < w4.heap.size := (by omega); have : w.heap.size + 1 < w4.heap.size := (by omega); have : w.heap.size + 2 < w4.heap.size := (by omega)
  go_wp2_with fail
  go_ret
  exact ⟨rfl, by (repeat' (first | exact Ext.refl _ | assumption | apply Ext.alloc | apply Ext.drew | refine Ext.set ?_ (by dsimp only; omega) _ | refine Ext.trans ?_ (by assumption)))⟩

set_option maxRecDepth 100000 in
set_option maxHeartbeats 4000000 in
theorem Excludes_one (A1 : Option Addr) (n1 c1 : Nat) (home : Int) (A2 : Option Addr) (n2 c2 : Nat) (A3 : Option Addr) (n3 c3 : Nat) (s : Sky) (kind st cat tick dx dy er lo hi : Int) (xl xh yl yh : Int) (w : World) (hs : IsSky w A1 n1 home A2 n2 A3 n3 s) (h0 : sightErr2 s ⟨kind, st, cat, tick, dx, dy, er, lo, hi⟩ = 0) (hr : rightA xl xh yl yh = true) (hk : kind = 1) :
    Calls Tryz.prog 141 #[.agg #[.slice A1 n1 c1, .int .i64 home, .slice A2 n2 c2, .slice A3 n3 c3], .agg #[.int .i64 kind, .int .i64 st, .int .i64 cat, .int .i64 tick, .int .i64 dx, .int .i64 dy, .int .i64 er, .int .i64 lo, .int .i64 hi], .agg #[.int .i64 xl, .int .i64 xh, .int .i64 yl, .int .i64 yh]] w fun e w' =>
      e = .returned (.bool (exclM s ⟨kind, st, cat, tick, dx, dy, er, lo, hi⟩ (cornersL xl xh yl yh) (nearestP s ⟨kind, st, cat, tick, dx, dy, er, lo, hi⟩ xl xh yl yh))) ∧ Ext w w' := by
  have HC := Lib.hid fun W (hW : Ext w W) => CheckSight_c A1 n1 c1 home A2 n2 c2 A3 n3 c3 s kind st cat tick dx dy er lo hi W (hs.ext hW)
  have HR := Lib.hid fun W => right_c xl xh yl yh W
  have hv := sight_ok h0
  have HL := Lib.hid fun W (hW : Ext w W) => lookOf_c A1 n1 c1 home A2 n2 c2 A3 n3 c3 s kind st cat tick dx dy er lo hi W (hs.ext hW) hv
  have hk2 : kind ≠ 2 := by omega
  rw [h0] at HC
  rw [hr] at HR
  rw [lookV, if_neg hk2, if_pos hk] at HL
  generalize hG : exclM s ⟨kind, st, cat, tick, dx, dy, er, lo, hi⟩ (cornersL xl xh yl yh) (nearestP s ⟨kind, st, cat, tick, dx, dy, er, lo, hi⟩ xl xh yl yh) = G
  unfold exclM at hG
  rw [if_neg hk2, if_pos hk] at hG
  have hcn := corner_near hr
  have hcb := fun (v : Vec) (hvm : v ∈ cornersL xl xh yl yh) => hv.cb hk2 (hcn v hvm)
  have hbb := hv.bias_bd hk2
  dsimp only at *
  generalize orig s ⟨kind, st, cat, tick, dx, dy, er, lo, hi⟩ = o at *
  obtain ⟨fx, fy⟩ := o
  dsimp only at *
  generalize biasLo s ⟨kind, st, cat, tick, dx, dy, er, lo, hi⟩ = bl at *
  generalize biasHi s ⟨kind, st, cat, tick, dx, dy, er, lo, hi⟩ = bh at *
  have HS := Lib.hid fun (v : Vec) (hvm : v ∈ cornersL xl xh yl yh) W => sides_c fx fy dx dy bl bh v.x v.y W (hcb v hvm) hbb.1 hbb.2
  have t1 : ∀ W, (Instr.typeAssert (.iface 187 (.agg #[.int .i64 fx, .int .i64 fy, .int .i64 dx, .int .i64 dy, .int .i64 bl, .int .i64 bh])) 156 187 true).run Tryz.prog W = .ok (.tuple #[.agg #[.int .i64 fx, .int .i64 fy, .int .i64 dx, .int .i64 dy, .int .i64 bl, .int .i64 bh], .bool true]) W := fun _ => by kernel_rfl
  have HG := Lib.hid hG
  clear hcn hcb hs h0 hr hk hk2 hv hbb hG
  refine (callsIn_wide (n := 6)).1 (callsIn_of_wp_marks Tryz.func141 rfl trivial ?_)
  simp only [Tryz.ntmps141, List.size_toArray, List.length_cons, List.length_nil, Nat.reduceAdd, Nat.reduceSub, Array.replicate_succ, Array.replicate_zero, List.push_toArray, List.append_toArray, List.nil_append, List.cons_append]
  refine wpIn_wide.2 ?_
  go_wp2_with fail
  refine (HC.out _ (by (repeat' (first | exact Ext.refl _ | assumption | apply Ext.alloc | apply Ext.drew | refine Ext.set ?_ (by dsimp only; omega) _ | refine Ext.trans ?_ (by assumption))))).mono ?_
  rintro e w1 ⟨rfl, h1⟩; obtain ⟨hc_w1, hf_w1, hz_w1⟩ := bcell h1; (repeat (first | rw [World.size_alloc] at hz_w1 | rw [World.size_drew] at hz_w1 | rw [World.size_setCell] at hz_w1)); have : w.heap.size < w1.heap.size := (by omega); have : w.heap.size + 1 < w1.heap.size := (by omega); have : w.heap.size + 2 < w1.heap.size := (by omega)
  go_wp2_with fail
  refine (HR.out _).mono ?_
  rintro e w2 ⟨rfl, h2⟩; obtain ⟨hc_w2, hf_w2, hz_w2⟩ := bcell h2; (repeat (first | rw [World.size_alloc] at hz_w2 | rw [World.size_drew] at hz_w2 | rw [World.size_setCell] at hz_w2)); have : w.heap.size < w2.heap.size := (by omega); have : w.heap.size + 1 < w2.heap.size := (by omega); have : w.heap.size + 2 < w2.heap.size := (by omega)
  go_wp2_with fail
  refine (HL.out _ (by (repeat' (first | exact Ext.refl _ | assumption | apply Ext.alloc | apply Ext.drew | refine Ext.set ?_ (by dsimp only; omega) _ | refine Ext.trans ?_ (by assumption))))).mono ?_
  rintro e w3 ⟨rfl, h3⟩; obtain ⟨hc_w3, hf_w3, hz_w3⟩ := bcell h3; (repeat (first | rw [World.size_alloc] at hz_w3 | rw [World.size_drew] at hz_w3 | rw [World.size_setCell] at hz_w3)); have : w.heap.size < w3.heap.size := (by omega); have : w.heap.size + 1 < w3.heap.size := (by omega); have : w.heap.size + 2 < w3.heap.size := (by omega)
  have e3 : Ext w w3 := by (repeat' (first | exact Ext.refl _ | assumption | apply Ext.alloc | apply Ext.drew | refine Ext.set ?_ (by dsimp only; omega) _ | refine Ext.trans ?_ (by assumption)))
  go_wp2_with fail
  refine (corners_c _ _ _ _ _).mono ?_
  rintro e w4 ⟨rfl, rfl⟩
  go_wp2_with fail
  refine name_world _ ?_
  intro W0 hW0
  have b7 : Blk W0 w3.heap.size 187 #[.int .i64 fx, .int .i64 fy, .int .i64 dx, .int .i64 dy, .int .i64 bl, .int .i64 bh] := by rw [hW0]; exact (((Blk.newAt rfl).alloc _).alloc _).alloc _ |>.alloc _
  have b8 : Blk W0 (w3.heap.size + 1) 4 #[.bool true] := by rw [hW0]; exact ((Blk.newAt (by simp)).alloc _).alloc _ |>.alloc _
  have b9 : Blk W0 (w3.heap.size + 1 + 1) 4 #[.bool true] := by rw [hW0]; exact (Blk.newAt (by simp)).alloc _ |>.alloc _
  have b10 : Blk W0 (w3.heap.size + 1 + 1 + 1) 4 #[.bool true] := by rw [hW0]; exact (Blk.newAt (by simp)).alloc _
  have b11 : Blk W0 (w3.heap.size + 1 + 1 + 1 + 1) 112 #[.int .i64 xl, .int .i64 xh, .int .i64 yl, .int .i64 yh] := by rw [hW0]; exact Blk.newAt (by simp)
  have e0 : Ext w W0 := by rw [hW0]; (repeat' (first | exact Ext.refl _ | assumption | apply Ext.alloc | apply Ext.drew | refine Ext.set ?_ (by dsimp only; omega) _ | refine Ext.trans ?_ (by assumption)))
  have hz0 : W0.heap.size = w3.heap.size + 5 := by rw [hW0]; simp
  clear hW0
  refine wp_range_box (nb := w.heap.size) (corners_iter _ _ xl xh yl yh w.heap.size W0 b11) rfl Tryz.call216 (by omega) (fun _ => rfl)
    (fun pre W => Ext w W ∧ Blk W w3.heap.size 187 #[.int .i64 fx, .int .i64 fy, .int .i64 dx, .int .i64 dy, .int .i64 bl, .int .i64 bh] ∧ Blk W (w3.heap.size + 1) 4 #[.bool (pre.all fun p => behindB fx fy dx dy p.x p.y)] ∧
      Blk W (w3.heap.size + 1 + 1) 4 #[.bool (pre.all fun p => belowB fx fy dx dy bl p.x p.y)] ∧ Blk W (w3.heap.size + 1 + 1 + 1) 4 #[.bool (pre.all fun p => aboveB fx fy dx dy bh p.x p.y)])
    (fun _ _ _ => False)
    (OwnFrom.and (ownFrom_ext (by omega)) (OwnFrom.and (ownFrom_blk _ _ _ _) (OwnFrom.and (ownFrom_blk _ _ _ _) (OwnFrom.and (ownFrom_blk _ _ _ _) (ownFrom_blk _ _ _ _)))))
    (fun c => ownFrom_pure _ _)
    ⟨e0, b7, b8, b9, b10⟩
    (fun x b t => (t.setIfInBounds 35 (.agg #[.int .i64 x.x, .int .i64 x.y])).setIfInBounds 11 (.pointer (some ⟨b, 0, none⟩))) 85 (fun x => #[.int .i64 x.x, .int .i64 x.y]) ?assign ?body ?done ?stop
  case assign =>
    intro l n x W K hK
    simp only [Act.put, List.setIfInBounds_toArray, List.set_cons_zero, List.set_cons_succ] at hK
    simp only [vecE]
    gi_wp2
    exact hK
  case body =>
    rintro l n pre x b W hx hb hBx hW ⟨he, c7, c8, c9, c10⟩
    simp only [Act.put, List.setIfInBounds_toArray, List.set_cons_zero, List.set_cons_succ]
    have hd7 := c7.cell
    have hdx := hBx.cell
    have hl7 := c7.lt
    have hlx := hBx.lt
    have C7 := Lib.hid c7
    have C8 := Lib.hid c8
    have C9 := Lib.hid c9
    have C10 := Lib.hid c10
    have HE := Lib.hid he
    have hsx := HS.out x hx W
    generalize hv1 : behindB fx fy dx dy x.x x.y = v1 at hsx
    generalize hv2 : belowB fx fy dx dy bl x.x x.y = v2 at hsx
    generalize hv3 : aboveB fx fy dx dy bh x.x x.y = v3 at hsx
    have HSx := Lib.hid hsx
    have HV1 := Lib.hid hv1
    have HV2 := Lib.hid hv2
    have HV3 := Lib.hid hv3
    clear c7 c8 c9 c10 he hsx hv1 hv2 hv3 hBx
    gi_wp2
    refine ⟨trivial, fun h => (by cases h), (CallsIn.inRound l (callsIn_wide.2 HSx.out)).mono ?_⟩
    rintro e w' ⟨rfl, h1⟩
    have C7' := Lib.hid (C7.out.ext h1)
    have C8' := Lib.hid (C8.out.ext h1)
    have C9' := Lib.hid (C9.out.ext h1)
    have C10' := Lib.hid (C10.out.ext h1)
    have H1 := Lib.hid h1
    clear hd7 hdx h1
    have i8 := C8'.out.cell
    have i9 := C9'.out.cell
    have i10 := C10'.out.cell
    have j8 := C8'.out.frozen
    have j9 := C9'.out.frozen
    have j10 := C10'.out.frozen
    have k8 := C8'.out.lt
    have k9 := C9'.out.lt
    have k10 := C10'.out.lt
    have e8 : (pre ++ [x]).all (fun p => behindB fx fy dx dy p.x p.y) = (pre.all (fun p => behindB fx fy dx dy p.x p.y) && v1) := by rw [List.all_append]; simp [HV1.out]
    have e9 : (pre ++ [x]).all (fun p => belowB fx fy dx dy bl p.x p.y) = (pre.all (fun p => belowB fx fy dx dy bl p.x p.y) && v2) := by rw [List.all_append]; simp [HV2.out]
    have e10 : (pre ++ [x]).all (fun p => aboveB fx fy dx dy bh p.x p.y) = (pre.all (fun p => aboveB fx fy dx dy bh p.x p.y) && v3) := by rw [List.all_append]; simp [HV3.out]
    have E8 := Lib.hid e8
    have E9 := Lib.hid e9
    have E10 := Lib.hid e10
    clear e8 e9 e10
    have hcaps : ∀ g ∈ [w3.heap.size + 1 + 1 + 1 + 1], g ≠ w3.heap.size + 1 ∧ g ≠ w3.heap.size + 1 + 1 ∧ g ≠ w3.heap.size + 1 + 1 + 1 := by
      intro g hg
      simp at hg
      omega
    have HCp := Lib.hid hcaps
    clear hcaps
    generalize pre.all (fun p => behindB fx fy dx dy p.x p.y) = g1 at *
    generalize pre.all (fun p => belowB fx fy dx dy bl p.x p.y) = g2 at *
    generalize pre.all (fun p => aboveB fx fy dx dy bh p.x p.y) = g3 at *
    cases g1 <;> cases g2 <;> cases g3
    all_goals gi_wp2
    all_goals exact ⟨(H1.out.keepsFrom _).trans (((KeepsOthers.setCell _ _ _).trans ((KeepsOthers.setCell _ _ _).trans (KeepsOthers.setCell _ _ _))).from _),
      (((H1.out.kpX (by omega) _).set (by dsimp only; omega) (fun g hg => (HCp.out g hg).1) _).set (by dsimp only; omega) (fun g hg => (HCp.out g hg).2.1) _).set (by dsimp only; omega) (fun g hg => (HCp.out g hg).2.2) _,
      (((HE.out.trans H1.out).set (by dsimp only; omega) _).set (by dsimp only; omega) _).set (by dsimp only; omega) _,
      ((C7'.out.far (by dsimp only; omega) _).far (by dsimp only; omega) _).far (by dsimp only; omega) _,
      by rw [E8.out]; exact ((C8'.out.set_ 0 _).far (by dsimp only; omega) _).far (by dsimp only; omega) _,
      by rw [E9.out]; exact ((C9'.out.far (by dsimp only; omega) _).set_ 0 _).far (by dsimp only; omega) _,
      by rw [E10.out]; exact ((C10'.out.far (by dsimp only; omega) _).far (by dsimp only; omega) _).set_ 0 _⟩
  case done =>
    rintro D W hD ⟨he, c7, c8, c9, c10⟩ hK
    have hd8 := c8.cell
    have hd9 := c9.cell
    have hd10 := c10.cell
    have hl8 := c8.lt
    have hl9 := c9.lt
    have hl10 := c10.lt
    have hG := HG.out
    generalize ((cornersL xl xh yl yh).all fun p => behindB fx fy dx dy p.x p.y) = g1 at *
    generalize ((cornersL xl xh yl yh).all fun p => belowB fx fy dx dy bl p.x p.y) = g2 at *
    generalize ((cornersL xl xh yl yh).all fun p => aboveB fx fy dx dy bh p.x p.y) = g3 at *
    have HG2 := Lib.hid hG
    clear hG
    dsimp only
    cases g1 <;> cases g2 <;> cases g3
    all_goals go_wp2_with fail
    all_goals refine ⟨by simp, .inl ⟨_, _, rfl, run_takeDeferred hK, ?_⟩⟩
    all_goals exact ⟨_, results_tmp rfl _ _ _, by rw [← HG2.out]; rfl, Ext.put he (by omega)⟩
  case stop =>
    rintro D c pre W hD hpre h hK
    exact h.elim

theorem Excludes_c (A1 : Option Addr) (n1 c1 : Nat) (home : Int) (A2 : Option Addr) (n2 c2 : Nat) (A3 : Option Addr) (n3 c3 : Nat) (s : Sky) (kind st cat tick dx dy er lo hi : Int) (xl xh yl yh : Int) (w : World) (hs : IsSky w A1 n1 home A2 n2 A3 n3 s) :
    Calls Tryz.prog 141 #[.agg #[.slice A1 n1 c1, .int .i64 home, .slice A2 n2 c2, .slice A3 n3 c3], .agg #[.int .i64 kind, .int .i64 st, .int .i64 cat, .int .i64 tick, .int .i64 dx, .int .i64 dy, .int .i64 er, .int .i64 lo, .int .i64 hi], .agg #[.int .i64 xl, .int .i64 xh, .int .i64 yl, .int .i64 yh]] w fun e w' => e = .returned (.bool (exclAll s ⟨kind, st, cat, tick, dx, dy, er, lo, hi⟩ xl xh yl yh)) ∧ Ext w w' := by
  cases hno : (decide (sightErr2 s ⟨kind, st, cat, tick, dx, dy, er, lo, hi⟩ = 0) && rightA xl xh yl yh)
  · have : exclAll s ⟨kind, st, cat, tick, dx, dy, er, lo, hi⟩ xl xh yl yh = false := by rw [exclAll, hno]; rfl
    rw [this]
    exact Excludes_no A1 n1 c1 home A2 n2 c2 A3 n3 c3 s kind st cat tick dx dy er lo hi xl xh yl yh w hs hno
  · have : exclAll s ⟨kind, st, cat, tick, dx, dy, er, lo, hi⟩ xl xh yl yh = exclM s ⟨kind, st, cat, tick, dx, dy, er, lo, hi⟩ (cornersL xl xh yl yh) (nearestP s ⟨kind, st, cat, tick, dx, dy, er, lo, hi⟩ xl xh yl yh) := by rw [exclAll, hno]; rfl
    rw [this]
    simp only [Bool.and_eq_true, decide_eq_true_eq] at hno
    have hk := (sight_ok hno.1).kind
    dsimp only at hk
    by_cases h1 : kind = 1
    · exact Excludes_one A1 n1 c1 home A2 n2 c2 A3 n3 c3 s kind st cat tick dx dy er lo hi xl xh yl yh w hs hno.1 hno.2 h1
    · by_cases h2 : kind = 2
      · exact Excludes_two A1 n1 c1 home A2 n2 c2 A3 n3 c3 s kind st cat tick dx dy er lo hi xl xh yl yh w hs hno.1 hno.2 h2
      · exact Excludes_three A1 n1 c1 home A2 n2 c2 A3 n3 c3 s kind st cat tick dx dy er lo hi xl xh yl yh w hs hno.1 hno.2 (by omega)
end Go.Proofs.YtfniicgoeljmdaaGreat

namespace Go.Proofs.YtfniicgoeljmdaaGreat
open Go.RowKit

set_option maxRecDepth 4000 in
set_option maxHeartbeats 1000000 in
theorem refCheckArea_c (xl xh yl yh : Int) (w : World) :
    Calls Tryz.prog 183 #[.agg #[.int .i64 xl, .int .i64 xh, .int .i64 yl, .int .i64 yh]] w fun e w' => e = .returned (.bool (rightA xl xh yl yh)) ∧ Ext w w' := by
  have H1 := Lib.hid fun W => Near_c xl yl W
  have H2 := Lib.hid fun W => Near_c xh yh W
  have HM : Hid (rightA xl xh yl yh = (decide (xl ≤ xh) && decide (yl ≤ yh) && near ⟨xl, yl⟩ 33554432 && near ⟨xh, yh⟩ 33554432)) := by
    show _ = _
    rw [Bool.eq_iff_iff, rightA_iff]
    simp only [Bool.and_eq_true, decide_eq_true_eq, near_iff]
    omega
  generalize rightA xl xh yl yh = R at *
  generalize near ⟨xl, yl⟩ 33554432 = n1 at *
  generalize near ⟨xh, yh⟩ 33554432 = n2 at *
  by_cases hx : xl ≤ xh
  · by_cases hy : yl ≤ yh
    · go_enter Tryz.func183, Tryz.ntmps183
      go_wp2_with fail
      refine (H1.out _).mono ?_
      rintro e w1 ⟨rfl, h1⟩; obtain ⟨hc_w1, hf_w1, hz_w1⟩ := bcell h1; (repeat (first | rw [World.size_alloc] at hz_w1 | rw [World.size_drew] at hz_w1 | rw [World.size_setCell] at hz_w1)); have : w.heap.size < w1.heap.size := (by omega)
      cases n1
      · go_wp2_with fail
        go_ret
        exact ⟨ret_b (by rw [HM.out]; simp), by (repeat' (first | exact Ext.refl _ | assumption | apply Ext.alloc | apply Ext.drew | refine Ext.set ?_ (by dsimp only; omega) _ | refine Ext.trans ?_ (by assumption)))⟩
      · go_wp2_with fail
        refine (H2.out _).mono ?_
        rintro e w2 ⟨rfl, h2⟩; obtain ⟨hc_w2, hf_w2, hz_w2⟩ := bcell h2; (repeat (first | rw [World.size_alloc] at hz_w2 | rw [World.size_drew] at hz_w2 | rw [World.size_setCell] at hz_w2)); have : w.heap.size < w2.heap.size := (by omega)
        go_wp2_with fail
        go_ret
        exact ⟨ret_b (by rw [HM.out]; simp [hx, hy]), by (repeat' (first | exact Ext.refl _ | assumption | apply Ext.alloc | apply Ext.drew | refine Ext.set ?_ (by dsimp only; omega) _ | refine Ext.trans ?_ (by assumption)))⟩
    · have hy' : yh < yl := by omega
      go_enter Tryz.func183, Tryz.ntmps183
      go_wp2_with fail
      go_ret
      exact ⟨ret_b (by rw [HM.out]; simp; intro _ h; omega), by (repeat' (first | exact Ext.refl _ | assumption | apply Ext.alloc | apply Ext.drew | refine Ext.set ?_ (by dsimp only; omega) _ | refine Ext.trans ?_ (by assumption)))⟩
  · have hx' : xh < xl := by omega
    go_enter Tryz.func183, Tryz.ntmps183
    go_wp2_with fail
    go_ret
    exact ⟨ret_b (by rw [HM.out]; simp; intro h; omega), by (repeat' (first | exact Ext.refl _ | assumption | apply Ext.alloc | apply Ext.drew | refine Ext.set ?_ (by dsimp only; omega) _ | refine Ext.trans ?_ (by assumption)))⟩

theorem four {α : Type} {a b c d : α} {P : α → Nat → Prop} (h0 : P a 0) (h1 : P b 1) (h2 : P c 2) (h3 : P d 3) : ∀ k (h : k < [a, b, c, d].length), P ([a, b, c, d][k]) k
  | 0, _ => h0
  | 1, _ => h1
  | 2, _ => h2
  | 3, _ => h3

set_option maxRecDepth 4000 in
set_option maxHeartbeats 1000000 in
theorem refcorners_c (xl xh yl yh : Int) (w : World) :
    Calls Tryz.prog 184 #[.agg #[.int .i64 xl, .int .i64 xh, .int .i64 yl, .int .i64 yh]] w fun e w' => ∃ A c, e = .returned (.slice A 4 c) ∧ Vecs w' A 4 (cornersL xl xh yl yh) ∧ Ext w w' := by
  go_enter Tryz.func184, Tryz.ntmps184
  go_wp2_with fail
  go_ret
  refine ⟨_, _, rfl, ⟨rfl, by decide, .inr ⟨_, 0, rfl, ?_⟩⟩, by (repeat' (first | exact Ext.refl _ | assumption | apply Ext.alloc | apply Ext.drew | refine Ext.set ?_ (by dsimp only; omega) _ | refine Ext.trans ?_ (by assumption)))⟩
  have hB : Blk ((w.alloc (.cells #[.int .i64 xl, .int .i64 xh, .int .i64 yl, .int .i64 yh] 112)).alloc (.cells #[.int .i64 xl, .int .i64 yl, .int .i64 xl, .int .i64 yh, .int .i64 xh, .int .i64 yl, .int .i64 xh, .int .i64 yh] 85)) (w.heap.size + 1) 85 #[.int .i64 xl, .int .i64 yl, .int .i64 xl, .int .i64 yh, .int .i64 xh, .int .i64 yl, .int .i64 xh, .int .i64 yh] := Blk.newAt (by simp)
  exact four (P := fun x k => vecAt _ x (w.heap.size + 1) (0 + k * 2)) ⟨hB.cell 0, hB.cell 1⟩ ⟨hB.cell 2, hB.cell 3⟩ ⟨hB.cell 4, hB.cell 5⟩ ⟨hB.cell 6, hB.cell 7⟩

/-- How many of the first k. -/
def cntP (p : Vec → Bool) (L : List Vec) (k : Nat) : Nat := (L.take k).countP p
theorem cntP_le (p : Vec → Bool) (L : List Vec) (k : Nat) : cntP p L k ≤ k := Nat.le_trans List.countP_le_length (by rw [List.length_take]; omega)
theorem cntP_succ {p : Vec → Bool} {L : List Vec} {k : Nat} {x : Vec} (h : L.drop k = x :: L.drop (k + 1)) : cntP p L (k + 1) = cntP p L k + if p x then 1 else 0 := by
  unfold cntP
  rw [take_snoc h, List.countP_append]
  simp [List.countP_cons]
theorem cntP_all {p : Vec → Bool} {L : List Vec} (h : L.length = 4) : decide ((cntP p L 4 : Int) = 4) = L.all p := by
  unfold cntP
  rw [List.take_of_length_le (by omega), Bool.eq_iff_iff, decide_eq_true_eq, List.all_eq_true, ← List.countP_eq_length]
  omega
end Go.Proofs.YtfniicgoeljmdaaGreat

namespace Go.Proofs.YtfniicgoeljmdaaGreat
open Go.RowKit

set_option maxRecDepth 4000 in
set_option maxHeartbeats 2000000 in
theorem refExcludes_no (A1 : Option Addr) (n1 c1 : Nat) (home : Int) (A2 : Option Addr) (n2 c2 : Nat) (A3 : Option Addr) (n3 c3 : Nat) (s : Sky) (kind st cat tick dx dy er lo hi : Int) (xl xh yl yh : Int) (w : World) (hs : IsSky w A1 n1 home A2 n2 A3 n3 s) (hno : (decide (sightErr2 s ⟨kind, st, cat, tick, dx, dy, er, lo, hi⟩ = 0) && rightA xl xh yl yh) = false) :
    Calls Tryz.prog 142 #[.agg #[.slice A1 n1 c1, .int .i64 home, .slice A2 n2 c2, .slice A3 n3 c3], .agg #[.int .i64 kind, .int .i64 st, .int .i64 cat, .int .i64 tick, .int .i64 dx, .int .i64 dy, .int .i64 er, .int .i64 lo, .int .i64 hi], .agg #[.int .i64 xl, .int .i64 xh, .int .i64 yl, .int .i64 yh]] w fun e w' => e = .returned (.bool false) ∧ Ext w w' := by
  have HC := Lib.hid fun W (hW : Ext w W) => refCheckSight_c A1 n1 c1 home A2 n2 c2 A3 n3 c3 s kind st cat tick dx dy er lo hi W (hs.ext hW)
  by_cases h0 : sightErr2 s ⟨kind, st, cat, tick, dx, dy, er, lo, hi⟩ = 0
  · have hr : rightA xl xh yl yh = false := by simpa [h0] using hno
    have HR := Lib.hid fun W => refCheckArea_c xl xh yl yh W
    rw [hr] at HR
    rw [h0] at HC
    clear h0 hno hr hs
    go_enter Tryz.func142, Tryz.ntmps142
    go_wp2_with fail
    refine (HC.out _ (by (repeat' (first | exact Ext.refl _ | assumption | apply Ext.alloc | apply Ext.drew | refine Ext.set ?_ (by dsimp only; omega) _ | refine Ext.trans ?_ (by assumption))))).mono ?_
    rintro e w1 ⟨rfl, h1⟩; obtain ⟨hc_w1, hf_w1, hz_w1⟩ := bcell h1; (repeat (first | rw [World.size_alloc] at hz_w1 | rw [World.size_drew] at hz_w1 | rw [World.size_setCell] at hz_w1)); have : w.heap.size < w1.heap.size := (by omega); have : w.heap.size + 1 < w1.heap.size := (by omega); have : w.heap.size + 2 < w1.heap.size := (by omega)
    go_wp2_with fail
    refine (HR.out _).mono ?_
    rintro e w2 ⟨rfl, h2⟩; obtain ⟨hc_w2, hf_w2, hz_w2⟩ := bcell h2; (repeat (first | rw [World.size_alloc] at hz_w2 | rw [World.size_drew] at hz_w2 | rw [World.size_setCell] at hz_w2)); have : w.heap.size < w2.heap.size := (by omega); have : w.heap.size + 1 < w2.heap.size := (by omega); have : w.heap.size + 2 < w2.heap.size := (by omega)
    go_wp2_with fail
    go_ret
    exact ⟨rfl, by (repeat' (first | exact Ext.refl _ | assumption | apply Ext.alloc | apply Ext.drew | refine Ext.set ?_ (by dsimp only; omega) _ | refine Ext.trans ?_ (by assumption)))⟩
  · have h0' : (sightErr2 s ⟨kind, st, cat, tick, dx, dy, er, lo, hi⟩ != 0) = true := by simpa using h0
    generalize sightErr2 s ⟨kind, st, cat, tick, dx, dy, er, lo, hi⟩ = E at *
    clear h0 hno hs
    go_enter Tryz.func142, Tryz.ntmps142
    go_wp2_with fail
    refine (HC.out _ (by (repeat' (first | exact Ext.refl _ | assumption | apply Ext.alloc | apply Ext.drew | refine Ext.set ?_ (by dsimp only; omega) _ | refine Ext.trans ?_ (by assumption))))).mono ?_
    rintro e w1 ⟨rfl, h1⟩; obtain ⟨hc_w1, hf_w1, hz_w1⟩ := bcell h1; (repeat (first | rw [World.size_alloc] at hz_w1 | rw [World.size_drew] at hz_w1 | rw [World.size_setCell] at hz_w1)); have : w.heap.size < w1.heap.size := (by omega); have : w.heap.size + 1 < w1.heap.size := (by omega); have : w.heap.size + 2 < w1.heap.size := (by omega)
    go_wp2_with fail
    go_ret
    exact ⟨rfl, by (repeat' (first | exact Ext.refl _ | assumption | apply Ext.alloc | apply Ext.drew | refine Ext.set ?_ (by dsimp only; omega) _ | refine Ext.trans ?_ (by assumption)))⟩

set_option maxRecDepth 8000 in
set_option maxHeartbeats 4000000 in
theorem refExcludes_one (A1 : Option Addr) (n1 c1 : Nat) (home : Int) (A2 : Option Addr) (n2 c2 : Nat) (A3 : Option Addr) (n3 c3 : Nat) (s : Sky) (kind st cat tick dx dy er lo hi : Int) (xl xh yl yh : Int) (w : World) (hs : IsSky w A1 n1 home A2 n2 A3 n3 s) (h0 : sightErr2 s ⟨kind, st, cat, tick, dx, dy, er, lo, hi⟩ = 0) (hr : rightA xl xh yl yh = true) (hk : kind = 1) :
    Calls Tryz.prog 142 #[.agg #[.slice A1 n1 c1, .int .i64 home, .slice A2 n2 c2, .slice A3 n3 c3], .agg #[.int .i64 kind, .int .i64 st, .int .i64 cat, .int .i64 tick, .int .i64 dx, .int .i64 dy, .int .i64 er, .int .i64 lo, .int .i64 hi], .agg #[.int .i64 xl, .int .i64 xh, .int .i64 yl, .int .i64 yh]] w fun e w' =>
      e = .returned (.bool (exclM s ⟨kind, st, cat, tick, dx, dy, er, lo, hi⟩ (cornersL xl xh yl yh) (nearestP s ⟨kind, st, cat, tick, dx, dy, er, lo, hi⟩ xl xh yl yh))) ∧ Ext w w' := by
  have HC := Lib.hid fun W (hW : Ext w W) => refCheckSight_c A1 n1 c1 home A2 n2 c2 A3 n3 c3 s kind st cat tick dx dy er lo hi W (hs.ext hW)
  have HR := Lib.hid fun W => refCheckArea_c xl xh yl yh W
  have HL := Lib.hid fun W => refcorners_c xl xh yl yh W
  have hv := sight_ok h0
  have hk2 : kind ≠ 2 := by omega
  rw [h0] at HC
  rw [hr] at HR
  unfold exclM
  rw [if_neg hk2, if_pos hk]
  have hcn := corner_near hr
  have HF := Lib.hid fun (v : Vec) (hvm : v ∈ cornersL xl xh yl yh) W (hW : Ext w W) => far_c A1 n1 c1 home A2 n2 c2 A3 n3 c3 s kind st cat tick dx dy er lo hi v.x v.y W (hs.ext hW) hv (hcn v hvm)
  have HS := Lib.hid fun (v : Vec) (hvm : v ∈ cornersL xl xh yl yh) W (hW : Ext w W) => refsides_c A1 n1 c1 home A2 n2 c2 A3 n3 c3 s kind st cat tick dx dy er lo hi v.x v.y W (hs.ext hW) hv hk2 (hcn v hvm) _ _ rfl rfl
  dsimp only at *
  generalize orig s ⟨kind, st, cat, tick, dx, dy, er, lo, hi⟩ = o at *
  obtain ⟨fx, fy⟩ := o
  dsimp only at *
  generalize biasLo s ⟨kind, st, cat, tick, dx, dy, er, lo, hi⟩ = bl at *
  generalize biasHi s ⟨kind, st, cat, tick, dx, dy, er, lo, hi⟩ = bh at *
  have k1 : (kind == 1) = true := by simpa using hk
  have k2 : (kind == 2) = false := by simpa using hk2
  have hlen : (cornersL xl xh yl yh).length = 4 := rfl
  have HA1 := Lib.hid (cntP_all (p := fun p => behindB fx fy dx dy p.x p.y) hlen)
  have HA2 := Lib.hid (cntP_all (p := fun p => belowB fx fy dx dy bl p.x p.y) hlen)
  have HA3 := Lib.hid (cntP_all (p := fun p => aboveB fx fy dx dy bh p.x p.y) hlen)
  generalize cornersL xl xh yl yh = L at *
  generalize hG : (L.all (fun p => behindB fx fy dx dy p.x p.y) || L.all (fun p => belowB fx fy dx dy bl p.x p.y) || L.all (fun p => aboveB fx fy dx dy bh p.x p.y)) = G
  have HG := Lib.hid hG
  have Hlen := Lib.hid hlen
  clear hs h0 hr hv hcn hk2 hG hlen hk
  go_enter Tryz.func142, Tryz.ntmps142
  go_wp2_with fail
  refine (HC.out _ (by (repeat' (first | exact Ext.refl _ | assumption | apply Ext.alloc | apply Ext.drew | refine Ext.set ?_ (by dsimp only; omega) _ | refine Ext.trans ?_ (by assumption))))).mono ?_
  rintro e w1 ⟨rfl, h1⟩; obtain ⟨hc_w1, hf_w1, hz_w1⟩ := bcell h1; (repeat (first | rw [World.size_alloc] at hz_w1 | rw [World.size_drew] at hz_w1 | rw [World.size_setCell] at hz_w1)); have : w.heap.size < w1.heap.size := (by omega); have : w.heap.size + 1 < w1.heap.size := (by omega); have : w.heap.size + 2 < w1.heap.size := (by omega)
  go_wp2_with fail
  refine (HR.out _).mono ?_
  rintro e w2 ⟨rfl, h2⟩; obtain ⟨hc_w2, hf_w2, hz_w2⟩ := bcell h2; (repeat (first | rw [World.size_alloc] at hz_w2 | rw [World.size_drew] at hz_w2 | rw [World.size_setCell] at hz_w2)); have : w.heap.size < w2.heap.size := (by omega); have : w.heap.size + 1 < w2.heap.size := (by omega); have : w.heap.size + 2 < w2.heap.size := (by omega)
  go_wp2_with fail
  refine (HL.out _).mono ?_
  rintro e w3 ⟨A, c, rfl, hV, h3⟩
  obtain ⟨hc3, hf3, hz3⟩ := bcell h3
  have e3 : Ext w w3 := by (repeat' (first | exact Ext.refl _ | assumption | apply Ext.alloc | apply Ext.drew | refine Ext.set ?_ (by dsimp only; omega) _ | refine Ext.trans ?_ (by assumption)))
  have HV := Lib.hid hV
  have hw30 : w.heap.size < w3.heap.size := by omega
  have hw31 : w.heap.size + 1 < w3.heap.size := by omega
  have hw3 : w.heap.size + 1 + 1 < w3.heap.size := by omega
  clear hV
  go_wp2_with fail
  go_loopw [8, 9, 10, 12, 13] (fun a1 a2 a3 a4 i wr => ∃ (k z : Nat), k ≤ 4 ∧ i = .int .i64 k ∧ z ≤ k ∧ a4 = .int .i64 z ∧ a1 = .int .i64 (cntP (fun p => behindB fx fy dx dy p.x p.y) L k) ∧ a2 = .int .i64 (cntP (fun p => belowB fx fy dx dy bl p.x p.y) L k) ∧ a3 = .int .i64 (cntP (fun p => aboveB fx fy dx dy bh p.x p.y) L k) ∧ Ext w3 wr) (fun _ _ _ _ i _ => 4 - (intOf i).toNat)
  case atStart => exact ⟨0, 0, Nat.zero_le _, rfl, Nat.le_refl _, rfl, rfl, rfl, rfl, Ext.refl _⟩
  case round =>
    obtain ⟨k, z, hk, rfl, hz, rfl, rfl, rfl, rfl, hb⟩ := hrel
    obtain ⟨hcb, hfb, hzb⟩ := bcell hb
    have hwr0 : w.heap.size < wr.heap.size := by omega
    have hwr1 : w.heap.size + 1 < wr.heap.size := by omega
    have hwr2 : w.heap.size + 1 + 1 < wr.heap.size := by omega
    have l1 := cntP_le (fun p => behindB fx fy dx dy p.x p.y) L k
    have l2 := cntP_le (fun p => belowB fx fy dx dy bl p.x p.y) L k
    have l3 := cntP_le (fun p => aboveB fx fy dx dy bh p.x p.y) L k
    by_cases hlt : k < 4
    · obtain ⟨b, off, x, rfl, HD, hxm, hx⟩ := HV.out.one hlt
      obtain ⟨hx0, hx1⟩ := vecAt.ext hb hx
      have hbl : b < wr.heap.size := World.block_lt_of_cell? wr _ hx0
      have s1 := Lib.hid (cntP_succ (p := fun p => behindB fx fy dx dy p.x p.y) HD.out)
      have s2 := Lib.hid (cntP_succ (p := fun p => belowB fx fy dx dy bl p.x p.y) HD.out)
      have s3 := Lib.hid (cntP_succ (p := fun p => aboveB fx fy dx dy bh p.x p.y) HD.out)
      have HFx := Lib.hid (HF.out x hxm)
      have HSx := Lib.hid (HS.out x hxm)
      have HBx := Lib.hid (show behindB fx fy dx dy x.x x.y = decide (dotD fx fy dx dy x.x x.y ≤ 0) from rfl)
      have HLx := Lib.hid (show belowB fx fy dx dy bl x.x x.y = decide (1000000 * crossD fx fy dx dy x.x x.y < bl * dotD fx fy dx dy x.x x.y) from rfl)
      have HHx := Lib.hid (show aboveB fx fy dx dy bh x.x x.y = decide (bh * dotD fx fy dx dy x.x x.y < 1000000 * crossD fx fy dx dy x.x x.y) from rfl)
      generalize behindB fx fy dx dy x.x x.y = t1 at *
      generalize belowB fx fy dx dy bl x.x x.y = t2 at *
      generalize aboveB fx fy dx dy bh x.x x.y = t3 at *
      generalize cntP (fun p => behindB fx fy dx dy p.x p.y) L k = n1 at *
      generalize cntP (fun p => belowB fx fy dx dy bl p.x p.y) L k = n2 at *
      generalize cntP (fun p => aboveB fx fy dx dy bh p.x p.y) L k = n3 at *
      generalize distD x.x x.y fx fy = N at *
      generalize dotD fx fy dx dy x.x x.y = D at *
      generalize 1000000 * crossD fx fy dx dy x.x x.y = C at *
      generalize hlv : C - bl * D = lv at *
      generalize hhv : bh * D - C = hv at *
      have q1 : t1 = decide (D ≤ 0) := HBx.out
      have q2 : t2 = decide (lv < 0) := by rw [HLx.out, ← hlv, Bool.eq_iff_iff, decide_eq_true_eq, decide_eq_true_eq]; omega
      have q3 : t3 = decide (hv < 0) := by rw [HHx.out, ← hhv, Bool.eq_iff_iff, decide_eq_true_eq, decide_eq_true_eq]; omega
      subst q1 q2 q3
      clear hlv hhv HBx HLx HHx hx
      go_wp2_with fail
      refine wp_region_text (by kernel_rfl) (by kernel_rfl) ?_
      repeat' (first | (refine bl_off (by rfl) ?_; simp only [Act.put, List.setIfInBounds_toArray, List.set_cons_zero, List.set_cons_succ]) | (apply bl_op; rfl; (intro w1 h1; obtain ⟨hc, hf, hz⟩ := bcell h1; go_simp; (try go_bits); (first | exact ⟨rfl, Ext.refl _⟩ | (apply gives_call; first | (go_at_call 185; exact HFx.out _ (by (repeat' (first | exact Ext.refl _ | assumption | apply Ext.alloc | apply Ext.drew | refine Ext.set ?_ (by dsimp only; omega) _ | refine Ext.trans ?_ (by assumption)))))) | (go_invoke; go_simp; apply gives_call; first | (go_at_call 185; exact HFx.out _ (by (repeat' (first | exact Ext.refl _ | assumption | apply Ext.alloc | apply Ext.drew | refine Ext.set ?_ (by dsimp only; omega) _ | refine Ext.trans ?_ (by assumption)))))))); simp only [Act.put, List.setIfInBounds_toArray, List.set_cons_zero, List.set_cons_succ]) | (refine bl_split rfl rfl (fun hx => ?_) (fun hx => ?_) <;> simp only [hx]))
      refine bl_nil ?_
      intro w4 h4
      obtain ⟨hc4, hf4, hz4⟩ := bcell h4
      have hr0 : w.heap.size < w4.heap.size := by omega
      have hr1 : w.heap.size + 1 < w4.heap.size := by omega
      have hr2 : b < w4.heap.size := by omega
      go_wp2_with fail
      refine wp_region_text (by kernel_rfl) (by kernel_rfl) ?_
      repeat' (first | (refine bl_off (by rfl) ?_; simp only [Act.put, List.setIfInBounds_toArray, List.set_cons_zero, List.set_cons_succ]) | (apply bl_op; rfl; (intro w1 h1; obtain ⟨hc, hf, hz⟩ := bcell h1; go_simp; (try go_bits); (first | exact ⟨rfl, Ext.refl _⟩ | (apply gives_call; first | (go_at_call 186; exact HSx.out _ (by (repeat' (first | exact Ext.refl _ | assumption | apply Ext.alloc | apply Ext.drew | refine Ext.set ?_ (by dsimp only; omega) _ | refine Ext.trans ?_ (by assumption)))))) | (go_invoke; go_simp; apply gives_call; first | (go_at_call 186; exact HSx.out _ (by (repeat' (first | exact Ext.refl _ | assumption | apply Ext.alloc | apply Ext.drew | refine Ext.set ?_ (by dsimp only; omega) _ | refine Ext.trans ?_ (by assumption)))))))); simp only [Act.put, List.setIfInBounds_toArray, List.set_cons_zero, List.set_cons_succ]) | (refine bl_split rfl rfl (fun hx => ?_) (fun hx => ?_) <;> simp only [hx]))
      refine bl_nil ?_
      intro w5 h5
      obtain ⟨hc5, hf5, hz5⟩ := bcell h5
      have hr3 : w.heap.size + 1 < w5.heap.size := by omega
      have e5 := Lib.hid (show Ext w3 w5 by (repeat' (first | exact Ext.refl _ | assumption | apply Ext.alloc | apply Ext.drew | refine Ext.set ?_ (by dsimp only; omega) _ | refine Ext.trans ?_ (by assumption))))
      by_cases hD : D ≤ 0 <;> by_cases hLv : lv < 0 <;> by_cases hHv : hv < 0
      all_goals simp only [hD, hLv, hHv, decide_true, decide_false, if_true, if_false, Bool.false_eq_true] at s1 s2 s3
      all_goals go_wp2_with fail
      all_goals go_roundw
      all_goals first
        | (case rel => exact ⟨k + 1, z, by omega, by go_num, by omega, rfl, by rw [s1.out]; go_num, by rw [s2.out]; go_num, by rw [s3.out]; go_num, e5.out⟩)
        | (case rel => exact ⟨k + 1, z + 1, by omega, by go_num, by omega, by go_num, by rw [s1.out]; go_num, by rw [s2.out]; go_num, by rw [s3.out]; go_num, e5.out⟩)
        | (case measure => simp [intOf]; omega)
    · obtain rfl : k = 4 := by omega
      have g1 := HA1.out
      have g2 := HA2.out
      have g3 := HA3.out
      have hG := HG.out
      rw [← g1, ← g2, ← g3] at hG
      generalize cntP (fun p => behindB fx fy dx dy p.x p.y) L 4 = n1 at *
      generalize cntP (fun p => belowB fx fy dx dy bl p.x p.y) L 4 = n2 at *
      generalize cntP (fun p => aboveB fx fy dx dy bh p.x p.y) L 4 = n3 at *
      have HG2 := Lib.hid hG
      clear hG g1 g2 g3 HA1 HA2 HA3 HG
      by_cases m1 : n1 = 4
      · subst m1
        go_wp2_with fail
        go_ret
        exact ⟨ret_b (by rw [← HG2.out]; simp), by (repeat' (first | exact Ext.refl _ | assumption | apply Ext.alloc | apply Ext.drew | refine Ext.set ?_ (by dsimp only; omega) _ | refine Ext.trans ?_ (by assumption)))⟩
      · have m1' : ((n1 : Int) == 4) = false := by simp; omega
        by_cases m2 : n2 = 4
        · subst m2
          go_wp2_with fail
          go_ret
          exact ⟨ret_b (by rw [← HG2.out]; simp), by (repeat' (first | exact Ext.refl _ | assumption | apply Ext.alloc | apply Ext.drew | refine Ext.set ?_ (by dsimp only; omega) _ | refine Ext.trans ?_ (by assumption)))⟩
        · have m2' : ((n2 : Int) == 4) = false := by simp; omega
          by_cases m3 : n3 = 4
          · subst m3
            go_wp2_with fail
            go_ret
            exact ⟨ret_b (by rw [← HG2.out]; simp), by (repeat' (first | exact Ext.refl _ | assumption | apply Ext.alloc | apply Ext.drew | refine Ext.set ?_ (by dsimp only; omega) _ | refine Ext.trans ?_ (by assumption)))⟩
          · have m3' : ((n3 : Int) == 4) = false := by simp; omega
            go_wp2_with fail
            go_ret
            exact ⟨ret_b (by rw [← HG2.out]; simp; omega), by (repeat' (first | exact Ext.refl _ | assumption | apply Ext.alloc | apply Ext.drew | refine Ext.set ?_ (by dsimp only; omega) _ | refine Ext.trans ?_ (by assumption)))⟩
end Go.Proofs.YtfniicgoeljmdaaGreat
