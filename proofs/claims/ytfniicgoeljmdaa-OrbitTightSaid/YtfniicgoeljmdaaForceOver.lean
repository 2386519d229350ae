/- What moves a small body in an area: the program. No condition. -/
import Derived.Test.YtfniicgoeljmdaaForcePulls
namespace Go.Proofs.Ytfniicgoeljmdaa
open Go.RowKit Go.Shelf
attribute [local go_sem] Oper.semAt_some

theorem fAsk_ok {l : List Body} {home : Int} {d : Drf} {tick : Int} {a : Ar} (h : fAskErr l home d tick a = 0) : wldErr ⟨l, home⟩ = 0 ∧ driftErr d = 0 ∧ (0 ≤ tick ∧ tick ≤ 1073741824) ∧ SmA 33554432 a := by
  unfold fAskErr at h
  by_cases h1 : wldErr ⟨l, home⟩ = 0
  · rw [if_pos h1] at h
    by_cases h2 : driftErr d = 0
    · rw [if_pos h2] at h
      cases h3 : within tick 0 1073741824
      · rw [h3] at h; simp at h
      · rw [h3, if_pos rfl] at h
        by_cases h4 : areaErr a = 0
        · rw [if_pos h4] at h
          cases h5 : inPlace a.x && inPlace a.y
          · rw [h5] at h; simp at h
          · have h6 : sp2Err a.x a.y = 0 := by
              unfold areaErr at h4
              by_cases h6 : sp2Err a.x a.y = 0
              · exact h6
              · rw [if_neg h6] at h4; exact absurd h4 h6
            have h7 : spErr a.x = 0 ∧ spErr a.y = 0 := by
              unfold sp2Err at h6
              by_cases h7 : spErr a.x = 0
              · rw [if_pos h7] at h6; exact ⟨h7, h6⟩
              · rw [if_neg h7] at h6; exact absurd h6 h7
            have h8 := spErr_ok.1 h7.1
            have h9 := spErr_ok.1 h7.2
            simp only [inPlace, Bool.and_eq_true, decide_eq_true_eq] at h5
            exact ⟨h1, h2, (within_iff _ _ _).1 h3, ⟨by omega, by omega, by omega⟩, ⟨by omega, by omega, by omega⟩⟩
        · rw [if_neg h4] at h; exact absurd h h4
    · rw [if_neg h2] at h; exact absurd h h2
  · rw [if_neg h1] at h; exact absurd h h1
theorem wld_bodies {l : List Body} {home : Int} (h : wldErr ⟨l, home⟩ = 0) : l ≠ [] ∧ l.length ≤ 8 ∧ ∀ b ∈ l, 0 ≤ b.mu ∧ b.mu ≤ 1125899906842624 ∧ 0 ≤ b.radius ∧ b.radius ≤ 1048576 := by
  obtain ⟨⟨k, _, hk⟩, h2, h3⟩ := wld_ok h
  refine ⟨fun e => by subst e; simp at hk, h2, fun b hb => ?_⟩
  have := body_ok (h3 b hb)
  omega
theorem at_place (l : List Body) (home tick : Int) : ∀ k : Nat, placeP (atM l home k tick) := by
  intro k
  unfold atM
  by_cases h : wldErr ⟨l, home⟩ = 0 ∧ (0 ≤ (k : Int) ∧ (k : Int) < l.length) ∧ within tick 0 1073741824 = true
  · rw [if_pos h]
    have hk : k < l.length := by omega
    have hb := body_ok ((wld_ok h.1).2.2 l[k] (List.getElem_mem hk))
    have hm := hb.2.2.2.2 _ (trackAt_mem hb.1 tick)
    rw [Int.toNat_natCast, List.getD_eq_getElem?_getD, List.getElem?_eq_getElem hk, Option.getD_some]
    generalize trackAt _ _ = p at *
    unfold near within at hm
    simp only [Bool.and_eq_true, decide_eq_true_eq] at hm
    unfold placeP
    omega
  · rw [if_neg h]
    unfold placeP
    dsimp only
    omega

theorem fSum2_c (a b : Ar) (B : Nat) (T : TypeId) (W : World) (ha : SmA 18014398509481984 a) (hb : SmA 18014398509481984 b) (hB : Blk W B T #[.int .i64 a.x.lo, .int .i64 a.x.hi, .int .i64 a.y.lo, .int .i64 a.y.hi, .int .i64 b.x.lo, .int .i64 b.x.hi, .int .i64 b.y.lo, .int .i64 b.y.hi]) :
    Calls Try.prog 39 #[.slice (some ⟨B, 0, none⟩) 2 2] W fun e w' => e = .returned (arV (sumA a b)) ∧ Ext W w' := by
  have z : SmA 0 ⟨⟨0, 0⟩, ⟨0, 0⟩⟩ := by simp [SmA, Sm]
  have h := fSum_c (some ⟨B, 0, none⟩) 2 2 [a, b] W (ar_slice [a, b] hB (by simp)) (by intro s hs; simp only [List.mem_cons, List.not_mem_nil, or_false] at hs; rcases hs with rfl | rfl; exact ha.mono (by omega); exact hb.mono (by omega)) (by
    intro k
    rcases k with _ | _ | k
    · exact z.mono (by omega)
    · exact (z.add ha).mono (by omega)
    · simp only [List.take_succ_cons, List.take_nil]; exact ((z.add ha).add hb).mono (by omega))
  have e : ([a, b] : List Ar).foldl sumA ⟨⟨0, 0⟩, ⟨0, 0⟩⟩ = sumA a b := by simp only [List.foldl_cons, List.foldl_nil, sumA_zero]
  rw [e] at h
  exact h
theorem fSum3_c (a b c : Ar) (B : Nat) (T : TypeId) (W : World) (ha : SmA 18014398509481984 a) (hb : SmA 18014398509481984 b) (hc : SmA 18014398509481984 c) (hB : Blk W B T #[.int .i64 a.x.lo, .int .i64 a.x.hi, .int .i64 a.y.lo, .int .i64 a.y.hi, .int .i64 b.x.lo, .int .i64 b.x.hi, .int .i64 b.y.lo, .int .i64 b.y.hi, .int .i64 c.x.lo, .int .i64 c.x.hi, .int .i64 c.y.lo, .int .i64 c.y.hi]) :
    Calls Try.prog 39 #[.slice (some ⟨B, 0, none⟩) 3 3] W fun e w' => e = .returned (arV (sumA (sumA a b) c)) ∧ Ext W w' := by
  have z : SmA 0 ⟨⟨0, 0⟩, ⟨0, 0⟩⟩ := by simp [SmA, Sm]
  have h := fSum_c (some ⟨B, 0, none⟩) 3 3 [a, b, c] W (ar_slice [a, b, c] hB (by simp)) (by intro s hs; simp only [List.mem_cons, List.not_mem_nil, or_false] at hs; rcases hs with rfl | rfl | rfl; exact ha.mono (by omega); exact hb.mono (by omega); exact hc.mono (by omega)) (by
    intro k
    rcases k with _ | _ | _ | k
    · exact z.mono (by omega)
    · exact (z.add ha).mono (by omega)
    · exact ((z.add ha).add hb).mono (by omega)
    · simp only [List.take_succ_cons, List.take_nil]; exact (((z.add ha).add hb).add hc).mono (by omega))
  have e : ([a, b, c] : List Ar).foldl sumA ⟨⟨0, 0⟩, ⟨0, 0⟩⟩ = sumA (sumA a b) c := by simp only [List.foldl_cons, List.foldl_nil, sumA_zero]
  rw [e] at h
  exact h
set_option maxHeartbeats 1000000 in
theorem fOver_no (A : Option Addr) (n c : Nat) (home : Int) (l : List Body) (d : Drf) (tick : Int) (a : Ar) (w : World) (hl : Bodies w A n l) (h0 : fAskErr l home d tick a ≠ 0) :
    Calls Try.prog 29 #[.agg #[.slice A n c, .int .i64 home], .agg #[.int .i64 d.light.lo, .int .i64 d.light.hi, .int .i64 d.heat.lo, .int .i64 d.heat.hi, .int .i64 d.gas], .int .i64 tick, .agg #[.int .i64 a.x.lo, .int .i64 a.x.hi, .int .i64 a.y.lo, .int .i64 a.y.hi]] w fun e w' =>
      e = .returned (.tuple #[.agg #[.int .i64 0, .int .i64 0, .int .i64 0, .int .i64 0], .int .i64 (fAskErr l home d tick a)]) ∧ Ext w w' := by
  have H := Lib.hid fun W (hW : Ext w W) => fAsked_c A n c home l d.light.lo d.light.hi d.heat.lo d.heat.hi d.gas tick a.x.lo a.x.hi a.y.lo a.y.hi W (Bodies.ext hW hl)
  obtain ⟨⟨ll, lh⟩, ⟨hl', hh⟩, g⟩ := d
  obtain ⟨⟨xl, xh⟩, yl, yh⟩ := a
  dsimp only at H h0 ⊢
  generalize fAskErr _ _ _ _ _ = E at *
  go_enter Try.func29, Try.ntmps29
  go_wp2_with fail
  refine (H.out _ ext_by).mono ?_
  rintro e w1 ⟨rfl, h1⟩
  obtain ⟨hc_w1, hf_w1, hz_w1⟩ := bcell h1; (try simp only [szA] at hz_w1); (try have := wz0 w w1); (try have := wz1 w w1); (try have := wz2 w w1); (try have := wz3 w w1); (try have := wz4 w w1)
  go_wp2_with fail
  (try simp only [Exit.inBlock, Exit.then]); apply bodyPost_ret; (focus (simp only [results, Try.results29]; go_simp; try rfl)); rfl
  exact ⟨rfl, ext_by⟩
set_option maxRecDepth 100000 in
set_option maxHeartbeats 8000000 in
theorem fOver_ok (A : Option Addr) (n c : Nat) (home : Int) (l : List Body) (d : Drf) (tick : Int) (a : Ar) (w : World) (hl : Bodies w A n l) (h0 : fAskErr l home d tick a = 0) :
    Calls Try.prog 29 #[.agg #[.slice A n c, .int .i64 home], .agg #[.int .i64 d.light.lo, .int .i64 d.light.hi, .int .i64 d.heat.lo, .int .i64 d.heat.hi, .int .i64 d.gas], .int .i64 tick, .agg #[.int .i64 a.x.lo, .int .i64 a.x.hi, .int .i64 a.y.lo, .int .i64 a.y.hi]] w fun e w' =>
      e = .returned (.tuple #[arV (overA l home d tick a), .int .i64 0]) ∧ Ext w w' := by
  obtain ⟨k1, k2, k3, k4⟩ := fAsk_ok h0
  obtain ⟨m1, m2, m3⟩ := wld_bodies k1
  have hgas := gasM_sm k2
  have hdr := driftErr_ok k2
  have H := Lib.hid fun W (hW : Ext w W) => fAsked_c A n c home l d.light.lo d.light.hi d.heat.lo d.heat.hi d.gas tick a.x.lo a.x.hi a.y.lo a.y.hi W (Bodies.ext hW hl)
  have HIT := Lib.hid fun g1 g2 g3 W (hE : Ext w W) => fPulls_iter g1 g2 g3 A n c home tick l a w W hE hl m3 (at_place l home tick) k4
  have HPL := Lib.hid fun W => fPulls_c A n c home tick a.x.lo a.x.hi a.y.lo a.y.hi W
  have hacc := over_acc (l := l) home d tick a m1
  have hps : ∀ p ∈ pullsM l home tick a, SmA 1048576 p.2 := pullsF_sm l home tick a l 0
  have hlen : (pullsM l home tick a).length ≤ 8 := by rw [pullsM_len]; exact m2
  have HLI := Lib.hid fun (s : Ar) W => fLight_c d s W
  have HHE := Lib.hid fun (s : Ar) W => fHeat_c d s W
  rw [show fAskErr l home d tick ⟨⟨a.x.lo, a.x.hi⟩, ⟨a.y.lo, a.y.hi⟩⟩ = 0 from h0] at H
  generalize pullsM l home tick a = L at *
  obtain ⟨T, hT⟩ : ∃ T, overA l home d tick a = T := ⟨_, rfl⟩
  rw [hT] at hacc ⊢
  obtain ⟨⟨xl, xh⟩, yl, yh⟩ := a
  have HD : Hid (∃ q, d = q) := Lib.hid ⟨d, rfl⟩
  obtain ⟨DL, hDL⟩ : ∃ f : Ar → Ar, f = lightM d := ⟨_, rfl⟩
  obtain ⟨DH, hDH⟩ : ∃ f : Ar → Ar, f = heatM d := ⟨_, rfl⟩
  have HACC : Hid (L.foldl (accP d) (gasM d) = T) := hacc
  have HPS := Lib.hid hps
  have HLE := Lib.hid hlen
  have HGS := Lib.hid hgas
  clear hT hacc hps hlen hgas k1 k2 k3 k4 m1 m2 m3 h0 hl HD hDL hDH
  refine (callsIn_wide (n := 6)).1 (callsIn_of_wp_marks Try.func29 rfl trivial ?_)
  simp only [Try.ntmps29, List.size_toArray, List.length_cons, List.length_nil, Nat.reduceAdd, Nat.reduceSub, Array.replicate_succ, Array.replicate_zero, List.push_toArray, List.append_toArray, List.nil_append, List.cons_append]
  refine wpIn_wide.2 ?_
  obtain ⟨hd1, hd2, hd3, hd4, hd5⟩ := hdr
  dsimp only at H HPL
  go_wp2_with fail
  refine (H.out _ ext_by).mono ?_
  rintro e w1 ⟨rfl, h1⟩
  obtain ⟨hc_w1, hf_w1, hz_w1⟩ := bcell h1; (try simp only [szA] at hz_w1); (try have := wz0 w w1); (try have := wz1 w w1); (try have := wz2 w w1); (try have := wz3 w w1); (try have := wz4 w w1)
  go_wp2_with fail
  refine (HPL.out _).mono ?_
  rintro e w2 ⟨g1, g2, g3, rfl, h2, hg, hB1, hB2, hB3⟩
  obtain ⟨hc_w2, hf_w2, hz_w2⟩ := bcell h2; (try simp only [szA] at hz_w2); (try have := wz0 w w2); (try have := wz1 w w2); (try have := wz2 w w2); (try have := wz3 w w2); (try have := wz4 w w2)
  go_wp2_with fail
  have hBD : Blk w2 (w.heap.size + 1) 34 #[.int .i64 d.light.lo, .int .i64 d.light.hi, .int .i64 d.heat.lo, .int .i64 d.heat.hi, .int .i64 d.gas] := Blk.ext ((((Blk.ext (((Blk.newAt (by simp)).alloc _).alloc _) h1).alloc _).alloc _)) h2
  have hB8 : Blk w2 (w.heap.size + 1 + 1 + 1) 84 #[.int .i64 0, .int .i64 0, .int .i64 0, .int .i64 0] := Blk.ext (((Blk.ext (Blk.newAt (by simp)) h1).alloc _).alloc _) h2
  have hB12 : Blk w2 (w1.heap.size + 1) 84 #[.int .i64 (gasM d).x.lo, .int .i64 (gasM d).x.hi, .int .i64 (gasM d).y.lo, .int .i64 (gasM d).y.hi] := Blk.ext (Blk.newAt (by simp)) h2
  have e2 : Ext w w2 := ext_by
  obtain ⟨b12, h12⟩ : ∃ b, b = w1.heap.size + 1 := ⟨_, rfl⟩
  rw [← h12] at hB12
  rw [← h12]
  have o1 : w.heap.size + 1 + 1 + 1 < b12 := by omega
  have o2 : b12 < w2.heap.size := hB12.lt
  have o3 : b12 ≠ g1 ∧ b12 ≠ g2 ∧ b12 ≠ g3 := by simp only [World.size_alloc] at hg; omega
  have hit := HIT.out g1 g2 g3 w2 e2 hB1 hB2 hB3
  clear h1 h2 hc_w1 hf_w1 hz_w1 hc_w2 hf_w2 hg h12 HIT HPL H hB1 hB2 hB3
  refine wp_range_box2 (nb := w.heap.size) hit rfl Try.call48 (by omega) (fun _ => rfl)
    (fun pre W => ((∀ p ∈ pre, p ∈ L) ∧ Ext w W) ∧ Blk W (w.heap.size + 1) 34 #[.int .i64 d.light.lo, .int .i64 d.light.hi, .int .i64 d.heat.lo, .int .i64 d.heat.hi, .int .i64 d.gas] ∧ Blk W (w.heap.size + 1 + 1 + 1) 84 #[.int .i64 0, .int .i64 0, .int .i64 0, .int .i64 0] ∧
      Blk W b12 84 #[.int .i64 (pre.foldl (accP d) (gasM d)).x.lo, .int .i64 (pre.foldl (accP d) (gasM d)).x.hi, .int .i64 (pre.foldl (accP d) (gasM d)).y.lo, .int .i64 (pre.foldl (accP d) (gasM d)).y.hi])
    (fun _ _ _ => False)
    (OwnFrom.and (OwnFrom.and (ownFrom_pure _ _) (ownFrom_ext (by omega))) (OwnFrom.and (ownFrom_blk _ _ _ _) (OwnFrom.and (ownFrom_blk _ _ _ _) (ownFrom_blk _ _ _ _))))
    (fun c => fun s W W' row hs hgr hr => hs)
    ⟨⟨by simp, e2⟩, hBD, hB8, hB12⟩
    (fun x b t => (((t.setIfInBounds 37 (.int .i64 x.1)).setIfInBounds 38 (.agg #[.int .i64 x.2.x.lo, .int .i64 x.2.x.hi, .int .i64 x.2.y.lo, .int .i64 x.2.y.hi])).setIfInBounds 13 (.int .i64 x.1)).setIfInBounds 14 (.pointer (some ⟨b, 0, none⟩))) 84 (fun x => #[.int .i64 x.2.x.lo, .int .i64 x.2.x.hi, .int .i64 x.2.y.lo, .int .i64 x.2.y.hi]) ?assign ?body ?done ?stop
  case assign =>
    intro l n x W K hK
    simp only [List.setIfInBounds_toArray, List.set_cons_zero, List.set_cons_succ] at hK
    simp only [pullE]
    gi_wp2
    exact hK
  case body =>
    rintro lb n pre x bx W hlt hx hb hBx hW ⟨⟨hp, he⟩, hbD, hb8, hb12⟩
    simp only [List.setIfInBounds_toArray, List.set_cons_zero, List.set_cons_succ]
    have hacs := acc_sm d pre (gasM d) 1000 HGS.out (fun p h => HPS.out p (hp p h))
    have hxs := HPS.out x hx
    have hacs2 : SmA 17000000000000000 (pre.foldl (accP d) (gasM d)) := hacs.mono (by have := HLE.out; omega)
    have hnew : (pre ++ [x]).foldl (accP d) (gasM d) = accP d (pre.foldl (accP d) (gasM d)) x := by rw [List.foldl_append]; rfl
    clear hacs
    generalize pre.foldl (accP d) (gasM d) = o at *
    obtain ⟨xi, p⟩ := x
    dsimp only at hxs hBx
    have hsm := hacs2.add hxs
    have HS2 := Lib.hid fun B T W hB => fSum2_c o p B T W (hacs2.mono (by omega)) (hxs.mono (by omega)) hB
    have HS3 := Lib.hid fun B T W hB => fSum3_c (sumA o p) (lightM d p) (heatM d p) B T W (hsm.mono (by omega)) ((lightM_sm d p).mono (by omega)) ((heatM_sm d p).mono (by omega)) hB
    have HLI' := Lib.hid fun W => HLI.out p W
    have HHE' := Lib.hid fun W => HHE.out p W
    have HNEW := Lib.hid hnew
    have HP := Lib.hid hp
    have HX := Lib.hid hx
    obtain ⟨q, hq⟩ : ∃ q, sumA o p = q := ⟨_, rfl⟩
    rw [hq] at HS2 HS3
    have HQ := Lib.hid hq
    clear hq
    obtain ⟨⟨oxl, oxh⟩, oyl, oyh⟩ := o
    obtain ⟨⟨pxl, pxh⟩, pyl, pyh⟩ := p
    dsimp only at hBx hb12 HS2
    have HBD := Lib.hid hbD
    have HB8 := Lib.hid hb8
    have HB12 := Lib.hid hb12
    have HBX := Lib.hid hBx
    have HE := Lib.hid he
    have c12 := hb12.cell
    have cx := hBx.cell
    have l12 := hb12.lt
    have lx := hBx.lt
    have oo : b12 ≠ bx := by omega
    clear hacs2 hxs hsm hnew hp hx hbD hb8 hb12 hBx he
    gi_wp2
    refine ⟨trivial, ?_⟩
    refine ⟨fun h => (by cases h), (CallsIn.inRound lb (callsIn_wide.2 (HS2.out _ 84 _ (Blk.newAt rfl)))).mono ?_⟩
    rintro e w' ⟨rfl, h1⟩
    have E1 : Ext W w' := ext_by
    have C12 := HB12.out.ext E1
    have c12' := C12.cell
    have f12' := C12.frozen
    have l12' := C12.lt
    clear c12 cx l12 lx h1
    have HK1 := Lib.hid (E1.keepsFrom w2.heap.size)
    have HKp := Lib.hid (E1.kpX (nb := w.heap.size) (by omega) [g1, g2, g3])
    have HEw := Lib.hid (ext_set2 (b := b12) (i := 2) (j := 3) (u := .int .i64 q.y.lo) (v := .int .i64 q.y.hi) (ext_set2 (b := b12) (i := 0) (j := 1) (u := .int .i64 q.x.lo) (v := .int .i64 q.x.hi) (HE.out.trans E1) (by omega)) (by omega))
    have HD4 := Lib.hid (blk_far2 (b := b12) (i := 2) (j := 3) (u := .int .i64 q.y.lo) (v := .int .i64 q.y.hi) (blk_far2 (b := b12) (i := 0) (j := 1) (u := .int .i64 q.x.lo) (v := .int .i64 q.x.hi) (HBD.out.ext E1) (by omega)) (by omega))
    have H84 := Lib.hid (blk_far2 (b := b12) (i := 2) (j := 3) (u := .int .i64 q.y.lo) (v := .int .i64 q.y.hi) (blk_far2 (b := b12) (i := 0) (j := 1) (u := .int .i64 q.x.lo) (v := .int .i64 q.x.hi) (HB8.out.ext E1) (by omega)) (by omega))
    have HX4 := Lib.hid (blk_far2 (b := b12) (i := 2) (j := 3) (u := .int .i64 q.y.lo) (v := .int .i64 q.y.hi) (blk_far2 (b := b12) (i := 0) (j := 1) (u := .int .i64 q.x.lo) (v := .int .i64 q.x.hi) (HBX.out.ext E1) (by omega)) (by omega))
    have H124 : Hid (Blk ((((w'.setCell ⟨b12, 0, none⟩ (.int .i64 q.x.lo)).setCell ⟨b12, 1, none⟩ (.int .i64 q.x.hi)).setCell ⟨b12, 2, none⟩ (.int .i64 q.y.lo)).setCell ⟨b12, 3, none⟩ (.int .i64 q.y.hi)) b12 84 #[.int .i64 q.x.lo, .int .i64 q.x.hi, .int .i64 q.y.lo, .int .i64 q.y.hi]) := blk_set2 (blk_set2 C12 rfl) rfl
    have HKs : Hid (KeepsFrom w2.heap.size W ((((w'.setCell ⟨b12, 0, none⟩ (.int .i64 q.x.lo)).setCell ⟨b12, 1, none⟩ (.int .i64 q.x.hi)).setCell ⟨b12, 2, none⟩ (.int .i64 q.y.lo)).setCell ⟨b12, 3, none⟩ (.int .i64 q.y.hi))) := HK1.out.trans (((KeepsOthers.setCell _ _ _).from _).trans (((KeepsOthers.setCell _ _ _).from _).trans (((KeepsOthers.setCell _ _ _).from _).trans ((KeepsOthers.setCell _ _ _).from _))))
    have HKq : Hid (KpX w.heap.size [g1, g2, g3] W ((((w'.setCell ⟨b12, 0, none⟩ (.int .i64 q.x.lo)).setCell ⟨b12, 1, none⟩ (.int .i64 q.x.hi)).setCell ⟨b12, 2, none⟩ (.int .i64 q.y.lo)).setCell ⟨b12, 3, none⟩ (.int .i64 q.y.hi))) :=
      (((HKp.out.set (by dsimp only; omega) (by simp; omega) _).set (by dsimp only; omega) (by simp; omega) _).set (by dsimp only; omega) (by simp; omega) _).set (by dsimp only; omega) (by simp; omega) _
    have Hpp : Hid (∀ p ∈ pre ++ [(xi, (⟨⟨pxl, pxh⟩, ⟨pyl, pyh⟩⟩ : Ar))], p ∈ L) := by
      intro v hv
      rcases List.mem_append.1 hv with h | h
      · exact HP.out v h
      · simp at h; subst h; exact HX.out
    by_cases hxi : xi = 0
    · have hxz : ((xi : Int) == 0) = true := by simp [hxi]
      have hacc : accP d ⟨⟨oxl, oxh⟩, ⟨oyl, oyh⟩⟩ (xi, ⟨⟨pxl, pxh⟩, ⟨pyl, pyh⟩⟩) = sumA (sumA (sumA ⟨⟨oxl, oxh⟩, ⟨oyl, oyh⟩⟩ ⟨⟨pxl, pxh⟩, ⟨pyl, pyh⟩⟩) (lightM d ⟨⟨pxl, pxh⟩, ⟨pyl, pyh⟩⟩)) (heatM d ⟨⟨pxl, pxh⟩, ⟨pyl, pyh⟩⟩) := by rw [accP, if_pos hxi]
      have HAC := Lib.hid hacc
      clear hxi hacc
      gi_wp2
      refine name_world _ ?_
      intro W4 hW4
      rw [← hW4] at HEw HD4 H84 HX4 H124 HKs HKq
      clear hW4 c12' f12' l12' C12 E1 HK1 HKp
      have cd := HD4.out.cell
      have cx := HX4.out.cell
      have c12 := H124.out.cell
      have ld := HD4.out.lt
      have lx := HX4.out.lt
      have l12 := H124.out.lt
      refine wpIn_region_forced (plain_round lb) 7 (Ext _) (Stable.ext _) (Ext.drew (Ext.refl _)) (by kernel_rfl) (by kernel_rfl) (by kernel_rfl) ?_
      simp only [List.take_succ_cons, List.take_zero, List.drop_succ_cons, List.drop_zero]
      (repeat' (first | (refine bl_off (by rfl) ?_; simp only [putX]) | (apply bl_op; rfl; (intro w1 h1; obtain ⟨hc, hf, hz⟩ := bcell h1; go_simp; (try go_bits); (first | exact ⟨rfl, Ext.refl _⟩ | (apply gives_call; first | (go_at_call 40; exact HLI'.out _) | (go_at_call 41; exact HHE'.out _)) | (go_invoke; go_simp; apply gives_call; first | (go_at_call 40; exact HLI'.out _) | (go_at_call 41; exact HHE'.out _)))); simp only [putX]) | (refine bl_split rfl rfl (fun hx => ?_) (fun hx => ?_) <;> simp only [hx])))
      refine bl_nil ?_
      intro w5 h5
      have F12 := H124.out.ext h5
      have c12' := F12.cell
      have f12' := F12.frozen
      have l12' := F12.lt
      have HD5 := Lib.hid (HD4.out.ext h5)
      have H85 := Lib.hid (H84.out.ext h5)
      have HE5 := Lib.hid (HEw.out.trans h5)
      have HK5 := Lib.hid (HKs.out.trans (h5.keepsFrom w2.heap.size))
      have HQ5 := Lib.hid (HKq.out.ext h5 (Nat.le_trans (by omega : w.heap.size ≤ b12) (Nat.le_of_lt l12)))
      clear cd cx c12 ld lx l12 h5 HKs HKq HEw HD4 H84 HX4 H124
      have HF := Lib.hid F12
      clear F12
      gi_wp2
      refine ⟨trivial, ?_⟩
      refine ⟨fun h => (by cases h), (CallsIn.inRound lb (callsIn_wide.2 (HS3.out _ 84 _ (Blk.newAt rfl)))).mono ?_⟩
      rintro e w6 ⟨rfl, h6⟩
      have E6 : Ext w5 w6 := ext_by
      have G12 := HF.out.ext E6
      have GD := Lib.hid (HD5.out.ext E6)
      have G8 := Lib.hid (H85.out.ext E6)
      have GE := Lib.hid (HE5.out.trans E6)
      have GK := Lib.hid (HK5.out.trans (E6.keepsFrom w2.heap.size))
      have GQ := Lib.hid (HQ5.out.ext E6 (Nat.le_trans (by omega : w.heap.size ≤ b12) (Nat.le_of_lt l12')))
      clear c12' f12' l12' h6 HF HD5 H85 HE5 HK5 HQ5 E6
      have c12 := G12.cell
      have f12 := G12.frozen
      have l12 := G12.lt
      generalize hqq : sumA (sumA q (lightM d ⟨⟨pxl, pxh⟩, ⟨pyl, pyh⟩⟩)) (heatM d ⟨⟨pxl, pxh⟩, ⟨pyl, pyh⟩⟩) = qq at *
      have HQQ := Lib.hid hqq
      clear hqq
      gi_wp2
      refine ⟨GK.out.trans (((KeepsOthers.setCell _ _ _).from _).trans (((KeepsOthers.setCell _ _ _).from _).trans (((KeepsOthers.setCell _ _ _).from _).trans ((KeepsOthers.setCell _ _ _).from _)))),
        (((GQ.out.set (by dsimp only; omega) (by simp; omega) _).set (by dsimp only; omega) (by simp; omega) _).set (by dsimp only; omega) (by simp; omega) _).set (by dsimp only; omega) (by simp; omega) _,
        ⟨Hpp.out, ext_set2 (ext_set2 GE.out (by omega)) (by omega)⟩, blk_far2 (blk_far2 GD.out (by omega)) (by omega), blk_far2 (blk_far2 G8.out (by omega)) (by omega), ?_⟩
      rw [HNEW.out, HAC.out, HQ.out, HQQ.out]
      exact blk_set2 (blk_set2 G12 rfl) rfl
    · have hxz : ((xi : Int) == 0) = false := by simp; omega
      have hacc : accP d ⟨⟨oxl, oxh⟩, ⟨oyl, oyh⟩⟩ (xi, ⟨⟨pxl, pxh⟩, ⟨pyl, pyh⟩⟩) = sumA ⟨⟨oxl, oxh⟩, ⟨oyl, oyh⟩⟩ ⟨⟨pxl, pxh⟩, ⟨pyl, pyh⟩⟩ := by rw [accP, if_neg hxi]
      have HAC := Lib.hid hacc
      clear hxi hacc
      gi_wp2
      refine ⟨HKs.out, HKq.out, ⟨Hpp.out, HEw.out⟩, HD4.out, H84.out, ?_⟩
      rw [HNEW.out, HAC.out, HQ.out]
      exact H124.out
  case done =>
    rintro D W hD ⟨⟨hp, he⟩, hbD, hb8, hb12⟩ hK
    rw [HACC.out] at hb12
    obtain ⟨⟨txl, txh⟩, tyl, tyh⟩ := T
    dsimp only at hb12
    have c8 := hb8.cell
    have f8 := hb8.frozen
    have l8 := hb8.lt
    have c12 := hb12.cell
    have l12 := hb12.lt
    have n1 : w.heap.size + 1 + 1 + 1 ≠ D := by omega
    dsimp only
    go_wp2_with fail
    refine ⟨by simp, .inl ⟨_, _, rfl, run_takeDeferred (by rw [Below.heap_setCell _ _ _ _ (fun e => n1 e.symm), Below.heap_setCell _ _ _ _ (fun e => n1 e.symm), Below.heap_setCell _ _ _ _ (fun e => n1 e.symm), Below.heap_setCell _ _ _ _ (fun e => n1 e.symm)]; exact hK), ?_⟩⟩
    have hB6 := (Blk.put (o := Obj.deferred none) ((((hb8.set_ 0 (.int .i64 txl)).set_ 1 (.int .i64 txh)).set_ 2 (.int .i64 tyl)).set_ 3 (.int .i64 tyh)) n1).cell
    refine ⟨_, ?_, rfl, Ext.put (ext_set2 (ext_set2 he (by omega)) (by omega)) (by omega)⟩
    simp only [results, Try.results29]
    go_simp
  case stop => exact fun D c pre W h1 h2 h3 => h3.elim
end Go.Proofs.Ytfniicgoeljmdaa
