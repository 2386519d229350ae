/- Possible successors made of numbers. No condition. Truths made of numbers. No condition. -/
import Derived.Test.YtfniicgoeljmdaaGreatMadeFour
import Derived.Test.YtfniicgoeljmdaaGreatRefOver
import Derived.Test.YtfniicgoeljmdaaGreatStep
import Derived.Test.YtfniicgoeljmdaaGreatWitness
import Derived.Test.YtfniicgoeljmdaaGreatMade
namespace Go.Proofs.YtfniicgoeljmdaaGreat
open Go.RowKit

theorem over_bd {l : List Body} {home : Int} {d : Drf} {tick : Int} {a : Ar} (h : wdErr l home d = 0) : SmA 3000000000000000 (overM l home d tick a).a := by
  unfold overM
  split
  · exact (overA_sm h).mono (by omega)
  · unfold SmA Sm; dsimp only; omega
set_option maxRecDepth 4000 in
set_option maxHeartbeats 4000000 in
theorem SuccessorOf_c (wb : World) (g : Nat) (B : Int) (A : Option Addr) (n c : Nat) (home : Int) (l : List Body) (d : Drf) (tick x y u v : Int) (w : World) (hr : IsRing wb w g B) (hB : B ≤ 800000000) (hl : Bodies w A n l) (hd : wdErr l home d = 0)
    (hb : (-1000000000000000000 ≤ x ∧ x ≤ 1000000000000000000) ∧ (-1000000000000000000 ≤ y ∧ y ≤ 1000000000000000000) ∧ (-1000000000000000000 ≤ u ∧ u ≤ 1000000000000000000) ∧ -1000000000000000000 ≤ v ∧ v ≤ 1000000000000000000) :
    Calls Tryz.prog 29 #[.pointer (some ⟨g, 0, none⟩), .agg #[.slice A n c, .int .i64 home], .agg #[.int .i64 d.light.lo, .int .i64 d.light.hi, .int .i64 d.heat.lo, .int .i64 d.heat.hi, .int .i64 d.gas], .int .i64 tick, .agg #[.int .i64 x, .int .i64 y, .int .i64 u, .int .i64 v]] w fun e w' =>
      ∃ x' y' u' v', e = .returned (.agg #[.int .i64 x', .int .i64 y', .int .i64 u', .int .i64 v']) ∧ (((overM l home d tick ⟨⟨x, x⟩, ⟨y, y⟩⟩).a.x.lo ≤ u' - u ∧ u' - u ≤ (overM l home d tick ⟨⟨x, x⟩, ⟨y, y⟩⟩).a.x.hi) ∧ ((overM l home d tick ⟨⟨x, x⟩, ⟨y, y⟩⟩).a.y.lo ≤ v' - v ∧ v' - v ≤ (overM l home d tick ⟨⟨x, x⟩, ⟨y, y⟩⟩).a.y.hi) ∧ x' = x + u' ∧ y' = y + v') ∧ Wr w g w' ∧ IsRing wb w' g (B + 8) := by
  have hg := hr.lt
  have hge := hr.ge
  have hsz := hr.ext.size
  have HP := Lib.hid fun W (hW : Ext w W) => gPullAt_c A n c home l d tick x y W (Bodies.ext hW hl)
  have ho := over_bd (tick := tick) (a := ⟨⟨x, x⟩, ⟨y, y⟩⟩) hd
  generalize overM l home d tick ⟨⟨x, x⟩, ⟨y, y⟩⟩ = R at *
  obtain ⟨⟨⟨al, ah⟩, bl, bh⟩, E⟩ := R
  obtain ⟨⟨ll, lh⟩, ⟨el, eh⟩, gs⟩ := d
  unfold SmA Sm at ho
  dsimp only at ho HP ⊢
  obtain ⟨⟨o1, o2, o3⟩, o4, o5, o6⟩ := ho
  obtain ⟨⟨x1, x2⟩, ⟨y1, y2⟩, ⟨u1, u2⟩, v1, v2⟩ := hb
  have hb3 : w.heap.size + 1 + 1 + 1 ≠ g := by omega
  clear hl hd
  go_enter Tryz.func29, Tryz.ntmps29
  go_wp2_with fail
  refine (HP.out _ ext_by).mono ?_
  rintro e w1 ⟨rfl, h1⟩
  have E1 : Ext w w1 := ext_by
  have S1 : Blk w1 (w.heap.size + 1 + 1) 30 #[.int .i64 x, .int .i64 y, .int .i64 u, .int .i64 v] := ((Blk.newAt (by simp)).alloc _).ext h1
  have R1 : Blk w1 (w.heap.size + 1 + 1 + 1) 30 #[.int .i64 0, .int .i64 0, .int .i64 0, .int .i64 0] := (Blk.newAt (by simp)).ext h1
  clear h1 HP
  have l1 := R1.lt
  go_wp2_with fail
  obtain ⟨V1, hV1⟩ : ∃ W, W = w1.alloc (.cells #[.int .i64 al, .int .i64 ah, .int .i64 bl, .int .i64 bh] 112) := ⟨_, rfl⟩
  rw [← hV1]
  obtain ⟨z1, hz1⟩ : ∃ z, z = w1.heap.size := ⟨_, rfl⟩
  have A2 : Blk V1 z1 112 #[.int .i64 al, .int .i64 ah, .int .i64 bl, .int .i64 bh] := by rw [hV1]; exact Blk.newAt hz1
  have S2 : Blk V1 (w.heap.size + 1 + 1) 30 #[.int .i64 x, .int .i64 y, .int .i64 u, .int .i64 v] := by rw [hV1]; exact S1.alloc _
  have R2 : Blk V1 (w.heap.size + 1 + 1 + 1) 30 #[.int .i64 0, .int .i64 0, .int .i64 0, .int .i64 0] := by rw [hV1]; exact R1.alloc _
  have E2 : Ext w V1 := by rw [hV1]; exact ext_by
  have zz1 : w.heap.size + 1 + 1 + 1 < z1 := by omega
  have zg1 : z1 ≠ g := by omega
  have sg : w.heap.size + 1 + 1 ≠ g := by omega
  rw [← hz1]
  clear hV1 hz1 S1 R1 E1 l1
  refine (func4_c wb g B V1 (hr.keep E2) hB).mono ?_
  rintro e w2 ⟨n0, n1, n2, n3, rfl, hw2, hr2⟩
  have A3 := A2.wr hw2 zg1
  have S3 := S2.wr hw2 sg
  have R3 := R2.wr hw2 hb3
  have K3 := (Wr.of g E2).trans hw2
  have zz2 : z1 < w2.heap.size := by have := A3.lt; omega
  clear A2 S2 R2 E2 hw2 hr
  go_wp2_with fail
  refine name_w _ ?_
  intro V3 hV3
  obtain ⟨z3, hz3⟩ : ∃ z, z = w2.heap.size := ⟨_, rfl⟩
  have N4 : Blk V3 z3 115 #[.int .i64 n0, .int .i64 n1, .int .i64 n2, .int .i64 n3] := by rw [hV3]; exact Blk.newAt hz3
  have A4 : Blk V3 z1 112 #[.int .i64 al, .int .i64 ah, .int .i64 bl, .int .i64 bh] := by rw [hV3]; exact A3.alloc _
  have S4 : Blk V3 (w.heap.size + 1 + 1) 30 #[.int .i64 x, .int .i64 y, .int .i64 u, .int .i64 v] := by rw [hV3]; exact S3.alloc _
  have R4 : Blk V3 (w.heap.size + 1 + 1 + 1) 30 #[.int .i64 0, .int .i64 0, .int .i64 0, .int .i64 0] := by rw [hV3]; exact R3.alloc _
  have K4 : Wr w g V3 := by rw [hV3]; exact K3.alloc _
  have r4 : IsRing wb V3 g (B + 8) := by rw [hV3]; exact hr2.alloc _
  rw [← hz3]
  clear hV3 hz3 A3 S3 R3 K3 hr2 zz2
  have i1 := inSpan_in n0 o2
  have i2 := inSpan_in n1 o5
  obtain ⟨i11, i12⟩ := i1
  obtain ⟨i21, i22⟩ := i2
  have c_N4 := N4.cell; have f_N4 := N4.frozen; have l_N4 := N4.lt; have c_A4 := A4.cell; have f_A4 := A4.frozen; have l_A4 := A4.lt; have c_S4 := S4.cell; have f_S4 := S4.frozen; have l_S4 := S4.lt
  refine wp_region_text (by kernel_rfl) (by kernel_rfl) ?_
  (repeat' (first | (refine bl_off (by rfl) ?_; simp only [putX]) | (apply bl_op; rfl; (intro w1 h1; obtain ⟨hc, hf, hz⟩ := bcell h1; go_simp; (try go_bits); (first | exact ⟨rfl, Ext.refl _⟩ | (apply gives_call; go_at_call 87; exact InSpan_c _ _ _ _ (by omega) (by omega)) | (go_invoke; go_simp; apply gives_call; go_at_call 87; exact InSpan_c _ _ _ _ (by omega) (by omega)))); simp only [putX]) | (refine bl_split rfl rfl (fun hx => ?_) (fun hx => ?_) <;> simp only [hx])))
  refine bl_nil ?_
  intro w5 h5
  have S5 := S4.ext h5
  have R5 := R4.ext h5
  have K5 := Wr.stable _ _ _ _ K4 h5
  have r5 := r4.keep h5
  clear c_N4 f_N4 l_N4 c_A4 f_A4 l_A4 c_S4 f_S4 l_S4
  clear N4 A4 S4 R4 K4 r4 h5
  obtain ⟨U, hU⟩ : ∃ q, q = u + inSpanM al ah n0 := ⟨_, rfl⟩
  obtain ⟨V, hV⟩ : ∃ q, q = v + inSpanM bl bh n1 := ⟨_, rfl⟩
  rw [← hU, ← hV]
  generalize inSpanM al ah n0 = p1 at *
  generalize inSpanM bl bh n1 = p2 at *
  have bU : -2000000000000000000 ≤ U ∧ U ≤ 2000000000000000000 := by omega
  have bV : -2000000000000000000 ≤ V ∧ V ≤ 2000000000000000000 := by omega
  obtain ⟨bU1, bU2⟩ := bU
  obtain ⟨bV1, bV2⟩ := bV
  have HU := Lib.hid hU
  have HV := Lib.hid hV
  clear hU hV
  have c_S5 := S5.cell; have f_S5 := S5.frozen; have l_S5 := S5.lt; have c_R5 := R5.cell; have f_R5 := R5.frozen; have l_R5 := R5.lt
  (try dsimp only); repeat' (first | go_values | go_skip | go_guarded | go_step | go_upon | go_in | go_at_K)
  refine name_w _ ?_
  intro W9 hW9
  have R9 : Blk W9 (w.heap.size + 1 + 1 + 1) 30 #[.int .i64 (x + U), .int .i64 (y + V), .int .i64 U, .int .i64 V] := by rw [hW9]; exact ((((R5.set_ 0 _).set_ 1 _).set_ 2 _).set_ 3 _)
  have K9 : Wr w g W9 := by
    rw [hW9]
    iterate 4 refine Wr.put ?_ (by dsimp only; omega) _
    exact K5
  have r9 : IsRing wb W9 g (B + 8) := by
    rw [hW9]
    iterate 4 refine IsRing.put ?_ ⟨by dsimp only; omega, hb3⟩ _
    exact r5
  clear c_S5 f_S5 l_S5 c_R5 f_R5 l_R5
  clear hW9 S5 R5 K5 r5
  have c_R9 := R9.cell; have f_R9 := R9.frozen; have l_R9 := R9.lt
  (try simp only [Exit.inBlock, Exit.then]); apply bodyPost_ret; (focus (simp only [results, Tryz.results29]; go_simp; try rfl)); rfl
  exact ⟨_, _, _, _, rfl, ⟨by have := HU.out; omega, by have := HV.out; omega, rfl, rfl⟩, K9, r9⟩
end Go.Proofs.YtfniicgoeljmdaaGreat

namespace Go.Proofs.YtfniicgoeljmdaaGreat
open Go.RowKit

theorem st4_len (x : St) : (stC4 x).length = 4 := rfl
theorem info_stat : (Tryz.prog.info? 30).map (fun i => (i.zero, i.size, i.bytes)) = some (some (.agg #[.int .i64 0, .int .i64 0, .int .i64 0, .int .i64 0]), 4, 32) := by kernel_rfl
theorem own_uno {w : World} {base g : Nat} {e : TypeId} {sz : Nat} {xs : List Value} (hb : base ≤ g) (h : Blk w g e xs.toArray) (hs : xs.length = sz) : w.ownsRow base e sz (.slice (some ⟨g, 0, none⟩) 1 1) 1 xs :=
  ⟨by omega, .inr ⟨g, 1, xs.toArray, rfl, hb, h, by omega, by decide, by simp [hs], by rw [Nat.one_mul]; exact List.take_of_length_le (Nat.le_of_eq hs)⟩⟩
set_option maxRecDepth 4000 in
set_option maxHeartbeats 4000000 in
theorem TruthOf_c (wb : World) (g : Nat) (B : Int) (A : Option Addr) (n c : Nat) (home : Int) (l : List Body) (d : Drf) (tick x y u v : Int) (N : Nat) (w : World) (hr : IsRing wb w g B) (hB : B ≤ 700000000) (hl : Bodies w A n l) (hd : wdErr l home d = 0)
    (hb : (-40000000 ≤ x ∧ x ≤ 40000000) ∧ (-40000000 ≤ y ∧ y ≤ 40000000) ∧ (-2000000 ≤ u ∧ u ≤ 2000000) ∧ -2000000 ≤ v ∧ v ≤ 2000000) (hN : N ≤ 8) (ht : 0 ≤ tick ∧ tick ≤ 1000000) :
    Calls Tryz.prog 65 #[.pointer (some ⟨g, 0, none⟩), .agg #[.slice A n c, .int .i64 home], .agg #[.int .i64 d.light.lo, .int .i64 d.light.hi, .int .i64 d.heat.lo, .int .i64 d.heat.hi, .int .i64 d.gas], .int .i64 tick, .agg #[.int .i64 x, .int .i64 y, .int .i64 u, .int .i64 v], .int .i64 (N : Int)] w fun e w' =>
      ∃ (r : Value) (T : List St), e = .returned r ∧ w'.ownsRow w.heap.size 30 4 r T.length (T.flatMap stC4) ∧ T.length = N + 1 ∧ T.head? = some ⟨x, y, u, v⟩ ∧ Wr w g w' ∧ IsRing wb w' g (B + 8 * N) := by
  have hg := hr.lt
  have hge := hr.ge
  have hsz := hr.ext.size
  obtain ⟨ic, hic, hc0, hc1, hc2⟩ := info_parts info_stat
  have HS := Lib.hid fun B' t' x' y' u' v' W hr' hB' hl' hb' => SuccessorOf_c wb g B' A n c home l d t' x' y' u' v' W hr' hB' hl' hd hb'
  have HOB := Lib.hid fun t' x' y' => over_bd (l := l) (home := home) (d := d) (tick := t') (a := ⟨⟨x', x'⟩, ⟨y', y'⟩⟩) hd
  have HL := Lib.hid hl
  obtain ⟨F, hF⟩ : ∃ F, F = overM l home d := ⟨_, rfl⟩
  rw [← hF] at HS HOB
  obtain ⟨⟨ll, lh⟩, ⟨el, eh⟩, gs⟩ := d
  dsimp only at HS ⊢
  obtain ⟨⟨x1, x2⟩, ⟨y1, y2⟩, ⟨u1, u2⟩, v1, v2⟩ := hb
  clear hF hl hd
  have g0 : w.heap.size ≠ g := by omega
  have g1 : w.heap.size + 1 ≠ g := by omega
  have g2 : w.heap.size + 1 + 1 ≠ g := by omega
  go_enter Tryz.func65, Tryz.ntmps65
  go_wp2_with fail
  refine name_w _ ?_
  intro V hV
  have B7 : Blk V w.heap.size 24 #[.slice A n c, .int .i64 home] := by rw [hV]; exact (((Blk.newAt rfl).alloc _).alloc _).alloc _
  have B8 : Blk V (w.heap.size + 1) 28 #[.int .i64 ll, .int .i64 lh, .int .i64 el, .int .i64 eh, .int .i64 gs] := by rw [hV]; exact ((Blk.newAt (by simp)).alloc _).alloc _
  have B10 : Blk V (w.heap.size + 1 + 1) 30 #[.int .i64 x, .int .i64 y, .int .i64 u, .int .i64 v] := by rw [hV]; exact (Blk.newAt (by simp)).alloc _
  have BR : Blk V (w.heap.size + 1 + 1 + 1) 30 #[.int .i64 x, .int .i64 y, .int .i64 u, .int .i64 v] := by rw [hV]; exact Blk.newAt (by simp)
  have EV : Ext w V := by rw [hV]; exact ext_by
  clear hV
  have HB7 := Lib.hid B7
  have HB8 := Lib.hid B8
  have HB10 := Lib.hid B10
  have HBR := Lib.hid BR
  have hrV := hr.keep EV
  have HRG := Lib.hid hr
  have hzV := BR.lt
  clear B7 B8 B10 BR hr
  go_loopw [13, 14] (fun sl ni wr => ∃ (k : Nat) (T : List St) (p : St), ni = .int .i64 k ∧ k ≤ N ∧ T.length = k + 1 ∧ Hid (T.head? = some ⟨x, y, u, v⟩) ∧
    ((-40000000 - 40000000000000000 * (k : Int) ≤ p.x ∧ p.x ≤ 40000000 + 40000000000000000 * (k : Int)) ∧ (-40000000 - 40000000000000000 * (k : Int) ≤ p.y ∧ p.y ≤ 40000000 + 40000000000000000 * (k : Int)) ∧ (-2000000 - 4000000000000000 * (k : Int) ≤ p.u ∧ p.u ≤ 2000000 + 4000000000000000 * (k : Int)) ∧ -2000000 - 4000000000000000 * (k : Int) ≤ p.v ∧ p.v ≤ 2000000 + 4000000000000000 * (k : Int)) ∧
    Hid (Blk wr (w.heap.size + 1 + 1) 30 #[.int .i64 p.x, .int .i64 p.y, .int .i64 p.u, .int .i64 p.v]) ∧ Hid (wr.ownsRow (w.heap.size + 1 + 1 + 1) 30 4 sl T.length (T.flatMap stC4)) ∧ Hid (Wr w g wr) ∧ Hid (Blk wr w.heap.size 24 #[.slice A n c, .int .i64 home]) ∧ Hid (Blk wr (w.heap.size + 1) 28 #[.int .i64 ll, .int .i64 lh, .int .i64 el, .int .i64 eh, .int .i64 gs]) ∧ IsRing wb wr g (B + 8 * k)) (fun _ ni _ => N - (intOf ni).toNat)
  case atStart => exact ⟨0, [⟨x, y, u, v⟩], ⟨x, y, u, v⟩, rfl, by omega, rfl, Lib.hid rfl, by dsimp only; omega, HB10, Lib.hid (own_uno (Nat.le_refl _) HBR.out rfl), Lib.hid (Wr.of g EV), HB7, HB8, hrV.mono (by omega)⟩
  case round =>
    obtain ⟨k, T, p, rfl, hk, hT, HT, hp, HP, HO, HW, H7, H8, hrr⟩ := hrel
    have b7 := H7.out
    have b8 := H8.out
    have b10 := HP.out
    obtain ⟨px, py, pu, pv⟩ := p
    have HTL := Lib.hid hT
    have hT9 : T.length ≤ 9 := by omega
    clear hT
    dsimp only at hp b10
    obtain ⟨⟨p1, p2⟩, ⟨p3, p4⟩, ⟨p5, p6⟩, p7, p8⟩ := hp
    have c_b7 := b7.cell; have f_b7 := b7.frozen; have l_b7 := b7.lt; have c_b8 := b8.cell; have f_b8 := b8.frozen; have l_b8 := b8.lt; have c_b10 := b10.cell; have f_b10 := b10.frozen; have l_b10 := b10.lt
    by_cases hlt : k < N
    · have hltz : (k : Int) < N := by omega
      go_wp2_with fail
      refine (HS.out (B + 8 * k) (tick + k) px py pu pv wr hrr (by omega) (Bodies.wr HRG.out HW.out HL.out) (by omega)).mono ?_
      rintro e w5 ⟨x', y', u', v', rfl, ⟨q1, q2, q3, q4⟩, hw5, hr5⟩
      have ho := HOB.out (tick + k) px py
      unfold SmA Sm at ho
      have HO5 := Lib.hid (own_wr HO.out hrr (by decide) hw5)
      have HW5 := Lib.hid (HW.out.trans hw5)
      clear c_b7 f_b7 l_b7 c_b8 f_b8 l_b8 c_b10 f_b10 l_b10
      replace b7 := b7.wr hw5 g0
      replace b8 := b8.wr hw5 g1
      replace b10 := b10.wr hw5 g2
      have bd : ((-40000000 - 40000000000000000 * ((k + 1 : Nat) : Int) ≤ x' ∧ x' ≤ 40000000 + 40000000000000000 * ((k + 1 : Nat) : Int)) ∧ (-40000000 - 40000000000000000 * ((k + 1 : Nat) : Int) ≤ y' ∧ y' ≤ 40000000 + 40000000000000000 * ((k + 1 : Nat) : Int)) ∧ (-2000000 - 4000000000000000 * ((k + 1 : Nat) : Int) ≤ u' ∧ u' ≤ 2000000 + 4000000000000000 * ((k + 1 : Nat) : Int)) ∧ -2000000 - 4000000000000000 * ((k + 1 : Nat) : Int) ≤ v' ∧ v' ≤ 2000000 + 4000000000000000 * ((k + 1 : Nat) : Int)) := by
        omega
      have BD := Lib.hid bd
      have hz5 := HW5.out.size
      have l10 := b10.lt
      clear hw5 q1 q2 q3 q4 ho bd HO HW H7 H8 HP hrr p1 p2 p3 p4 p5 p6 p7 p8
      obtain ⟨V6, hV6⟩ : ∃ W, W = (((w5.setCell ⟨w.heap.size + 1 + 1, 0, none⟩ (.int .i64 x')).setCell ⟨w.heap.size + 1 + 1, 1, none⟩ (.int .i64 y')).setCell ⟨w.heap.size + 1 + 1, 2, none⟩ (.int .i64 u')).setCell ⟨w.heap.size + 1 + 1, 3, none⟩ (.int .i64 v') := ⟨_, rfl⟩
      have hz6 : V6.heap.size = w5.heap.size := by rw [hV6]; simp
      have S10 : Blk V6 (w.heap.size + 1 + 1) 30 #[.int .i64 x', .int .i64 y', .int .i64 u', .int .i64 v'] := by rw [hV6]; exact (((b10.set_ 0 _).set_ 1 _).set_ 2 _).set_ 3 _
      have S7 : Blk V6 w.heap.size 24 #[.slice A n c, .int .i64 home] := by rw [hV6]; exact (((b7.far (by dsimp only; omega) _).far (by dsimp only; omega) _).far (by dsimp only; omega) _).far (by dsimp only; omega) _
      have S8 : Blk V6 (w.heap.size + 1) 28 #[.int .i64 ll, .int .i64 lh, .int .i64 el, .int .i64 eh, .int .i64 gs] := by rw [hV6]; exact (((b8.far (by dsimp only; omega) _).far (by dsimp only; omega) _).far (by dsimp only; omega) _).far (by dsimp only; omega) _
      have r6 : IsRing wb V6 g (B + 8 * k + 8) := by
        rw [hV6]
        iterate 4 refine IsRing.put ?_ ⟨by dsimp only; omega, g2⟩ _
        exact hr5
      have W6 : Hid (Wr w g V6) := Lib.hid (by
        rw [hV6]
        iterate 4 refine Wr.put ?_ (by dsimp only; omega) _
        exact HW5.out)
      have O6 : Hid (V6.ownsRow (w.heap.size + 1 + 1 + 1) 30 4 u13 T.length (T.flatMap stC4)) := Lib.hid (by
        have hn := own_block_ge HO5.out (b := w.heap.size + 1 + 1) (by omega)
        rw [hV6]
        exact own_set (own_set (own_set (own_set HO5.out hn _) hn _) hn _) hn _)
      have c_b10 := b10.cell; have f_b10 := b10.frozen; have l_b10 := b10.lt; have c_S10 := S10.cell; have f_S10 := S10.frozen; have l_S10 := S10.lt
      go_wp2_with (at_builtin; rw [← hV6]; go_loud (refine wpList_append_sl rfl (.tmp 30) (.tmp 32) 31 rfl (w.heap.size + 1 + 1 + 1) 30 ic _ 4 32 Tryz.underlying31 hic hc0 hc1 hc2 rfl (by decide) _ T.length (T.flatMap stC4) rfl (own_ext_keep O6.out (Ext.alloc0 _ _)) (some ⟨w5.heap.size, 0, none⟩) 1 1 [.int .i64 x', .int .i64 y', .int .i64 u', .int .i64 v'] rfl rfl (.inr ⟨_, rfl, new_cells hz6.symm⟩) (by intro u hu; simp at hu; rcases hu with rfl | rfl | rfl | rfl <;> rfl) (by unfold maxLen; omega) (by omega) (by simp; omega) ?_))
      intro v9 w8 ho8 hg8 _
      rw [← hV6] at hg8
      have e7 : Ext V6 (V6.alloc (.cells #[.int .i64 x', .int .i64 y', .int .i64 u', .int .i64 v'] 30)) := Ext.alloc0 _ _
      have hO := own_ext_keep O6.out e7
      have hr8 : IsRing wb w8 g (B + 8 * ((k + 1 : Nat) : Int)) := ((r6.keep e7).row hg8 ((r6.keep e7).ne hO (by decide)) (own_ge hO (by omega))).mono (by omega)
      have HW8 := Lib.hid ((W6.out.trans (Wr.of g e7)).row hg8 (own_ge hO (by omega)))
      have H10 := Lib.hid ((S10.ext e7).grown hg8 (own_block_ge hO (by omega)))
      have H7 := Lib.hid ((S7.ext e7).grown hg8 (own_block_ge hO (by omega)))
      have H8 := Lib.hid ((S8.ext e7).grown hg8 (own_block_ge hO (by omega)))
      have HO8 : Hid (w8.ownsRow (w.heap.size + 1 + 1 + 1) 30 4 v9 (T ++ [(⟨x', y', u', v'⟩ : St)]).length ((T ++ [(⟨x', y', u', v'⟩ : St)]).flatMap stC4)) := by
        rw [List.length_append, List.flatMap_append]
        exact ho8
      clear c_b10 f_b10 l_b10 c_S10 f_S10 l_S10
      clear b7 b8 b10 S7 S8 S10 r6 W6 O6 hg8 ho8 hO e7 hr5 HO5 HW5 hV6
      go_wp2_with fail
      go_roundw
      case rel =>
        refine ⟨k + 1, T ++ [⟨x', y', u', v'⟩], ⟨x', y', u', v'⟩, by go_num, by omega, by have := HTL.out; simp; omega, Lib.hid ?_, BD.out, H10, HO8, HW8, H7, H8, hr8⟩
        have ht := HT.out
        cases T with
        | nil => have := HTL.out; simp at this
        | cons a r => exact ht
      case measure => simp [intOf]; omega
    · obtain rfl : k = N := by omega
      go_wp2_with fail
      go_ret
      exact ⟨_, rfl, T, own_mono HO.out (by omega), HTL.out, HT.out, HW.out, hrr⟩
end Go.Proofs.YtfniicgoeljmdaaGreat
