/- OrbitContains, walked: it returns true. No condition. OrbitContains, lifted to what the statement says of a run. No condition. -/
import Derived.Test.YtfniicgoeljmdaaGreatOutMore
import Derived.Test.YtfniicgoeljmdaaGreatMovesLaw
import Derived.Test.YtfniicgoeljmdaaGreatAwakeFour
import Derived.Test.YtfniicgoeljmdaaGreatMade
import Derived.Test.YtfniicgoeljmdaaGreatSuccessor
import Derived.Test.YtfniicgoeljmdaaGreatOpen2
import Derived.Test.YtfniicgoeljmdaaGreatLaw
namespace Go.Proofs.YtfniicgoeljmdaaGreat
open Go.RowKit

theorem made_wd {s : Sky} {d : Drf} (h : MadeSky s) (hd : driftErr d = 0) : wdErr s.world.bodies s.world.home d = 0 := wdErr_ok.2 ⟨(sky_ok h.ok).1, hd⟩
theorem step_ok {l : List Body} {home : Int} {d : Drf} {tick : Int} {b : Bx} (M : Moves l home d tick) (hb : bxErr b = 0) (hc : bxErr (stepB l home d tick b) = 0) : stepM l home d tick b = ⟨stepB l home d tick b, 0⟩ := by
  unfold stepM
  rw [if_pos M.wd, if_pos ((within_iff _ _ _).2 M.now), if_pos hb, if_pos hc]
theorem step_no {l : List Body} {home : Int} {d : Drf} {tick : Int} {b : Bx} (M : Moves l home d tick) (hb : bxErr b = 0) (hc : bxErr (stepB l home d tick b) ≠ 0) : stepM l home d tick b = ⟨zeroB, 14⟩ := by
  unfold stepM
  rw [if_pos M.wd, if_pos ((within_iff _ _ _).2 M.now), if_pos hb, if_neg hc]
set_option maxRecDepth 20000 in
set_option maxHeartbeats 8000000 in
theorem OrbitContains_c (A : Option Addr) (n c : Nat) (l : List Int) (w : World) (hl : Ints w A n l) :
    Calls Tryz.prog 5 #[.slice A n c] w fun e w' => e = .returned (.bool true) ∧ Ext w w' := by
  have HA := Lib.hid fun W => awake4_c W
  go_enter Tryz.func5, Tryz.ntmps5
  go_wp2_with fail
  refine (made4_c A n c l _ hl).mono ?_
  rintro e w1 ⟨g, A1, n1, c1, home, A2, n2, c2, A3, n3, c3, s, ll, lh, el, eh, gs, b, x, y, u, v, bs, rfl, hF, hsky, hms, hgas, hsm, hx0⟩
  have E1 := hF.ext
  have r1 := hF.ring
  have hb := hsm.ok
  have hx := hx0.holds
  have hdr := drift_of hgas
  have hwd := made_wd hms hdr
  have M : Moves s.world.bodies s.world.home ⟨⟨ll, lh⟩, ⟨el, eh⟩, gs⟩ 3 := moves_of hwd (by omega)
  have hst := st_of_box hb hx
  have ho := M.over (pt_valid hst).2
  obtain ⟨⟨s1, s2⟩, ⟨s3, s4⟩, ⟨s5, s6⟩, s7, s8⟩ := stErr_ok.1 hst
  dsimp only at s1 s2 s3 s4 s5 s6 s7 s8
  obtain rfl : home = s.world.home := hsky.home
  have hbod := hsky.bodies
  generalize s.world.home = hd at *
  generalize s.world.bodies = bl at *
  clear hsky hms hgas hsm hx0 hl hF
  go_wp2_with fail
  obtain ⟨V, hV⟩ : ∃ W, W = ((((w1.alloc (.cells #[.slice A1 n1 c1, .int .i64 hd, .slice A2 n2 c2, .slice A3 n3 c3] 53)).alloc (.cells #[.int .i64 ll, .int .i64 lh, .int .i64 el, .int .i64 eh, .int .i64 gs] 28)).alloc (.cells #[.int .i64 b.x.lo, .int .i64 b.x.hi, .int .i64 b.y.lo, .int .i64 b.y.hi, .int .i64 b.u.lo, .int .i64 b.u.hi, .int .i64 b.v.lo, .int .i64 b.v.hi] 38)).alloc (.cells #[.int .i64 x, .int .i64 y, .int .i64 u, .int .i64 v] 30)) := ⟨_, rfl⟩
  rw [← hV]
  obtain ⟨z, hz⟩ : ∃ z, z = w1.heap.size := ⟨_, rfl⟩
  have B4 : Blk V z 53 #[.slice A1 n1 c1, .int .i64 hd, .slice A2 n2 c2, .slice A3 n3 c3] := by rw [hV]; exact (((Blk.newAt hz).alloc _).alloc _).alloc _
  have B5 : Blk V (z + 1) 28 #[.int .i64 ll, .int .i64 lh, .int .i64 el, .int .i64 eh, .int .i64 gs] := by rw [hV]; exact ((Blk.newAt (by simp [hz])).alloc _).alloc _
  have B6 : Blk V (z + 1 + 1) 38 #[.int .i64 b.x.lo, .int .i64 b.x.hi, .int .i64 b.y.lo, .int .i64 b.y.hi, .int .i64 b.u.lo, .int .i64 b.u.hi, .int .i64 b.v.lo, .int .i64 b.v.hi] := by rw [hV]; exact (Blk.newAt (by simp [hz])).alloc _
  have B7 : Blk V (z + 1 + 1 + 1) 30 #[.int .i64 x, .int .i64 y, .int .i64 u, .int .i64 v] := by rw [hV]; exact Blk.newAt (by simp [hz])
  have EV : Ext w1 V := by rw [hV]; exact ext_by
  have hgz : g < z := by have := r1.lt; omega
  rw [← hz]
  clear hV hz
  have r2 := r1.keep EV
  have hbod2 := Bodies.ext EV hbod
  have E2 := E1.trans EV
  clear r1 hbod E1 EV
  refine (SuccessorOf_c w g 200 A1 n1 c1 hd bl ⟨⟨ll, lh⟩, ⟨el, eh⟩, gs⟩ 3 x y u v V r2 (by omega) hbod2 hwd (by omega)).mono ?_
  rintro e w ⟨x', y', u', v', rfl, ⟨q1, q2, q3, q4⟩, hw2, _⟩
  have E0 := Lib.hid (Wr.ext hw2 E2 r2.ge)
  have hbod3 := Bodies.wr r2 hw2 hbod2
  replace B4 := B4.wr hw2 (by omega)
  replace B5 := B5.wr hw2 (by omega)
  replace B6 := B6.wr hw2 (by omega)
  replace B7 := B7.wr hw2 (by omega)
  rw [show (⟨⟨x, x⟩, ⟨y, y⟩⟩ : Ar) = ptA ⟨x, y, u, v⟩ from rfl, ho] at q1 q2
  dsimp only at q1 q2
  have HST := Lib.hid fun bb W (hW : Ext w W) => oStep_c A1 n1 c1 hd 3 W bl ⟨⟨ll, lh⟩, ⟨el, eh⟩, gs⟩ bb (Bodies.ext hW hbod3)
  have HPO := Lib.hid fun W (hW : Ext w W) => oPossible_c A1 n1 c1 hd bl ⟨⟨ll, lh⟩, ⟨el, eh⟩, gs⟩ 3 x y u v x' y' u' v' W (Bodies.ext hW hbod3)
  have HHO := Lib.hid fun bb W => oHolds_c bb ⟨x', y', u', v'⟩ W
  have HSP := Lib.hid fun W => oSplit_c b W
  have HS1 := Lib.hid fun W hW => HST.out b W hW
  have HWI := Lib.hid fun A' B' n' m' c' d' L R W h1 h2 => oWithinSet_c A' B' n' m' c' d' L R W h1 h2
  have E : Ext w w := Ext.refl _
  clear hw2 hbod2 hbod3 r2 E2 hwd
  by_cases hc : bxErr (stepB bl hd ⟨⟨ll, lh⟩, ⟨el, eh⟩, gs⟩ 3 b) = 0
  · obtain ⟨a1, a2, a3, a4⟩ := contains_law (n := ⟨x', y', u', v'⟩) M hb hx hc q1 q2 q3 q4
    rw [step_ok M hb hc] at HS1
    rw [a1] at HPO
    have HH1 := Lib.hid fun W => HHO.out (stepB bl hd ⟨⟨ll, lh⟩, ⟨el, eh⟩, gs⟩ 3 b) W
    rw [a2] at HH1
    cases hs : splitOk b
    · have hbp := a3 hs
      subst hbp
      unfold splitV at HSP
      rw [hs, if_neg (by decide)] at HSP
      clear HST HHO HWI a1 a2 a3 a4 hs hb hx q1 q2 q3 q4 ho M hc
      generalize stepB bl hd ⟨⟨ll, lh⟩, ⟨el, eh⟩, gs⟩ 3 (ptB ⟨x, y, u, v⟩) = S at *
      obtain ⟨⟨sxl, sxh⟩, ⟨syl, syh⟩, ⟨sul, suh⟩, svl, svh⟩ := S
      dsimp only [bxRV, ptB, zeroB] at HS1 HH1 HSP B6 HPO
      have c_B4 := B4.cell; have f_B4 := B4.frozen; have l_B4 := B4.lt; have c_B5 := B5.cell; have f_B5 := B5.frozen; have l_B5 := B5.lt; have c_B6 := B6.cell; have f_B6 := B6.frozen; have l_B6 := B6.lt; have c_B7 := B7.cell; have f_B7 := B7.frozen; have l_B7 := B7.lt
      go_wp2_with fail
      obtain ⟨V3, hV9⟩ : ∃ W9, W9 = w.alloc (.cells #[.int .i64 x', .int .i64 y', .int .i64 u', .int .i64 v'] 30) := ⟨_, rfl⟩; obtain ⟨z8, hz9⟩ : ∃ z9, z9 = w.heap.size := ⟨_, rfl⟩; rw [← hV9]; (try rw [← hz9]); have B8 : Blk V3 z8 30 #[.int .i64 x', .int .i64 y', .int .i64 u', .int .i64 v'] := (by rw [hV9]; exact Blk.newAt hz9); have e9 : Ext w V3 := (by rw [hV9]; exact Ext.alloc0 _ _); clear hV9 hz9; clear c_B4 f_B4 l_B4; replace B4 := B4.ext e9; clear c_B5 f_B5 l_B5; replace B5 := B5.ext e9; clear c_B6 f_B6 l_B6; replace B6 := B6.ext e9; clear c_B7 f_B7 l_B7; replace B7 := B7.ext e9; replace E := Ext.trans E e9; clear e9; have c_B4 := B4.cell; have f_B4 := B4.frozen; have l_B4 := B4.lt; have c_B5 := B5.cell; have f_B5 := B5.frozen; have l_B5 := B5.lt; have c_B6 := B6.cell; have f_B6 := B6.frozen; have l_B6 := B6.lt; have c_B7 := B7.cell; have f_B7 := B7.frozen; have l_B7 := B7.lt; have c_B8 := B8.cell; have f_B8 := B8.frozen; have l_B8 := B8.lt
      refine (HS1.out _ E).mono ?_
      rintro e V4 ⟨rfl, hV4⟩
      clear c_B4 f_B4 l_B4; replace B4 := B4.ext hV4; clear c_B5 f_B5 l_B5; replace B5 := B5.ext hV4; clear c_B6 f_B6 l_B6; replace B6 := B6.ext hV4; clear c_B7 f_B7 l_B7; replace B7 := B7.ext hV4; clear c_B8 f_B8 l_B8; replace B8 := B8.ext hV4; replace E := Ext.trans E hV4; clear hV4; have c_B4 := B4.cell; have f_B4 := B4.frozen; have l_B4 := B4.lt; have c_B5 := B5.cell; have f_B5 := B5.frozen; have l_B5 := B5.lt; have c_B6 := B6.cell; have f_B6 := B6.frozen; have l_B6 := B6.lt; have c_B7 := B7.cell; have f_B7 := B7.frozen; have l_B7 := B7.lt; have c_B8 := B8.cell; have f_B8 := B8.frozen; have l_B8 := B8.lt
      go_wp2_with fail
      obtain ⟨V5, hV9⟩ : ∃ W9, W9 = V4.alloc (.cells #[.int .i64 sxl, .int .i64 sxh, .int .i64 syl, .int .i64 syh, .int .i64 sul, .int .i64 suh, .int .i64 svl, .int .i64 svh] 38) := ⟨_, rfl⟩; obtain ⟨z9, hz9⟩ : ∃ z9, z9 = V4.heap.size := ⟨_, rfl⟩; rw [← hV9]; (try rw [← hz9]); have B9 : Blk V5 z9 38 #[.int .i64 sxl, .int .i64 sxh, .int .i64 syl, .int .i64 syh, .int .i64 sul, .int .i64 suh, .int .i64 svl, .int .i64 svh] := (by rw [hV9]; exact Blk.newAt hz9); have e9 : Ext V4 V5 := (by rw [hV9]; exact Ext.alloc0 _ _); clear hV9 hz9; clear c_B4 f_B4 l_B4; replace B4 := B4.ext e9; clear c_B5 f_B5 l_B5; replace B5 := B5.ext e9; clear c_B6 f_B6 l_B6; replace B6 := B6.ext e9; clear c_B7 f_B7 l_B7; replace B7 := B7.ext e9; clear c_B8 f_B8 l_B8; replace B8 := B8.ext e9; replace E := Ext.trans E e9; clear e9; have c_B4 := B4.cell; have f_B4 := B4.frozen; have l_B4 := B4.lt; have c_B5 := B5.cell; have f_B5 := B5.frozen; have l_B5 := B5.lt; have c_B6 := B6.cell; have f_B6 := B6.frozen; have l_B6 := B6.lt; have c_B7 := B7.cell; have f_B7 := B7.frozen; have l_B7 := B7.lt; have c_B8 := B8.cell; have f_B8 := B8.frozen; have l_B8 := B8.lt; have c_B9 := B9.cell; have f_B9 := B9.frozen; have l_B9 := B9.lt
      refine (HPO.out _ E).mono ?_
      rintro e V6 ⟨rfl, hV6⟩
      clear c_B4 f_B4 l_B4; replace B4 := B4.ext hV6; clear c_B5 f_B5 l_B5; replace B5 := B5.ext hV6; clear c_B6 f_B6 l_B6; replace B6 := B6.ext hV6; clear c_B7 f_B7 l_B7; replace B7 := B7.ext hV6; clear c_B8 f_B8 l_B8; replace B8 := B8.ext hV6; clear c_B9 f_B9 l_B9; replace B9 := B9.ext hV6; replace E := Ext.trans E hV6; clear hV6; have c_B4 := B4.cell; have f_B4 := B4.frozen; have l_B4 := B4.lt; have c_B5 := B5.cell; have f_B5 := B5.frozen; have l_B5 := B5.lt; have c_B6 := B6.cell; have f_B6 := B6.frozen; have l_B6 := B6.lt; have c_B7 := B7.cell; have f_B7 := B7.frozen; have l_B7 := B7.lt; have c_B8 := B8.cell; have f_B8 := B8.frozen; have l_B8 := B8.lt; have c_B9 := B9.cell; have f_B9 := B9.frozen; have l_B9 := B9.lt
      go_wp2_with fail
      refine (HH1.out _).mono ?_
      rintro e V7 ⟨rfl, hV7⟩
      clear c_B4 f_B4 l_B4; replace B4 := B4.ext hV7; clear c_B5 f_B5 l_B5; replace B5 := B5.ext hV7; clear c_B6 f_B6 l_B6; replace B6 := B6.ext hV7; clear c_B7 f_B7 l_B7; replace B7 := B7.ext hV7; clear c_B8 f_B8 l_B8; replace B8 := B8.ext hV7; clear c_B9 f_B9 l_B9; replace B9 := B9.ext hV7; replace E := Ext.trans E hV7; clear hV7; have c_B4 := B4.cell; have f_B4 := B4.frozen; have l_B4 := B4.lt; have c_B5 := B5.cell; have f_B5 := B5.frozen; have l_B5 := B5.lt; have c_B6 := B6.cell; have f_B6 := B6.frozen; have l_B6 := B6.lt; have c_B7 := B7.cell; have f_B7 := B7.frozen; have l_B7 := B7.lt; have c_B8 := B8.cell; have f_B8 := B8.frozen; have l_B8 := B8.lt; have c_B9 := B9.cell; have f_B9 := B9.frozen; have l_B9 := B9.lt
      go_wp2_with fail
      refine (HSP.out _).mono ?_
      rintro e V8 ⟨rfl, hV8⟩
      clear c_B6 f_B6 l_B6; replace B6 := B6.ext hV8; clear c_B7 f_B7 l_B7; replace B7 := B7.ext hV8; replace E := Ext.trans E hV8; clear hV8; have c_B6 := B6.cell; have f_B6 := B6.frozen; have l_B6 := B6.lt; have c_B7 := B7.cell; have f_B7 := B7.frozen; have l_B7 := B7.lt
      clear c_B4 f_B4 l_B4 c_B5 f_B5 l_B5 c_B8 f_B8 l_B8 c_B9 f_B9 l_B9 B4 B5 B8 B9
      have k1 : z + 1 < V8.heap.size := by omega
      have k2 : z < V8.heap.size := by omega
      have k3 : z + 1 + 1 < V8.heap.size := by omega
      have k4 : z + 1 + 1 + 1 < V8.heap.size := by omega
      go_wp2_with fail
      refine (HA.out _).mono ?_
      rintro e w9 ⟨rfl, h9⟩
      obtain ⟨hc_w9, hf_w9, hz_w9⟩ := bcell h9; (try simp only [szA] at hz_w9); (try have := wz0 w w9); (try have := wz1 w w9); (try have := wz2 w w9); (try have := wz3 w w9); (try have := wz4 w w9)
      go_wp2_with fail
      go_ret
      exact ⟨rfl, E0.out.trans (E.trans ext_by)⟩
    · obtain ⟨v1, v2, v3, v4, v5, v6⟩ := a4 hs
      unfold splitV at HSP
      rw [hs, if_pos rfl] at HSP
      have HSL := Lib.hid fun W hW => HST.out (partL b) W hW
      rw [step_ok M v1 v3] at HSL
      have HSR := Lib.hid fun W hW => HST.out (partR b) W hW
      rw [step_ok M v2 v4] at HSR
      have HW2 := Lib.hid fun A' B' c' d' W h1 h2 => oWithinSet_c A' B' 2 1 c' d' [stepB bl hd ⟨⟨ll, lh⟩, ⟨el, eh⟩, gs⟩ 3 (partL b), stepB bl hd ⟨⟨ll, lh⟩, ⟨el, eh⟩, gs⟩ 3 (partR b)] [stepB bl hd ⟨⟨ll, lh⟩, ⟨el, eh⟩, gs⟩ 3 b] W h1 h2
      rw [v5] at HW2
      have HHL := Lib.hid fun W => HHO.out (stepB bl hd ⟨⟨ll, lh⟩, ⟨el, eh⟩, gs⟩ 3 (partL b)) W
      have HHR := Lib.hid fun W => HHO.out (stepB bl hd ⟨⟨ll, lh⟩, ⟨el, eh⟩, gs⟩ 3 (partR b)) W
      have hLR : (holdsB (stepB bl hd ⟨⟨ll, lh⟩, ⟨el, eh⟩, gs⟩ 3 (partL b)) ⟨x', y', u', v'⟩ = true) ∨ (holdsB (stepB bl hd ⟨⟨ll, lh⟩, ⟨el, eh⟩, gs⟩ 3 (partL b)) ⟨x', y', u', v'⟩ = false ∧ holdsB (stepB bl hd ⟨⟨ll, lh⟩, ⟨el, eh⟩, gs⟩ 3 (partR b)) ⟨x', y', u', v'⟩ = true) := by
        cases h : holdsB (stepB bl hd ⟨⟨ll, lh⟩, ⟨el, eh⟩, gs⟩ 3 (partL b)) ⟨x', y', u', v'⟩
        · right; exact ⟨rfl, v6.resolve_left (by rw [h]; decide)⟩
        · exact .inl rfl
      clear HST HHO HWI a1 a2 a3 a4 hs hb hx q1 q2 q3 q4 ho M hc v1 v2 v3 v4 v5 v6
      generalize holdsB (stepB bl hd ⟨⟨ll, lh⟩, ⟨el, eh⟩, gs⟩ 3 (partL b)) ⟨x', y', u', v'⟩ = IL at *
      generalize holdsB (stepB bl hd ⟨⟨ll, lh⟩, ⟨el, eh⟩, gs⟩ 3 (partR b)) ⟨x', y', u', v'⟩ = IR at *
      generalize stepB bl hd ⟨⟨ll, lh⟩, ⟨el, eh⟩, gs⟩ 3 (partL b) = SL at *
      generalize stepB bl hd ⟨⟨ll, lh⟩, ⟨el, eh⟩, gs⟩ 3 (partR b) = SR at *
      generalize stepB bl hd ⟨⟨ll, lh⟩, ⟨el, eh⟩, gs⟩ 3 b = S at *
      generalize partL b = PL at *
      generalize partR b = PR at *
      obtain ⟨⟨lxl, lxh⟩, ⟨lyl, lyh⟩, ⟨lul, luh⟩, lvl, lvh⟩ := SL
      obtain ⟨⟨rxl, rxh⟩, ⟨ryl, ryh⟩, ⟨rul, ruh⟩, rvl, rvh⟩ := SR
      obtain ⟨⟨sxl, sxh⟩, ⟨syl, syh⟩, ⟨sul, suh⟩, svl, svh⟩ := S
      obtain ⟨⟨pxl, pxh⟩, ⟨pyl, pyh⟩, ⟨pul, puh⟩, pvl, pvh⟩ := PL
      obtain ⟨⟨qxl, qxh⟩, ⟨qyl, qyh⟩, ⟨qul, quh⟩, qvl, qvh⟩ := PR
      dsimp only [bxRV] at HS1 HSL HSR HSP HH1 HHL HHR
      have HB2 := Lib.hid fun (k : Nat) (W : World) (h : Blk W k 38 #[.int .i64 lxl, .int .i64 lxh, .int .i64 lyl, .int .i64 lyh, .int .i64 lul, .int .i64 luh, .int .i64 lvl, .int .i64 lvh, .int .i64 rxl, .int .i64 rxh, .int .i64 ryl, .int .i64 ryh, .int .i64 rul, .int .i64 ruh, .int .i64 rvl, .int .i64 rvh]) => bx_slice (t := 38) [⟨⟨lxl, lxh⟩, ⟨lyl, lyh⟩, ⟨lul, luh⟩, lvl, lvh⟩, ⟨⟨rxl, rxh⟩, ⟨ryl, ryh⟩, ⟨rul, ruh⟩, rvl, rvh⟩] h (by simp)
      have HB1 := Lib.hid fun (k : Nat) (W : World) (h : Blk W k 38 #[.int .i64 sxl, .int .i64 sxh, .int .i64 syl, .int .i64 syh, .int .i64 sul, .int .i64 suh, .int .i64 svl, .int .i64 svh]) => bx_slice (t := 38) [⟨⟨sxl, sxh⟩, ⟨syl, syh⟩, ⟨sul, suh⟩, svl, svh⟩] h (by simp)
      have c_B4 := B4.cell; have f_B4 := B4.frozen; have l_B4 := B4.lt; have c_B5 := B5.cell; have f_B5 := B5.frozen; have l_B5 := B5.lt; have c_B6 := B6.cell; have f_B6 := B6.frozen; have l_B6 := B6.lt; have c_B7 := B7.cell; have f_B7 := B7.frozen; have l_B7 := B7.lt
      go_wp2_with fail
      obtain ⟨V3, hV9⟩ : ∃ W9, W9 = w.alloc (.cells #[.int .i64 x', .int .i64 y', .int .i64 u', .int .i64 v'] 30) := ⟨_, rfl⟩; obtain ⟨z8, hz9⟩ : ∃ z9, z9 = w.heap.size := ⟨_, rfl⟩; rw [← hV9]; (try rw [← hz9]); have B8 : Blk V3 z8 30 #[.int .i64 x', .int .i64 y', .int .i64 u', .int .i64 v'] := (by rw [hV9]; exact Blk.newAt hz9); have e9 : Ext w V3 := (by rw [hV9]; exact Ext.alloc0 _ _); clear hV9 hz9; clear c_B4 f_B4 l_B4; replace B4 := B4.ext e9; clear c_B5 f_B5 l_B5; replace B5 := B5.ext e9; clear c_B6 f_B6 l_B6; replace B6 := B6.ext e9; clear c_B7 f_B7 l_B7; replace B7 := B7.ext e9; replace E := Ext.trans E e9; clear e9; have c_B4 := B4.cell; have f_B4 := B4.frozen; have l_B4 := B4.lt; have c_B5 := B5.cell; have f_B5 := B5.frozen; have l_B5 := B5.lt; have c_B6 := B6.cell; have f_B6 := B6.frozen; have l_B6 := B6.lt; have c_B7 := B7.cell; have f_B7 := B7.frozen; have l_B7 := B7.lt; have c_B8 := B8.cell; have f_B8 := B8.frozen; have l_B8 := B8.lt
      refine (HS1.out _ E).mono ?_
      rintro e V4 ⟨rfl, hV4⟩
      clear c_B4 f_B4 l_B4; replace B4 := B4.ext hV4; clear c_B5 f_B5 l_B5; replace B5 := B5.ext hV4; clear c_B6 f_B6 l_B6; replace B6 := B6.ext hV4; clear c_B7 f_B7 l_B7; replace B7 := B7.ext hV4; clear c_B8 f_B8 l_B8; replace B8 := B8.ext hV4; replace E := Ext.trans E hV4; clear hV4; have c_B4 := B4.cell; have f_B4 := B4.frozen; have l_B4 := B4.lt; have c_B5 := B5.cell; have f_B5 := B5.frozen; have l_B5 := B5.lt; have c_B6 := B6.cell; have f_B6 := B6.frozen; have l_B6 := B6.lt; have c_B7 := B7.cell; have f_B7 := B7.frozen; have l_B7 := B7.lt; have c_B8 := B8.cell; have f_B8 := B8.frozen; have l_B8 := B8.lt
      go_wp2_with fail
      obtain ⟨V5, hV9⟩ : ∃ W9, W9 = V4.alloc (.cells #[.int .i64 sxl, .int .i64 sxh, .int .i64 syl, .int .i64 syh, .int .i64 sul, .int .i64 suh, .int .i64 svl, .int .i64 svh] 38) := ⟨_, rfl⟩; obtain ⟨z9, hz9⟩ : ∃ z9, z9 = V4.heap.size := ⟨_, rfl⟩; rw [← hV9]; (try rw [← hz9]); have B9 : Blk V5 z9 38 #[.int .i64 sxl, .int .i64 sxh, .int .i64 syl, .int .i64 syh, .int .i64 sul, .int .i64 suh, .int .i64 svl, .int .i64 svh] := (by rw [hV9]; exact Blk.newAt hz9); have e9 : Ext V4 V5 := (by rw [hV9]; exact Ext.alloc0 _ _); clear hV9 hz9; clear c_B4 f_B4 l_B4; replace B4 := B4.ext e9; clear c_B5 f_B5 l_B5; replace B5 := B5.ext e9; clear c_B6 f_B6 l_B6; replace B6 := B6.ext e9; clear c_B7 f_B7 l_B7; replace B7 := B7.ext e9; clear c_B8 f_B8 l_B8; replace B8 := B8.ext e9; replace E := Ext.trans E e9; clear e9; have c_B4 := B4.cell; have f_B4 := B4.frozen; have l_B4 := B4.lt; have c_B5 := B5.cell; have f_B5 := B5.frozen; have l_B5 := B5.lt; have c_B6 := B6.cell; have f_B6 := B6.frozen; have l_B6 := B6.lt; have c_B7 := B7.cell; have f_B7 := B7.frozen; have l_B7 := B7.lt; have c_B8 := B8.cell; have f_B8 := B8.frozen; have l_B8 := B8.lt; have c_B9 := B9.cell; have f_B9 := B9.frozen; have l_B9 := B9.lt
      refine (HPO.out _ E).mono ?_
      rintro e V6 ⟨rfl, hV6⟩
      clear c_B4 f_B4 l_B4; replace B4 := B4.ext hV6; clear c_B5 f_B5 l_B5; replace B5 := B5.ext hV6; clear c_B6 f_B6 l_B6; replace B6 := B6.ext hV6; clear c_B7 f_B7 l_B7; replace B7 := B7.ext hV6; clear c_B8 f_B8 l_B8; replace B8 := B8.ext hV6; clear c_B9 f_B9 l_B9; replace B9 := B9.ext hV6; replace E := Ext.trans E hV6; clear hV6; have c_B4 := B4.cell; have f_B4 := B4.frozen; have l_B4 := B4.lt; have c_B5 := B5.cell; have f_B5 := B5.frozen; have l_B5 := B5.lt; have c_B6 := B6.cell; have f_B6 := B6.frozen; have l_B6 := B6.lt; have c_B7 := B7.cell; have f_B7 := B7.frozen; have l_B7 := B7.lt; have c_B8 := B8.cell; have f_B8 := B8.frozen; have l_B8 := B8.lt; have c_B9 := B9.cell; have f_B9 := B9.frozen; have l_B9 := B9.lt
      go_wp2_with fail
      refine (HH1.out _).mono ?_
      rintro e V7 ⟨rfl, hV7⟩
      clear c_B4 f_B4 l_B4; replace B4 := B4.ext hV7; clear c_B5 f_B5 l_B5; replace B5 := B5.ext hV7; clear c_B6 f_B6 l_B6; replace B6 := B6.ext hV7; clear c_B7 f_B7 l_B7; replace B7 := B7.ext hV7; clear c_B8 f_B8 l_B8; replace B8 := B8.ext hV7; clear c_B9 f_B9 l_B9; replace B9 := B9.ext hV7; replace E := Ext.trans E hV7; clear hV7; have c_B4 := B4.cell; have f_B4 := B4.frozen; have l_B4 := B4.lt; have c_B5 := B5.cell; have f_B5 := B5.frozen; have l_B5 := B5.lt; have c_B6 := B6.cell; have f_B6 := B6.frozen; have l_B6 := B6.lt; have c_B7 := B7.cell; have f_B7 := B7.frozen; have l_B7 := B7.lt; have c_B8 := B8.cell; have f_B8 := B8.frozen; have l_B8 := B8.lt; have c_B9 := B9.cell; have f_B9 := B9.frozen; have l_B9 := B9.lt
      go_wp2_with fail
      refine (HSP.out _).mono ?_
      rintro e V8 ⟨rfl, hV8⟩
      clear c_B4 f_B4 l_B4; replace B4 := B4.ext hV8; clear c_B5 f_B5 l_B5; replace B5 := B5.ext hV8; clear c_B8 f_B8 l_B8; replace B8 := B8.ext hV8; clear c_B9 f_B9 l_B9; replace B9 := B9.ext hV8; replace E := Ext.trans E hV8; clear hV8; have c_B4 := B4.cell; have f_B4 := B4.frozen; have l_B4 := B4.lt; have c_B5 := B5.cell; have f_B5 := B5.frozen; have l_B5 := B5.lt; have c_B8 := B8.cell; have f_B8 := B8.frozen; have l_B8 := B8.lt; have c_B9 := B9.cell; have f_B9 := B9.frozen; have l_B9 := B9.lt
      clear c_B6 f_B6 l_B6 c_B7 f_B7 l_B7 B6 B7 HS1 HPO HH1 HSP
      have k1 : z < V8.heap.size := by omega
      go_wp2_with fail
      obtain ⟨V9, hV9⟩ : ∃ W, W = (V8.alloc (.cells #[.int .i64 pxl, .int .i64 pxh, .int .i64 pyl, .int .i64 pyh, .int .i64 pul, .int .i64 puh, .int .i64 pvl, .int .i64 pvh] 38)).alloc (.cells #[.int .i64 qxl, .int .i64 qxh, .int .i64 qyl, .int .i64 qyh, .int .i64 qul, .int .i64 quh, .int .i64 qvl, .int .i64 qvh] 38) := ⟨_, rfl⟩
      obtain ⟨z11, hz⟩ : ∃ z, z = V8.heap.size := ⟨_, rfl⟩
      rw [← hV9, ← hz]
      have B11 : Blk V9 z11 38 #[.int .i64 pxl, .int .i64 pxh, .int .i64 pyl, .int .i64 pyh, .int .i64 pul, .int .i64 puh, .int .i64 pvl, .int .i64 pvh] := by rw [hV9]; exact (Blk.newAt hz).alloc _
      have B12 : Blk V9 (z11 + 1) 38 #[.int .i64 qxl, .int .i64 qxh, .int .i64 qyl, .int .i64 qyh, .int .i64 qul, .int .i64 quh, .int .i64 qvl, .int .i64 qvh] := by rw [hV9]; exact Blk.newAt (by simp [hz])
      have e9 : Ext V8 V9 := by rw [hV9]; exact ext_by
      clear hV9 hz k1
      clear c_B4 f_B4 l_B4; replace B4 := B4.ext e9; clear c_B5 f_B5 l_B5; replace B5 := B5.ext e9; clear c_B8 f_B8 l_B8; replace B8 := B8.ext e9; clear c_B9 f_B9 l_B9; replace B9 := B9.ext e9; replace E := Ext.trans E e9; clear e9; have c_B4 := B4.cell; have f_B4 := B4.frozen; have l_B4 := B4.lt; have c_B5 := B5.cell; have f_B5 := B5.frozen; have l_B5 := B5.lt; have c_B8 := B8.cell; have f_B8 := B8.frozen; have l_B8 := B8.lt; have c_B9 := B9.cell; have f_B9 := B9.frozen; have l_B9 := B9.lt
      have c_B11 := B11.cell; have f_B11 := B11.frozen; have l_B11 := B11.lt; have c_B12 := B12.cell; have f_B12 := B12.frozen; have l_B12 := B12.lt
      refine (HSL.out _ E).mono ?_
      rintro e V10 ⟨rfl, hV10⟩
      clear c_B4 f_B4 l_B4; replace B4 := B4.ext hV10; clear c_B5 f_B5 l_B5; replace B5 := B5.ext hV10; clear c_B8 f_B8 l_B8; replace B8 := B8.ext hV10; clear c_B9 f_B9 l_B9; replace B9 := B9.ext hV10; clear c_B11 f_B11 l_B11; replace B11 := B11.ext hV10; clear c_B12 f_B12 l_B12; replace B12 := B12.ext hV10; replace E := Ext.trans E hV10; clear hV10; have c_B4 := B4.cell; have f_B4 := B4.frozen; have l_B4 := B4.lt; have c_B5 := B5.cell; have f_B5 := B5.frozen; have l_B5 := B5.lt; have c_B8 := B8.cell; have f_B8 := B8.frozen; have l_B8 := B8.lt; have c_B9 := B9.cell; have f_B9 := B9.frozen; have l_B9 := B9.lt; have c_B11 := B11.cell; have f_B11 := B11.frozen; have l_B11 := B11.lt; have c_B12 := B12.cell; have f_B12 := B12.frozen; have l_B12 := B12.lt
      have k1 : z < V10.heap.size := by omega
      have k2 : z11 < V10.heap.size := by omega
      go_wp2_with fail
      obtain ⟨V11, hV9⟩ : ∃ W9, W9 = V10.alloc (.cells #[.int .i64 lxl, .int .i64 lxh, .int .i64 lyl, .int .i64 lyh, .int .i64 lul, .int .i64 luh, .int .i64 lvl, .int .i64 lvh] 38) := ⟨_, rfl⟩; obtain ⟨z14, hz9⟩ : ∃ z9, z9 = V10.heap.size := ⟨_, rfl⟩; rw [← hV9]; (try rw [← hz9]); have B14 : Blk V11 z14 38 #[.int .i64 lxl, .int .i64 lxh, .int .i64 lyl, .int .i64 lyh, .int .i64 lul, .int .i64 luh, .int .i64 lvl, .int .i64 lvh] := (by rw [hV9]; exact Blk.newAt hz9); have e9 : Ext V10 V11 := (by rw [hV9]; exact Ext.alloc0 _ _); clear hV9 hz9; clear c_B4 f_B4 l_B4; replace B4 := B4.ext e9; clear c_B5 f_B5 l_B5; replace B5 := B5.ext e9; clear c_B8 f_B8 l_B8; replace B8 := B8.ext e9; clear c_B9 f_B9 l_B9; replace B9 := B9.ext e9; clear c_B11 f_B11 l_B11; replace B11 := B11.ext e9; clear c_B12 f_B12 l_B12; replace B12 := B12.ext e9; replace E := Ext.trans E e9; clear e9; have c_B4 := B4.cell; have f_B4 := B4.frozen; have l_B4 := B4.lt; have c_B5 := B5.cell; have f_B5 := B5.frozen; have l_B5 := B5.lt; have c_B8 := B8.cell; have f_B8 := B8.frozen; have l_B8 := B8.lt; have c_B9 := B9.cell; have f_B9 := B9.frozen; have l_B9 := B9.lt; have c_B11 := B11.cell; have f_B11 := B11.frozen; have l_B11 := B11.lt; have c_B12 := B12.cell; have f_B12 := B12.frozen; have l_B12 := B12.lt; have c_B14 := B14.cell; have f_B14 := B14.frozen; have l_B14 := B14.lt
      refine (HSR.out _ E).mono ?_
      rintro e V12 ⟨rfl, hV12⟩
      clear c_B8 f_B8 l_B8; replace B8 := B8.ext hV12; clear c_B9 f_B9 l_B9; replace B9 := B9.ext hV12; clear c_B14 f_B14 l_B14; replace B14 := B14.ext hV12; replace E := Ext.trans E hV12; clear hV12; have c_B8 := B8.cell; have f_B8 := B8.frozen; have l_B8 := B8.lt; have c_B9 := B9.cell; have f_B9 := B9.frozen; have l_B9 := B9.lt; have c_B14 := B14.cell; have f_B14 := B14.frozen; have l_B14 := B14.lt
      clear c_B4 f_B4 l_B4 c_B5 f_B5 l_B5 c_B11 f_B11 l_B11 c_B12 f_B12 l_B12 B4 B5 B11 B12 HSL HSR k1 k2
      go_wp2_with fail
      refine (HW2.out _ _ _ _ _ (HB2.out _ _ ((Blk.newAt (by simp)).alloc _)) (HB1.out _ _ (Blk.newAt (by simp)))).mono ?_
      rintro e V13 ⟨rfl, hV13⟩
      have B15 : Blk V13 V12.heap.size 38 #[.int .i64 rxl, .int .i64 rxh, .int .i64 ryl, .int .i64 ryh, .int .i64 rul, .int .i64 ruh, .int .i64 rvl, .int .i64 rvh] := (((Blk.newAt rfl).alloc _).alloc _).ext hV13
      have e13 : Ext V12 V13 := ext_by
      clear hV13 HW2 HB2 HB1
      clear c_B8 f_B8 l_B8; replace B8 := B8.ext e13; clear c_B9 f_B9 l_B9; replace B9 := B9.ext e13; clear c_B14 f_B14 l_B14; replace B14 := B14.ext e13; replace E := Ext.trans E e13; clear e13; have c_B8 := B8.cell; have f_B8 := B8.frozen; have l_B8 := B8.lt; have c_B9 := B9.cell; have f_B9 := B9.frozen; have l_B9 := B9.lt; have c_B14 := B14.cell; have f_B14 := B14.frozen; have l_B14 := B14.lt
      generalize V12.heap.size = z15 at *
      have c_B15 := B15.cell; have f_B15 := B15.frozen; have l_B15 := B15.lt
      rcases hLR with rfl | ⟨rfl, rfl⟩
      · go_wp2_with fail
        refine (HHL.out _).mono ?_
        rintro e V14 ⟨rfl, hV14⟩
        clear c_B8 f_B8 l_B8; replace B8 := B8.ext hV14; clear c_B9 f_B9 l_B9; replace B9 := B9.ext hV14; clear c_B14 f_B14 l_B14; replace B14 := B14.ext hV14; replace E := Ext.trans E hV14; clear hV14; have c_B8 := B8.cell; have f_B8 := B8.frozen; have l_B8 := B8.lt; have c_B9 := B9.cell; have f_B9 := B9.frozen; have l_B9 := B9.lt; have c_B14 := B14.cell; have f_B14 := B14.frozen; have l_B14 := B14.lt
        clear c_B15 f_B15 l_B15 B15
        go_wp2_with fail
        refine (HA.out _).mono ?_
        rintro e w15 ⟨rfl, h15⟩
        obtain ⟨hc_w15, hf_w15, hz_w15⟩ := bcell h15; (try simp only [szA] at hz_w15); (try have := wz0 w w15); (try have := wz1 w w15); (try have := wz2 w w15); (try have := wz3 w w15); (try have := wz4 w w15)
        go_wp2_with fail
        go_ret
        exact ⟨rfl, E0.out.trans (E.trans ext_by)⟩
      · go_wp2_with fail
        refine (HHL.out _).mono ?_
        rintro e V14 ⟨rfl, hV14⟩
        clear c_B8 f_B8 l_B8; replace B8 := B8.ext hV14; clear c_B9 f_B9 l_B9; replace B9 := B9.ext hV14; clear c_B14 f_B14 l_B14; replace B14 := B14.ext hV14; clear c_B15 f_B15 l_B15; replace B15 := B15.ext hV14; replace E := Ext.trans E hV14; clear hV14; have c_B8 := B8.cell; have f_B8 := B8.frozen; have l_B8 := B8.lt; have c_B9 := B9.cell; have f_B9 := B9.frozen; have l_B9 := B9.lt; have c_B14 := B14.cell; have f_B14 := B14.frozen; have l_B14 := B14.lt; have c_B15 := B15.cell; have f_B15 := B15.frozen; have l_B15 := B15.lt
        go_wp2_with fail
        refine (HHR.out _).mono ?_
        rintro e V15 ⟨rfl, hV15⟩
        clear c_B8 f_B8 l_B8; replace B8 := B8.ext hV15; clear c_B9 f_B9 l_B9; replace B9 := B9.ext hV15; clear c_B14 f_B14 l_B14; replace B14 := B14.ext hV15; clear c_B15 f_B15 l_B15; replace B15 := B15.ext hV15; replace E := Ext.trans E hV15; clear hV15; have c_B8 := B8.cell; have f_B8 := B8.frozen; have l_B8 := B8.lt; have c_B9 := B9.cell; have f_B9 := B9.frozen; have l_B9 := B9.lt; have c_B14 := B14.cell; have f_B14 := B14.frozen; have l_B14 := B14.lt; have c_B15 := B15.cell; have f_B15 := B15.frozen; have l_B15 := B15.lt
        go_wp2_with fail
        refine (HA.out _).mono ?_
        rintro e w16 ⟨rfl, h16⟩
        obtain ⟨hc_w16, hf_w16, hz_w16⟩ := bcell h16; (try simp only [szA] at hz_w16); (try have := wz0 w w16); (try have := wz1 w w16); (try have := wz2 w w16); (try have := wz3 w w16); (try have := wz4 w w16)
        go_wp2_with fail
        go_ret
        exact ⟨rfl, E0.out.trans (E.trans ext_by)⟩
  · rw [step_no M hb hc] at HS1
    clear HST HPO HHO HSP HWI hc q1 q2 q3 q4 ho hb hx M
    dsimp only [bxRV, zeroB] at HS1
    have c_B4 := B4.cell; have f_B4 := B4.frozen; have l_B4 := B4.lt; have c_B5 := B5.cell; have f_B5 := B5.frozen; have l_B5 := B5.lt; have c_B6 := B6.cell; have f_B6 := B6.frozen; have l_B6 := B6.lt; have c_B7 := B7.cell; have f_B7 := B7.frozen; have l_B7 := B7.lt
    go_wp2_with fail
    obtain ⟨V3, hV9⟩ : ∃ W9, W9 = w.alloc (.cells #[.int .i64 x', .int .i64 y', .int .i64 u', .int .i64 v'] 30) := ⟨_, rfl⟩; obtain ⟨z8, hz9⟩ : ∃ z9, z9 = w.heap.size := ⟨_, rfl⟩; rw [← hV9]; (try rw [← hz9]); have B8 : Blk V3 z8 30 #[.int .i64 x', .int .i64 y', .int .i64 u', .int .i64 v'] := (by rw [hV9]; exact Blk.newAt hz9); have e9 : Ext w V3 := (by rw [hV9]; exact Ext.alloc0 _ _); clear hV9 hz9; clear c_B4 f_B4 l_B4; replace B4 := B4.ext e9; clear c_B5 f_B5 l_B5; replace B5 := B5.ext e9; clear c_B6 f_B6 l_B6; replace B6 := B6.ext e9; clear c_B7 f_B7 l_B7; replace B7 := B7.ext e9; replace E := Ext.trans E e9; clear e9; have c_B4 := B4.cell; have f_B4 := B4.frozen; have l_B4 := B4.lt; have c_B5 := B5.cell; have f_B5 := B5.frozen; have l_B5 := B5.lt; have c_B6 := B6.cell; have f_B6 := B6.frozen; have l_B6 := B6.lt; have c_B7 := B7.cell; have f_B7 := B7.frozen; have l_B7 := B7.lt; have c_B8 := B8.cell; have f_B8 := B8.frozen; have l_B8 := B8.lt
    refine (HS1.out _ E).mono ?_
    rintro e V4 ⟨rfl, hV4⟩
    clear c_B4 f_B4 l_B4; replace B4 := B4.ext hV4; replace E := Ext.trans E hV4; clear hV4; have c_B4 := B4.cell; have f_B4 := B4.frozen; have l_B4 := B4.lt
    clear c_B5 f_B5 l_B5 c_B6 f_B6 l_B6 c_B7 f_B7 l_B7 c_B8 f_B8 l_B8 B5 B6 B7 B8
    go_wp2_with fail
    refine (HA.out _).mono ?_
    rintro e w5 ⟨rfl, h5⟩
    obtain ⟨hc_w5, hf_w5, hz_w5⟩ := bcell h5; (try simp only [szA] at hz_w5); (try have := wz0 w w5); (try have := wz1 w w5); (try have := wz2 w w5); (try have := wz3 w w5); (try have := wz4 w w5)
    go_wp2_with fail
    go_ret
    exact ⟨rfl, E0.out.trans (E.trans ext_by)⟩
end Go.Proofs.YtfniicgoeljmdaaGreat

namespace Go.Proofs.YtfniicgoeljmdaaGreat
open Go.RowKit Go.ChangeShapes Go.WideShapes Go.ChangeAt

set_option maxRecDepth 100000 in
set_option maxHeartbeats 1000000 in
theorem contains_lifted (os : Os) (started : os.Started) (H : Type) (enc : TypeId × Value → H) :
    ReturnsInHanded {} Tryz.checked os 5 .any (Rows.orbitContainsSpec.pre6 enc Tryz.prog Tryz.f5 Rows.orbitContainsRow.domain false) (Rows.orbitContainsSpec.post enc Tryz.prog Tryz.f5 false true false false) := by
  refine returnsInHanded_of_change (C := Tryz.checked) own started (by kernel_rfl) Tryz.func5
    (ChangeSpec.witness6 (enc := enc) (C := Tryz.checked) false ⟨#[], #[.slice none 0 0], []⟩ 8 (by kernel_rfl) (by kernel_rfl) (by kernel_rfl) (by kernel_rfl)) ?_
  intro W base args ds gs before hval0 hW _ _
  have hval : ∀ (j : Nat) t v, Tryz.f5.params[j]? = some t → args[j]? = some v → Value.okWide Tryz.prog W .any base t v := hval0
  have hW' := hW
  obtain ⟨p, q, hA0, hV, rfl, hfz, hnd⟩ := hW
  have hA : DataW.TrodAll enc Tryz.prog W 0 (fun _ => true) true Tryz.f5.params.toList args.toList ds p := hA0
  rw [Tryz.params5] at hA hval
  obtain ⟨v0, vs0, d0, ds0, p0, q0, hargs, rfl, rfl, h0, r0⟩ := trodAll_cons hA
  obtain ⟨rfl, rfl, rfl⟩ := trodAll_nil r0
  obtain ⟨rfl, rfl⟩ := trodVars_none hV
  obtain rfl : args = #[v0] := by cases args; simp_all
  obtain ⟨A0, len0, cap0, rfl⟩ := okWide_slice Tryz.underlying48 (hval 0 _ v0 rfl rfl)
  obtain ⟨fuel0, h0⟩ := h0
  obtain ⟨A_0, n_0, c_0, l_0, e0, hl0⟩ := open_ints h0
  injection e0 with e0 _; injection e0 with e0a e0b e0c; subst e0a e0b e0c
  refine (OrbitContains_c A0 len0 cap0 l_0 W hl0).mono fun e W' ⟨he, hb⟩ => ?_
  subst he
  exact ⟨_, rfl, law_post (by kernel_rfl) rfl rfl hW' rfl hb⟩

end Go.Proofs.YtfniicgoeljmdaaGreat
