/- More small tools for the walks of the laws that make their arguments by numbers. No condition. OrbitTight, walked: it returns true. No condition. -/
import Derived.Test.YtfniicgoeljmdaaOutStart
import Derived.Test.YtfniicgoeljmdaaOwnBoxes
import Derived.Laws.CopyRow
import Derived.Laws.CopyOwn
import Derived.Laws.Externs
import Derived.Lib.AppendZerosOnto
import Derived.Lib.Overlaps
import Derived.Test.YtfniicgoeljmdaaGen
import Derived.Test.YtfniicgoeljmdaaStep
import Derived.Test.YtfniicgoeljmdaaBoxSet
import Derived.Scope
import Derived.LoopN
import Derived.Test.YtfniicgoeljmdaaMovesLaw
import Derived.Test.YtfniicgoeljmdaaAwakeFour
import Derived.Test.YtfniicgoeljmdaaMade
import Derived.Test.YtfniicgoeljmdaaStepM
import Derived.Test.YtfniicgoeljmdaaFreeWalk
import Derived.Test.YtfniicgoeljmdaaForced
namespace Go.Proofs.Ytfniicgoeljmdaa
open Go.RowKit

theorem drift_of {ll lh el eh gs : Int} (h : (0 ≤ ll ∧ ll ≤ lh ∧ lh ≤ 4) ∧ (-3 ≤ el ∧ el ≤ eh ∧ eh ≤ 3) ∧ 0 ≤ gs ∧ gs ≤ 2) : driftErr ⟨⟨ll, lh⟩, ⟨el, eh⟩, gs⟩ = 0 := by
  unfold driftErr
  rw [if_pos (boundErr_ok.2 (by dsimp only; omega)), if_pos (boundErr_ok.2 (by dsimp only; omega)), if_pos ((within_iff _ _ _).2 (by dsimp only; omega))]
end Go.Proofs.Ytfniicgoeljmdaa

namespace Go.Proofs.Ytfniicgoeljmdaa
open Go.RowKit

theorem made_wd5 {s : Sky} {d : Drf} (h : MadeSky s) (hd : driftErr d = 0) : wdErr s.world.bodies s.world.home d = 0 := wdErr_ok.2 ⟨(sky_ok h.ok).1, hd⟩
theorem step_ok5 {l : List Body} {home : Int} {d : Drf} {tick : Int} {b : Bx} (M : Moves l home d tick) (hb : bxErr b = 0) (hc : bxErr (stepB l home d tick b) = 0) : stepM l home d tick b = ⟨stepB l home d tick b, 0⟩ := by
  unfold stepM
  rw [if_pos M.wd, if_pos ((within_iff _ _ _).2 M.now), if_pos hb, if_pos hc]
theorem step_no5 {l : List Body} {home : Int} {d : Drf} {tick : Int} {b : Bx} (M : Moves l home d tick) (hb : bxErr b = 0) (hc : bxErr (stepB l home d tick b) ≠ 0) : stepM l home d tick b = ⟨zeroB, 14⟩ := by
  unfold stepM
  rw [if_pos M.wd, if_pos ((within_iff _ _ _).2 M.now), if_pos hb, if_neg hc]
def IsPr (a b : Int) (v : Value) (w : World) : Prop := ∃ A, v = .slice A 2 2 ∧ Ints w A 2 [a, b]
theorem IsPr.stable (a b : Int) (v : Value) : Stable (IsPr a b v) := fun _ _ ⟨A, h, hb⟩ e => ⟨A, h, Ints.ext e hb⟩
theorem pr_get {w : World} {b off : Nat} {x y : Int} (h : ∀ k (hk : k < [x, y].length), intAt w [x, y][k] b (off + k * 1)) :
    (∀ W, Ext w W → W.cell? ⟨b, off, none⟩ = some (.int .i64 x)) ∧ (∀ W, Ext w W → W.cell? ⟨b, off + 1, none⟩ = some (.int .i64 y)) ∧ b < w.heap.size := by
  have h0 : w.cell? ⟨b, off, none⟩ = some (.int .i64 x) := h 0 (by simp)
  have h1 : w.cell? ⟨b, off + 1, none⟩ = some (.int .i64 y) := h 1 (by simp)
  exact ⟨fun W hW => hW.cell h0, fun W hW => hW.cell h1, World.block_lt_of_cell? w _ h0⟩
theorem pr_two {b off : Nat} {x y : Int} {w : World} (h : (∀ W, Ext w W → W.cell? ⟨b, off, none⟩ = some (.int .i64 x)) ∧ (∀ W, Ext w W → W.cell? ⟨b, off + 1, none⟩ = some (.int .i64 y)) ∧ b < w.heap.size) (k : Nat) (hk : k < 2) :
    ∃ U, (U = x ∨ U = y) ∧ ∀ W, Ext w W → W.cell? ⟨b, off + k, none⟩ = some (.int .i64 U) := by
  obtain rfl | rfl : k = 0 ∨ k = 1 := by omega
  · exact ⟨x, .inl rfl, h.1⟩
  · exact ⟨y, .inr rfl, h.2.1⟩
set_option maxRecDepth 20000 in
set_option maxHeartbeats 8000000 in
theorem OrbitTight_c (A : Option Addr) (n c : Nat) (l : List Int) (w : World) (hl : Ints w A n l) :
    Calls Try.prog 3 #[.slice A n c] w fun e w' => e = .returned (.bool true) ∧ Ext w w' := by
  have HA := Lib.hid fun W => awake4_c W
  go_enter Try.func3, Try.ntmps3
  go_wp2_with fail
  refine (made4_c A n c l _ hl).mono ?_
  rintro e w1 ⟨g, A1, n1, c1, home, A2, n2, c2, A3, n3, c3, s, ll, lh, el, eh, gs, b, x, y, u, v, bs, rfl, hF, hsky, hms, hgas, hsm, hx0⟩
  have E1 := hF.ext
  have hb := hsm.ok
  have hx := hx0.holds
  have hdr := drift_of hgas
  have hwd := made_wd5 hms hdr
  have M : Moves s.world.bodies s.world.home ⟨⟨ll, lh⟩, ⟨el, eh⟩, gs⟩ 0 := moves_of hwd (by omega)
  have hst := st_of_box hb hx
  have hpt := (pt_valid hst).1
  obtain ⟨⟨s1, s2⟩, ⟨s3, s4⟩, ⟨s5, s6⟩, s7, s8⟩ := stErr_ok.1 hst
  dsimp only at s1 s2 s3 s4 s5 s6 s7 s8
  obtain rfl : home = s.world.home := hsky.home
  have hbod := hsky.bodies
  generalize s.world.home = hd at *
  generalize s.world.bodies = bl at *
  clear hsky hms hgas hsm hx0 hl hF hb hx hdr hwd
  go_wp2_with fail
  obtain ⟨V, hV⟩ : ∃ W, W = (((((w1.alloc (.cells #[.slice A1 n1 c1, .int .i64 hd, .slice A2 n2 c2, .slice A3 n3 c3] 30)).alloc (.cells #[.int .i64 ll, .int .i64 lh, .int .i64 el, .int .i64 eh, .int .i64 gs] 34)).alloc (.cells #[.int .i64 b.x.lo, .int .i64 b.x.hi, .int .i64 b.y.lo, .int .i64 b.y.hi, .int .i64 b.u.lo, .int .i64 b.u.hi, .int .i64 b.v.lo, .int .i64 b.v.hi] 36)).alloc (.cells #[.int .i64 x, .int .i64 y, .int .i64 u, .int .i64 v] 38)).alloc (.cells #[.int .i64 x, .int .i64 x, .int .i64 y, .int .i64 y, .int .i64 u, .int .i64 u, .int .i64 v, .int .i64 v] 36)) := ⟨_, rfl⟩
  rw [← hV]
  obtain ⟨z, hz⟩ : ∃ z, z = w1.heap.size := ⟨_, rfl⟩
  have B4 : Blk V z 30 #[.slice A1 n1 c1, .int .i64 hd, .slice A2 n2 c2, .slice A3 n3 c3] := by rw [hV]; exact ((((Blk.newAt hz).alloc _).alloc _).alloc _).alloc _
  have B5 : Blk V (z + 1) 34 #[.int .i64 ll, .int .i64 lh, .int .i64 el, .int .i64 eh, .int .i64 gs] := by rw [hV]; exact (((Blk.newAt (by simp [hz])).alloc _).alloc _).alloc _
  have B7 : Blk V (z + 1 + 1 + 1) 38 #[.int .i64 x, .int .i64 y, .int .i64 u, .int .i64 v] := by rw [hV]; exact (Blk.newAt (by simp [hz])).alloc _
  have EV : Ext w1 V := by rw [hV]; exact ext_by
  rw [← hz]
  clear hV hz
  have hbod2 := Bodies.ext EV hbod
  have E2 := E1.trans EV
  clear hbod E1 EV
  have HST := Lib.hid fun W (hW : Ext V W) => oStep_c A1 n1 c1 hd 0 W bl ⟨⟨ll, lh⟩, ⟨el, eh⟩, gs⟩ (ptB ⟨x, y, u, v⟩) (Bodies.ext hW hbod2)
  have HPO := Lib.hid fun U T W (hW : Ext V W) => oPossible_c A1 n1 c1 hd bl ⟨⟨ll, lh⟩, ⟨el, eh⟩, gs⟩ 0 x y u v (x + U) (y + T) U T W (Bodies.ext hW hbod2)
  have E0 := Lib.hid E2
  have E : Ext V V := Ext.refl _
  clear hbod2 E2
  by_cases hc : bxErr (stepB bl hd ⟨⟨ll, lh⟩, ⟨el, eh⟩, gs⟩ 0 (ptB ⟨x, y, u, v⟩)) = 0
  · obtain ⟨t1, t2, t3, t4⟩ := tight_law M hst hc
    rw [step_ok5 M hpt hc] at HST
    have hbd := bxErr_iff.1 hc
    unfold BxOk Sm at hbd
    clear M hst hpt hc
    generalize stepB bl hd ⟨⟨ll, lh⟩, ⟨el, eh⟩, gs⟩ 0 (ptB ⟨x, y, u, v⟩) = S at *
    obtain ⟨⟨sxl, sxh⟩, ⟨syl, syh⟩, ⟨ul, uh⟩, vl, vh⟩ := S
    dsimp only at t1 t2 t3 t4 hbd
    injection t3 with t3 t5
    injection t4 with t4 t6
    subst t3 t4 t5 t6
    obtain ⟨⟨_, _, _⟩, ⟨_, _, _⟩, ⟨b1, b2, b3⟩, b4, b5, b6⟩ := hbd
    have HP1 : Hid (∀ U T, (U = ul ∨ U = uh) → (T = vl ∨ T = vh) → ∀ W, Ext V W → Calls Try.prog 7 #[.agg #[.slice A1 n1 c1, .int .i64 hd], .agg #[.int .i64 ll, .int .i64 lh, .int .i64 el, .int .i64 eh, .int .i64 gs], .int .i64 0, .agg #[.int .i64 x, .int .i64 y, .int .i64 u, .int .i64 v], .agg #[.int .i64 (x + U), .int .i64 (y + T), .int .i64 U, .int .i64 T]] W fun e w' => e = .returned (.bool true) ∧ Ext W w') := fun U T hU hT W hW => by
      have := HPO.out U T W hW
      rw [t1 U T hU hT] at this
      exact this
    have HP2 : Hid (∀ U T, (U = ul - 1 ∨ U = uh + 1) → ∀ W, Ext V W → Calls Try.prog 7 #[.agg #[.slice A1 n1 c1, .int .i64 hd], .agg #[.int .i64 ll, .int .i64 lh, .int .i64 el, .int .i64 eh, .int .i64 gs], .int .i64 0, .agg #[.int .i64 x, .int .i64 y, .int .i64 u, .int .i64 v], .agg #[.int .i64 (x + U), .int .i64 (y + T), .int .i64 U, .int .i64 T]] W fun e w' => e = .returned (.bool false) ∧ Ext W w') := fun U T hU W hW => by
      have := HPO.out U T W hW
      rw [t2 U T hU] at this
      exact this
    clear t1 t2 HPO
    dsimp only [bxRV, ptB] at HST
    have c_B4 := B4.cell; have f_B4 := B4.frozen; have l_B4 := B4.lt; have c_B5 := B5.cell; have f_B5 := B5.frozen; have l_B5 := B5.lt; have c_B7 := B7.cell; have f_B7 := B7.frozen; have l_B7 := B7.lt
    refine (HST.out _ E).mono ?_
    rintro e V4 ⟨rfl, hV4⟩
    clear c_B4 f_B4 l_B4; replace B4 := B4.ext hV4; clear c_B5 f_B5 l_B5; replace B5 := B5.ext hV4; clear c_B7 f_B7 l_B7; replace B7 := B7.ext hV4; replace E := Ext.trans E hV4; clear hV4; have c_B4 := B4.cell; have f_B4 := B4.frozen; have l_B4 := B4.lt; have c_B5 := B5.cell; have f_B5 := B5.frozen; have l_B5 := B5.lt; have c_B7 := B7.cell; have f_B7 := B7.frozen; have l_B7 := B7.lt
    clear HST
    go_wp2_with fail
    refine name_w _ ?_
    intro V5 hV5
    obtain ⟨z9, hz9⟩ : ∃ z, z = V4.heap.size := ⟨_, rfl⟩
    have B9 : Blk V5 z9 36 #[.int .i64 (x + ul), .int .i64 (x + uh), .int .i64 (y + vl), .int .i64 (y + vh), .int .i64 ul, .int .i64 uh, .int .i64 vl, .int .i64 vh] := by rw [hV5]; exact Blk.newAt hz9
    have e5 : Ext V4 V5 := by rw [hV5]; exact Ext.alloc0 _ _
    rw [← hz9]
    clear hV5 hz9
    clear c_B4 f_B4 l_B4; replace B4 := B4.ext e5; clear c_B5 f_B5 l_B5; replace B5 := B5.ext e5; clear c_B7 f_B7 l_B7; replace B7 := B7.ext e5; replace E := Ext.trans E e5; clear e5; have c_B4 := B4.cell; have f_B4 := B4.frozen; have l_B4 := B4.lt; have c_B5 := B5.cell; have f_B5 := B5.frozen; have l_B5 := B5.lt; have c_B7 := B7.cell; have f_B7 := B7.frozen; have l_B7 := B7.lt
    have c_B9 := B9.cell; have f_B9 := B9.frozen; have l_B9 := B9.lt
    refine wp_region_free (by kernel_rfl) (by kernel_rfl) ?_
    iterate 6 (apply fb_op; rfl; rfl; (intro w1 h1; obtain ⟨hc, hf, hz⟩ := bcell h1; go_simp; (try go_bits); (first | exact ⟨rfl, Ext.refl _⟩)); simp only [putX])
    refine (fb_slice (m := 2) (c := 2) (t := 2) (cs := #[.int .i64 ul, .int .i64 uh]) rfl rfl (fun w1 h1 => ?_) ?_)
    · go_simp
    iterate 6 (apply fb_op; rfl; rfl; (intro w1 h1; obtain ⟨hc, hf, hz⟩ := bcell h1; go_simp; (try go_bits); (first | exact ⟨rfl, Ext.refl _⟩)); simp only [putX])
    refine (fb_slice (m := 2) (c := 2) (t := 2) (cs := #[.int .i64 vl, .int .i64 vh]) rfl rfl (fun w1 h1 => ?_) ?_)
    · go_simp
    refine fb_use_eff (IsPr ul uh) (IsPr.stable ul uh) rfl (fun u => rfl) (fun u W hW hg => ?_) ?_
    · obtain ⟨g', rfl, h⟩ := hg
      simp only [putX]
      exact runs_val (by go_simp) ⟨⟨_, rfl, int_slice [ul, uh] h (by simp)⟩, Ext.refl _⟩
    refine fb_use_eff (IsPr vl vh) (IsPr.stable vl vh) rfl (fun u => rfl) (fun u W hW hg => ?_) ?_
    · obtain ⟨g', rfl, h⟩ := hg
      simp only [putX]
      exact runs_val (by go_simp) ⟨⟨_, rfl, int_slice [vl, vh] h (by simp)⟩, Ext.refl _⟩
    refine fb_nil ?_
    intro val w6 h6 hg
    obtain ⟨Av, hgv, hBv⟩ := hg _ (List.Mem.head _)
    obtain ⟨Au, hgu, hBu⟩ := hg _ (List.Mem.tail _ (List.Mem.head _))
    clear hg
    simp only [putV, Act.put, List.setIfInBounds_toArray, List.set_cons_zero, List.set_cons_succ, hgv, hgu]
    clear hgv hgu
    generalize val 6 = x6
    generalize val 13 = x13
    clear c_B4 f_B4 l_B4; replace B4 := B4.ext h6; clear c_B5 f_B5 l_B5; replace B5 := B5.ext h6; clear c_B7 f_B7 l_B7; replace B7 := B7.ext h6; clear c_B9 f_B9 l_B9; replace B9 := B9.ext h6; replace E := Ext.trans E h6; clear h6; have c_B4 := B4.cell; have f_B4 := B4.frozen; have l_B4 := B4.lt; have c_B5 := B5.cell; have f_B5 := B5.frozen; have l_B5 := B5.lt; have c_B7 := B7.cell; have f_B7 := B7.frozen; have l_B7 := B7.lt; have c_B9 := B9.cell; have f_B9 := B9.frozen; have l_B9 := B9.lt
    obtain ⟨bu, ou, rfl, hcu⟩ := hBu.at_ (by simp)
    obtain ⟨bv, ov, rfl, hcv⟩ := hBv.at_ (by simp)
    have HU := Lib.hid (pr_get hcu)
    have HV := Lib.hid (pr_get hcv)
    have D4 := Lib.hid B4
    have D5 := Lib.hid B5
    have D7 := Lib.hid B7
    have D9 := Lib.hid B9
    have DE := Lib.hid E
    clear hcu hcv hBu hBv c_B4 f_B4 l_B4 c_B5 f_B5 l_B5 c_B7 f_B7 l_B7 c_B9 f_B9 l_B9 B4 B5 B7 B9 E
    go_wp2_with fail
    go_loopw [13] (fun i wr => ∃ k : Nat, k ≤ 2 ∧ i = .int .i64 k ∧ Ext w6 wr) (fun i _ => 2 - (intOf i).toNat)
    case atStart => exact ⟨0, Nat.zero_le _, rfl, Ext.refl _⟩
    case round =>
      obtain ⟨k, hk, rfl, hbo⟩ := hrel
      by_cases hlt : k < 2
      · obtain ⟨wo, rfl⟩ : ∃ wo : World, wo = wr := ⟨_, rfl⟩
        have hkz : (k : Int) < 2 := by omega
        have hkb : decide ((k : Int) < 2) = true := by simp; omega
        obtain ⟨U, hU, HUk⟩ := pr_two HU.out k hlt
        have HUK := Lib.hid HUk
        clear HUk
        go_wp2_with fail
        go_loopw [14] (fun j wr => ∃ m : Nat, m ≤ 2 ∧ j = .int .i64 m ∧ Ext w6 wr) (fun j _ => 2 - (intOf j).toNat)
        case atStart => exact ⟨0, Nat.zero_le _, rfl, hbo⟩
        case round =>
          obtain ⟨m, hm, rfl, hb⟩ := hrel
          by_cases hlt2 : m < 2
          · have hmz : (m : Int) < 2 := by omega
            obtain ⟨T, hT, HTm⟩ := pr_two HV.out m hlt2
            have q1 := HUK.out wr hb
            have q2 := HTm wr hb
            have q3 : bu < wr.heap.size := World.block_lt_of_cell? wr _ q1
            have q4 : bv < wr.heap.size := World.block_lt_of_cell? wr _ q2
            clear HTm
            have B4 := D4.out.ext hb
            have B5 := D5.out.ext hb
            have B7 := D7.out.ext hb
            have E := DE.out.trans hb
            have HP := Lib.hid fun W hW => HP1.out U T hU hT W hW
            have hU2 : -1048576 ≤ U ∧ U ≤ 1048576 := by omega
            have hT2 : -1048576 ≤ T ∧ T ≤ 1048576 := by omega
            obtain ⟨u1, u2⟩ := hU2
            obtain ⟨u3, u4⟩ := hT2
            clear hU hT
            have c_B4 := B4.cell; have f_B4 := B4.frozen; have l_B4 := B4.lt; have c_B5 := B5.cell; have f_B5 := B5.frozen; have l_B5 := B5.lt; have c_B7 := B7.cell; have f_B7 := B7.frozen; have l_B7 := B7.lt
            go_wp2_with fail
            refine wp_region_text (by kernel_rfl) (by kernel_rfl) ?_
            (repeat' (first | (refine bl_off (by rfl) ?_; simp only [putX]) | (apply bl_op; rfl; (intro w1 h1; obtain ⟨hc, hf, hz⟩ := bcell h1; go_simp; (try go_bits); (first | exact ⟨rfl, Ext.refl _⟩ | (apply gives_call; go_at_call 7; exact HP.out _ ext_by) | (go_invoke; go_simp; apply gives_call; go_at_call 7; exact HP.out _ ext_by))); simp only [putX]) | (refine bl_split rfl rfl (fun hx => ?_) (fun hx => ?_) <;> simp only [hx])))
            refine bl_nil ?_
            intro w7 h7
            obtain ⟨hc_w7, hf_w7, hz_w7⟩ := bcell h7; (try simp only [szA] at hz_w7); (try have := wz0 w w7); (try have := wz1 w w7); (try have := wz2 w w7); (try have := wz3 w w7); (try have := wz4 w w7)
            go_wp2_with fail
            go_roundw
            case rel => exact ⟨m + 1, by omega, by go_num, ext_by⟩
            case measure => simp [intOf]; omega
          · obtain rfl : m = 2 := by omega
            go_wp2_with fail
            go_roundw
            case rel => exact ⟨k + 1, by omega, by go_num, hb⟩
            case measure => simp [intOf]; omega
      · obtain rfl : k = 2 := by omega
        go_wp2_with fail
        go_loopw [15] (fun i wr => ∃ k : Nat, k ≤ 2 ∧ i = .int .i64 (-1 + 2 * k) ∧ Ext w6 wr) (fun i _ => (3 - intOf i).toNat)
        case atStart => exact ⟨0, Nat.zero_le _, rfl, hbo⟩
        case round =>
          obtain ⟨k, hk, rfl, hb⟩ := hrel
          have q1 := HU.out.1 wr hb
          have q2 := HU.out.2.1 wr hb
          have q3 := HV.out.1 wr hb
          have q4 := HV.out.2.1 wr hb
          have q5 : bu < wr.heap.size := World.block_lt_of_cell? wr _ q1
          have q6 : bv < wr.heap.size := World.block_lt_of_cell? wr _ q3
          have B4 := D4.out.ext hb
          have B5 := D5.out.ext hb
          have B7 := D7.out.ext hb
          have B9 := D9.out.ext hb
          have E := DE.out.trans hb
          have c_B4 := B4.cell; have f_B4 := B4.frozen; have l_B4 := B4.lt; have c_B5 := B5.cell; have f_B5 := B5.frozen; have l_B5 := B5.lt; have c_B7 := B7.cell; have f_B7 := B7.frozen; have l_B7 := B7.lt; have c_B9 := B9.cell; have f_B9 := B9.frozen; have l_B9 := B9.lt
          obtain rfl | rfl | rfl : k = 0 ∨ k = 1 ∨ k = 2 := by omega
          · have HP := Lib.hid fun W hW => HP2.out (ul - 1) vl (.inl rfl) W hW
            rw [show ul - 1 = ul + -1 by omega] at HP
            go_wp2_with fail
            refine wp_region_text (by kernel_rfl) (by kernel_rfl) ?_
            (repeat' (first | (refine bl_off (by rfl) ?_; simp only [putX]) | (apply bl_op; rfl; (intro w1 h1; obtain ⟨hc, hf, hz⟩ := bcell h1; go_simp; (try go_bits); (first | exact ⟨rfl, Ext.refl _⟩ | (apply gives_call; go_at_call 7; exact HP.out _ ext_by) | (go_invoke; go_simp; apply gives_call; go_at_call 7; exact HP.out _ ext_by))); simp only [putX]) | (refine bl_split rfl rfl (fun hx => ?_) (fun hx => ?_) <;> simp only [hx])))
            refine bl_nil ?_
            intro w7 h7
            obtain ⟨hc_w7, hf_w7, hz_w7⟩ := bcell h7; (try simp only [szA] at hz_w7); (try have := wz0 w w7); (try have := wz1 w w7); (try have := wz2 w w7); (try have := wz3 w w7); (try have := wz4 w w7)
            go_wp2_with fail
            go_roundw
            case rel => exact ⟨1, by omega, by go_num, ext_by⟩
            case measure => simp [intOf]
          · have HP := Lib.hid fun W hW => HP2.out (uh + 1) vl (.inr rfl) W hW
            go_wp2_with fail
            refine wp_region_text (by kernel_rfl) (by kernel_rfl) ?_
            (repeat' (first | (refine bl_off (by rfl) ?_; simp only [putX]) | (apply bl_op; rfl; (intro w1 h1; obtain ⟨hc, hf, hz⟩ := bcell h1; go_simp; (try go_bits); (first | exact ⟨rfl, Ext.refl _⟩ | (apply gives_call; go_at_call 7; exact HP.out _ ext_by) | (go_invoke; go_simp; apply gives_call; go_at_call 7; exact HP.out _ ext_by))); simp only [putX]) | (refine bl_split rfl rfl (fun hx => ?_) (fun hx => ?_) <;> simp only [hx])))
            refine bl_nil ?_
            intro w7 h7
            obtain ⟨hc_w7, hf_w7, hz_w7⟩ := bcell h7; (try simp only [szA] at hz_w7); (try have := wz0 w w7); (try have := wz1 w w7); (try have := wz2 w w7); (try have := wz3 w w7); (try have := wz4 w w7)
            go_wp2_with fail
            go_roundw
            case rel => exact ⟨2, by omega, by go_num, ext_by⟩
            case measure => simp [intOf]
          · go_wp2_with fail
            refine wp_region_text (by kernel_rfl) (by kernel_rfl) ?_
            (repeat' (first | (refine bl_off (by rfl) ?_; simp only [putX]) | (apply bl_op; rfl; (intro w1 h1; obtain ⟨hc, hf, hz⟩ := bcell h1; go_simp; (try go_bits); (first | exact ⟨rfl, Ext.refl _⟩ | (apply gives_call; go_at_call 6; exact HA.out _) | (go_invoke; go_simp; apply gives_call; go_at_call 6; exact HA.out _))); simp only [putX]) | (refine bl_split rfl rfl (fun hx => ?_) (fun hx => ?_) <;> simp only [hx])))
            refine bl_nil ?_
            intro w7 h7
            obtain ⟨hc_w7, hf_w7, hz_w7⟩ := bcell h7; (try simp only [szA] at hz_w7); (try have := wz0 w w7); (try have := wz1 w w7); (try have := wz2 w w7); (try have := wz3 w w7); (try have := wz4 w w7)
            go_wp2_with fail
            go_ret
            exact ⟨rfl, E0.out.trans ext_by⟩
  · rw [step_no5 M hpt hc] at HST
    clear HPO M hst hpt hc
    dsimp only [bxRV, ptB, zeroB] at HST
    have c_B4 := B4.cell; have f_B4 := B4.frozen; have l_B4 := B4.lt; have c_B5 := B5.cell; have f_B5 := B5.frozen; have l_B5 := B5.lt; have c_B7 := B7.cell; have f_B7 := B7.frozen; have l_B7 := B7.lt
    refine (HST.out _ E).mono ?_
    rintro e V4 ⟨rfl, hV4⟩
    clear c_B4 f_B4 l_B4; replace B4 := B4.ext hV4; replace E := Ext.trans E hV4; clear hV4; have c_B4 := B4.cell; have f_B4 := B4.frozen; have l_B4 := B4.lt
    clear c_B5 f_B5 l_B5 c_B7 f_B7 l_B7 B5 B7
    go_wp2_with fail
    refine (HA.out _).mono ?_
    rintro e w5 ⟨rfl, h5⟩
    obtain ⟨hc_w5, hf_w5, hz_w5⟩ := bcell h5; (try simp only [szA] at hz_w5); (try have := wz0 w w5); (try have := wz1 w w5); (try have := wz2 w w5); (try have := wz3 w w5); (try have := wz4 w w5)
    go_wp2_with fail
    go_ret
    exact ⟨rfl, E0.out.trans (E.trans ext_by)⟩
end Go.Proofs.Ytfniicgoeljmdaa
