/- Propagating m ticks and then n is propagating m and n; updating without sights is propagating. Plain law. No condition. OrbitGoesOn, walked: it returns true. No condition. OrbitGoesOn, lifted to what the statement says of a run. No condition. -/
import Derived.Test.YtfniicgoeljmdaaGreatKeepsLaw
import Derived.Test.YtfniicgoeljmdaaGreatOutMore
import Derived.Test.YtfniicgoeljmdaaGreatPropagate
import Derived.Test.YtfniicgoeljmdaaGreatUpdateAll
import Derived.Test.YtfniicgoeljmdaaGreatMade
import Derived.Test.YtfniicgoeljmdaaGreatCellsWalk
import Derived.Test.YtfniicgoeljmdaaGreatAwakeFour
import Derived.Test.YtfniicgoeljmdaaGreatOwnBoxes
import Derived.Test.YtfniicgoeljmdaaGreatOpen2
import Derived.Test.YtfniicgoeljmdaaGreatLaw
namespace Go.Proofs.YtfniicgoeljmdaaGreat
open Go.RowKit

theorem way_of {tick ticks : Int} {L : List Bx} (h1 : 0 ≤ ticks ∧ ticks ≤ 400) (h2 : 0 ≤ tick ∧ tick ≤ 1073741824 - ticks) (h3 : setErr L = 0) : wayErr tick ticks L = 0 := by
  unfold wayErr
  rw [if_pos (And.intro h1 h2), h3]
theorem goes_law {s : Sky} {d : Drf} {C : List Bx} {m n : Nat} (hs : skyErr s = 0) (hd : driftErr d = 0) (hv : setErr C = 0) (hm : m ≤ 5) (hn : n ≤ 5) :
    updErr s d 2 C ((m : Int) + n) [] = propErr s.world.bodies s.world.home d 2 C ((m : Int) + n) ∧ updL s d 2 C ((m : Int) + n) [] = propL s.world.bodies s.world.home d 2 C ((m : Int) + n) ∧
    (propErr s.world.bodies s.world.home d 2 C m ≠ 0 → propErr s.world.bodies s.world.home d 2 C m = 14 ∧ propErr s.world.bodies s.world.home d 2 C ((m : Int) + n) = 14) ∧
    (propErr s.world.bodies s.world.home d 2 C m = 0 → propErr s.world.bodies s.world.home d (2 + m) (propL s.world.bodies s.world.home d 2 C m) n = propErr s.world.bodies s.world.home d 2 C ((m : Int) + n) ∧
      propL s.world.bodies s.world.home d (2 + m) (propL s.world.bodies s.world.home d 2 C m) n = propL s.world.bodies s.world.home d 2 C ((m : Int) + n)) := by
  have hw := sky_wd hs hd
  have y12 : wayErr 2 ((m : Int) + n) C = 0 := way_of (by omega) (by omega) hv
  have y1 : wayErr 2 (m : Int) C = 0 := way_of (by omega) (by omega) hv
  obtain ⟨e12, l12⟩ := prop_err hw y12
  obtain ⟨e1, l1⟩ := prop_err hw y1
  have t12 : ((m : Int) + n).toNat = m + n := by omega
  have t1 : ((m : Int)).toNat = m := by omega
  rw [t12] at e12 l12
  rw [t1] at e1 l1
  have hu : updErr s d 2 C ((m : Int) + n) [] = propErr s.world.bodies s.world.home d 2 C ((m : Int) + n) := by
    rw [e12]
    unfold updErr
    rw [if_pos hs, if_pos hd, if_pos y12, if_pos (show sgsErr s [] = 0 from rfl), filt_none, upd_none, t12]
  refine ⟨hu, ?_, fun h => ?_, fun h => ?_⟩
  · unfold updL
    rw [hu, filt_none, upd_none, t12, l12]
    split
    · rfl
    · rename_i h
      rw [e12] at h
      cases hp : propM s.world.bodies s.world.home d (m + n) 2 C with
      | none => rfl
      | some K => rw [hp] at h; exact absurd rfl h
  · rw [e1] at h ⊢
    rw [e12, prop_add]
    cases hp : propM s.world.bodies s.world.home d m 2 C with
    | none => exact ⟨rfl, rfl⟩
    | some K => rw [hp] at h; exact absurd rfl h
  · rw [e1] at h
    rw [l1, e12, l12, prop_add]
    cases hp : propM s.world.bodies s.world.home d m 2 C with
    | none => rw [hp] at h; cases h
    | some K =>
      obtain ⟨v1, v2⟩ := prop_valid m 2 C K (set_ok hv).2 hp
      have hk : setErr K = 0 := set_of (by rw [v2]; exact (set_ok hv).1) v1
      have y2 : wayErr (2 + (m : Int)) (n : Int) K = 0 := way_of (by omega) (by omega) hk
      obtain ⟨e2, l2⟩ := prop_err hw y2
      rw [show ((n : Int)).toNat = n by omega] at e2 l2
      exact ⟨e2, l2⟩
end Go.Proofs.YtfniicgoeljmdaaGreat

namespace Go.Proofs.YtfniicgoeljmdaaGreat
open Go.RowKit

set_option maxRecDepth 20000 in
set_option maxHeartbeats 8000000 in
theorem OrbitGoesOn_c (A : Option Addr) (n c : Nat) (l : List Int) (N mm nn : Int) (w : World) (hl : Ints w A n l) :
    Calls Tryz.prog 11 #[.slice A n c, .int .i64 N, .int .i64 mm, .int .i64 nn] w fun e w' => e = .returned (.bool true) ∧ Ext w w' := by
  have HA := Lib.hid fun W => awake4_c W
  have HS := Lib.hid fun A' n' c' B' m' d' l' W => SameBoxes_c A' n' c' B' m' d' l' W
  go_enter Tryz.func11, Tryz.ntmps11
  go_wp2_with fail
  refine (made4_c A n c l _ hl).mono ?_
  rename World => w0
  rintro e w ⟨g, A1, n1, c1, home, A2, n2, c2, A3, n3, c3, s, ll, lh, el, eh, gs, b, x, y, u, v, bs, rfl, hF, hsky, hms, hgas, hsm, _⟩
  have E0 := Lib.hid hF.ext
  have hb := hsm.ok
  have hdr := drift_of hgas
  have hsk := hms.ok
  have hhome := hsky.home
  obtain ⟨M, hM, hM1⟩ := mod_nat N (m := 10) (by omega)
  obtain ⟨m, hm, hm1⟩ := mod_nat mm (m := 6) (by omega)
  obtain ⟨k, hk, hk1⟩ := mod_nat nn (m := 6) (by omega)
  have HM := Lib.hid fun W => ModN_c W hM (by omega) (by omega)
  have HMm := Lib.hid fun W => ModN_c W hm (by omega) (by omega)
  have HMk := Lib.hid fun W => ModN_c W hk (by omega) (by omega)
  obtain ⟨t1, t2, t3⟩ := cells_made hb (M := M) (by omega)
  have HCells := Lib.hid fun W => oCells_c b (1 + (M : Int)) W
  rw [t1, t2] at HCells
  generalize cellsB b (M + 1) = C at *
  obtain ⟨p1, p2, p3, p4⟩ := goes_law (m := m) (n := k) hsk hdr t3 (by omega) (by omega)
  rw [← hhome] at p1 p2 p3 p4
  have HP := Lib.hid fun tick B' m' e' L ticks W (hW : Ext w W) (h : Bxs W B' m' L) => oPropagate_c A1 n1 c1 home s.world.bodies ⟨⟨ll, lh⟩, ⟨el, eh⟩, gs⟩ tick B' m' e' L ticks W (hsky.ext hW).bodies h
  have HU := Lib.hid fun B' m' e' W (hW : Ext w W) (h : Bxs W B' m' C) => oUpdate_c A1 n1 c1 home A2 n2 c2 A3 n3 c3 s ⟨⟨ll, lh⟩, ⟨el, eh⟩, gs⟩ 2 B' m' e' C ((m : Int) + k) none 0 0 [] W (hsky.ext hW) h (SlR.nil _ _ _)
  rw [p1, p2] at HU
  have HP12 := Lib.hid fun B' m' e' W hW h => HP.out 2 B' m' e' C ((m : Int) + k) W hW h
  have HP1 := Lib.hid fun B' m' e' W hW h => HP.out 2 B' m' e' C (m : Int) W hW h
  have HP2 := Lib.hid fun B' m' e' W hW h => HP.out (2 + (m : Int)) B' m' e' (propL s.world.bodies home ⟨⟨ll, lh⟩, ⟨el, eh⟩, gs⟩ 2 C m) (k : Int) W hW h
  clear HP p1 p2 hM hm hk t1 t2 t3 hdr hsk hms hgas hsm hb hF hl hsky hhome
  generalize propErr s.world.bodies home ⟨⟨ll, lh⟩, ⟨el, eh⟩, gs⟩ 2 C ((m : Int) + k) = E12 at *
  generalize propL s.world.bodies home ⟨⟨ll, lh⟩, ⟨el, eh⟩, gs⟩ 2 C ((m : Int) + k) = L12 at *
  generalize propErr s.world.bodies home ⟨⟨ll, lh⟩, ⟨el, eh⟩, gs⟩ 2 C m = Ep at *
  generalize propL s.world.bodies home ⟨⟨ll, lh⟩, ⟨el, eh⟩, gs⟩ 2 C m = Lp at *
  generalize propErr s.world.bodies home ⟨⟨ll, lh⟩, ⟨el, eh⟩, gs⟩ (2 + (m : Int)) Lp k = Eq at *
  generalize propL s.world.bodies home ⟨⟨ll, lh⟩, ⟨el, eh⟩, gs⟩ (2 + (m : Int)) Lp k = Lq at *
  dsimp only at HP12 HP1 HP2 HU
  have P3 := Lib.hid p3
  have P4 := Lib.hid p4
  clear p3 p4
  go_wp2_with fail
  obtain ⟨V, hV⟩ : ∃ W, W = ((((w.alloc (.cells #[.slice A1 n1 c1, .int .i64 home, .slice A2 n2 c2, .slice A3 n3 c3] 53)).alloc (.cells #[.int .i64 ll, .int .i64 lh, .int .i64 el, .int .i64 eh, .int .i64 gs] 28)).alloc (.cells #[.int .i64 b.x.lo, .int .i64 b.x.hi, .int .i64 b.y.lo, .int .i64 b.y.hi, .int .i64 b.u.lo, .int .i64 b.u.hi, .int .i64 b.v.lo, .int .i64 b.v.hi] 38)).alloc (.cells #[.int .i64 x, .int .i64 y, .int .i64 u, .int .i64 v] 30)) := ⟨_, rfl⟩
  rw [← hV]
  obtain ⟨z, hz⟩ : ∃ z, z = w.heap.size := ⟨_, rfl⟩
  have B10 : Blk V z 53 #[.slice A1 n1 c1, .int .i64 home, .slice A2 n2 c2, .slice A3 n3 c3] := by rw [hV]; exact (((Blk.newAt hz).alloc _).alloc _).alloc _
  have B11 : Blk V (z + 1) 28 #[.int .i64 ll, .int .i64 lh, .int .i64 el, .int .i64 eh, .int .i64 gs] := by rw [hV]; exact ((Blk.newAt (by simp [hz])).alloc _).alloc _
  have B12 : Blk V (z + 1 + 1) 38 #[.int .i64 b.x.lo, .int .i64 b.x.hi, .int .i64 b.y.lo, .int .i64 b.y.hi, .int .i64 b.u.lo, .int .i64 b.u.hi, .int .i64 b.v.lo, .int .i64 b.v.hi] := by rw [hV]; exact (Blk.newAt (by simp [hz])).alloc _
  have E : Ext w V := by rw [hV]; exact ext_by
  rw [← hz]
  clear hV hz
  have c_B10 := B10.cell; have f_B10 := B10.frozen; have l_B10 := B10.lt; have c_B11 := B11.cell; have f_B11 := B11.frozen; have l_B11 := B11.lt; have c_B12 := B12.cell; have f_B12 := B12.frozen; have l_B12 := B12.lt
  refine (HMm.out _).mono ?_
  rintro e V2 ⟨rfl, hV2⟩
  clear c_B10 f_B10 l_B10
  replace B10 := B10.ext hV2
  clear c_B11 f_B11 l_B11
  replace B11 := B11.ext hV2
  clear c_B12 f_B12 l_B12
  replace B12 := B12.ext hV2
  replace E : Ext w V2 := Ext.trans ext_by hV2
  clear hV2
  have c_B10 := B10.cell; have f_B10 := B10.frozen; have l_B10 := B10.lt; have c_B11 := B11.cell; have f_B11 := B11.frozen; have l_B11 := B11.lt; have c_B12 := B12.cell; have f_B12 := B12.frozen; have l_B12 := B12.lt
  go_wp2_with fail
  refine (HMk.out _).mono ?_
  rintro e V3 ⟨rfl, hV3⟩
  clear c_B10 f_B10 l_B10
  replace B10 := B10.ext hV3
  clear c_B11 f_B11 l_B11
  replace B11 := B11.ext hV3
  clear c_B12 f_B12 l_B12
  replace B12 := B12.ext hV3
  replace E : Ext w V3 := Ext.trans ext_by hV3
  clear hV3
  have c_B10 := B10.cell; have f_B10 := B10.frozen; have l_B10 := B10.lt; have c_B11 := B11.cell; have f_B11 := B11.frozen; have l_B11 := B11.lt; have c_B12 := B12.cell; have f_B12 := B12.frozen; have l_B12 := B12.lt
  go_wp2_with fail
  refine wp_region_chain0 false [([0, 1, 2, 3], 4)] [5, 6, 7, 8, 9] [] (Ext V3) (Ext V3) (Stable.ext _) (fun _ h => h) (Ext.drew (Ext.refl _)) (by kernel_rfl) (by kernel_rfl) ?_
  simp only [XO, pick, List.drop_succ_cons, List.drop_zero]
  (repeat' (first | (refine bl_off (by rfl) ?_; simp only [putX]) | (apply bl_op; rfl; (intro w1 h1; obtain ⟨hc, hf, hz⟩ := bcell h1; go_simp; (try go_bits); (first | exact ⟨rfl, Ext.refl _⟩ | (apply gives_call; go_at_call 53; exact HM.out _) | (go_invoke; go_simp; apply gives_call; go_at_call 53; exact HM.out _))); simp only [putX]) | (refine bl_split rfl rfl (fun hx => ?_) (fun hx => ?_) <;> simp only [hx])))
  refine bl_nil ?_
  try simp only [pick1, List.drop_succ_cons, List.drop_zero]
  refine xe_callV (f := 46) (args := #[bxV b, .int .i64 (1 + (M : Int))]) (fun v => ∃ A' c', v = .tuple #[.slice A' C.length c', .int .i64 0]) (fun v W => Ext V3 W ∧ ∀ A' m' c' e', v = .tuple #[.slice A' m' c', e'] → Bxs W A' C.length C) rfl (fun v => (Stable.ext _).and (fun W W' h e A' m' c' e' hv => Bxs.ext e (h A' m' c' e' hv))) (fun v W h => h.1) (fun w h => by go_simp) (fun w h => ?_) ?_
  · refine (HCells.out w).mono ?_
    rintro e w' ⟨A', c', rfl, k1, k2, k3⟩
    refine ⟨_, rfl, ⟨A', c', rfl⟩, h.trans k3, ?_⟩
    intro A'' m'' c'' e'' hv
    injection hv with hv
    injection hv with hv
    injection hv with hv _
    injection hv with hv1 hv2 hv3
    rw [← hv1]
    exact k1
  rintro r ⟨Ac, cc, rfl⟩
  simp only [putX]
  (repeat' (first | (refine bl_off (by rfl) ?_; simp only [putX]) | (apply bl_op; rfl; (intro w1 h1; obtain ⟨hc, hf, hz⟩ := bcell h1; go_simp; (try go_bits); (first | exact ⟨rfl, Ext.refl _⟩)); simp only [putX]) | (refine bl_split rfl rfl (fun hx => ?_) (fun hx => ?_) <;> simp only [hx])))
  refine bl_nil ?_
  refine tl_nil ?_
  rintro V4 ⟨h4, hC4⟩
  have hC4 := hC4 _ _ _ _ rfl
  clear c_B10 f_B10 l_B10 c_B11 f_B11 l_B11 c_B12 f_B12 l_B12
  replace B10 := B10.ext h4
  replace B11 := B11.ext h4
  replace E := E.trans h4
  have HC := Lib.hid fun W (hW : Ext V4 W) => Bxs.ext hW hC4
  clear B12 hC4 h4 HCells HM HMm HMk
  have c_B10 := B10.cell; have f_B10 := B10.frozen; have l_B10 := B10.lt; have c_B11 := B11.cell; have f_B11 := B11.frozen; have l_B11 := B11.lt
  go_wp2_with fail
  refine (HP12.out Ac _ cc V4 E (HC.out _ (Ext.refl _))).mono ?_
  rintro e V5 ⟨v5, rfl, ho5, hV5⟩
  obtain ⟨A5, c5, rfl, hs5, _⟩ := ho5.cap
  clear c_B10 f_B10 l_B10 c_B11 f_B11 l_B11
  replace B10 := B10.ext hV5
  replace B11 := B11.ext hV5
  replace E := E.trans hV5
  have HC5 := Lib.hid fun W (hW : Ext V5 W) => HC.out W (hV5.trans hW)
  have HW5 := Lib.hid fun W (hW : Ext V5 W) => Bxs.ext hW hs5
  clear hV5 ho5 hs5 HC HP12
  have c_B10 := B10.cell; have f_B10 := B10.frozen; have l_B10 := B10.lt; have c_B11 := B11.cell; have f_B11 := B11.frozen; have l_B11 := B11.lt
  go_wp2_with fail
  refine (HU.out Ac _ cc V5 E (HC5.out _ (Ext.refl _))).mono ?_
  rintro e V6 ⟨v6, rfl, ho6, hV6⟩
  obtain ⟨A6, c6, rfl, hs6, _⟩ := ho6.cap
  clear c_B10 f_B10 l_B10 c_B11 f_B11 l_B11
  replace B10 := B10.ext hV6
  replace B11 := B11.ext hV6
  replace E := E.trans hV6
  have HC6 := Lib.hid fun W (hW : Ext V6 W) => HC5.out W (hV6.trans hW)
  have HW6 := Lib.hid fun W (hW : Ext V6 W) => HW5.out W (hV6.trans hW)
  have Q1 := Lib.hid fun W (hW : Ext V6 W) => HS.out _ _ c5 _ _ c6 _ W (HW6.out W hW) (Bxs.ext hW hs6)
  clear hV6 ho6 hs6 HC5 HW5 HU
  have c_B10 := B10.cell; have f_B10 := B10.frozen; have l_B10 := B10.lt; have c_B11 := B11.cell; have f_B11 := B11.frozen; have l_B11 := B11.lt
  go_wp2_with fail
  refine (Q1.out V6 (Ext.refl _)).mono ?_
  rintro e V7 ⟨rfl, hV7⟩
  clear c_B10 f_B10 l_B10 c_B11 f_B11 l_B11
  replace B10 := B10.ext hV7
  replace B11 := B11.ext hV7
  replace E := E.trans hV7
  have HC7 := Lib.hid fun W (hW : Ext V7 W) => HC6.out W (hV7.trans hW)
  have HW7 := Lib.hid fun W (hW : Ext V7 W) => HW6.out W (hV7.trans hW)
  clear hV7 HC6 HW6 Q1
  have c_B10 := B10.cell; have f_B10 := B10.frozen; have l_B10 := B10.lt; have c_B11 := B11.cell; have f_B11 := B11.frozen; have l_B11 := B11.lt
  go_wp2_with fail
  refine (HP1.out Ac _ cc V7 E (HC7.out _ (Ext.refl _))).mono ?_
  rintro e V8 ⟨v8, rfl, ho8, hV8⟩
  obtain ⟨A8, c8, rfl, hs8, _⟩ := ho8.cap
  clear c_B10 f_B10 l_B10 c_B11 f_B11 l_B11
  replace B10 := B10.ext hV8
  replace B11 := B11.ext hV8
  replace E := E.trans hV8
  have HW8 := Lib.hid fun W (hW : Ext V8 W) => HW7.out W (hV8.trans hW)
  clear hV8 ho8 HC7 HW7 HP1
  by_cases hEp : Ep = 0
  · obtain ⟨j1, j2⟩ := P4.out hEp
    subst hEp
    subst j1 j2
    clear P3 P4
    have c_B10 := B10.cell; have f_B10 := B10.frozen; have l_B10 := B10.lt; have c_B11 := B11.cell; have f_B11 := B11.frozen; have l_B11 := B11.lt
    go_wp2_with fail
    refine (HP2.out A8 _ c8 V8 E hs8).mono ?_
    rintro e V9 ⟨v9, rfl, ho9, hV9⟩
    obtain ⟨A9, c9, rfl, hs9, _⟩ := ho9.cap
    have Q2 := Lib.hid fun W (hW : Ext V9 W) => HS.out _ _ c9 _ _ c5 _ W (Bxs.ext hW hs9) (HW8.out W (hV9.trans hW))
    clear c_B10 f_B10 l_B10 c_B11 f_B11 l_B11
    replace E := E.trans hV9
    clear hV9 ho9 hs9 hs8 HW8 HP2 B10 B11
    go_wp2_with fail
    refine (Q2.out _ ext_by).mono ?_
    rintro e w10 ⟨rfl, h10⟩
    obtain ⟨hc_w10, hf_w10, hz_w10⟩ := bcell h10; (try simp only [szA] at hz_w10); (try have := wz0 w w10); (try have := wz1 w w10); (try have := wz2 w w10); (try have := wz3 w w10); (try have := wz4 w w10)
    go_wp2_with fail
    refine (HA.out _).mono ?_
    rintro e w11 ⟨rfl, h11⟩
    obtain ⟨hc_w11, hf_w11, hz_w11⟩ := bcell h11; (try simp only [szA] at hz_w11); (try have := wz0 w w11); (try have := wz1 w w11); (try have := wz2 w w11); (try have := wz3 w w11); (try have := wz4 w w11)
    go_wp2_with fail
    go_ret
    exact ⟨rfl, E0.out.trans ext_by⟩
  · obtain ⟨j1, j2⟩ := P3.out hEp
    subst j1 j2
    clear P3 P4 hEp hs8 HW8 HP2 B10 B11
    go_wp2_with fail
    refine (HA.out _).mono ?_
    rintro e w9 ⟨rfl, h9⟩
    obtain ⟨hc_w9, hf_w9, hz_w9⟩ := bcell h9; (try simp only [szA] at hz_w9); (try have := wz0 w w9); (try have := wz1 w w9); (try have := wz2 w w9); (try have := wz3 w w9); (try have := wz4 w w9)
    go_wp2_with fail
    go_ret
    exact ⟨rfl, E0.out.trans ext_by⟩
end Go.Proofs.YtfniicgoeljmdaaGreat

namespace Go.Proofs.YtfniicgoeljmdaaGreat
open Go.RowKit Go.ChangeShapes Go.WideShapes Go.ChangeAt

set_option maxRecDepth 100000 in
set_option maxHeartbeats 1000000 in
theorem goes_lifted (os : Os) (started : os.Started) (H : Type) (enc : TypeId × Value → H) :
    ReturnsInHanded {} Tryz.checked os 11 .any (Rows.orbitGoesOnSpec.pre6 enc Tryz.prog Tryz.f11 Rows.orbitGoesOnRow.domain false) (Rows.orbitGoesOnSpec.post enc Tryz.prog Tryz.f11 false true false false) := by
  refine returnsInHanded_of_change (C := Tryz.checked) own started (by kernel_rfl) Tryz.func11
    (ChangeSpec.witness6 (enc := enc) (C := Tryz.checked) false ⟨#[], #[.slice none 0 0, .int .i64 0, .int .i64 0, .int .i64 0], []⟩ 8 (by kernel_rfl) (by kernel_rfl) (by kernel_rfl) (by kernel_rfl)) ?_
  intro W base args ds gs before hval0 hW _ _
  have hval : ∀ (j : Nat) t v, Tryz.f11.params[j]? = some t → args[j]? = some v → Value.okWide Tryz.prog W .any base t v := hval0
  have hW' := hW
  obtain ⟨p, q, hA0, hV, rfl, hfz, hnd⟩ := hW
  have hA : DataW.TrodAll enc Tryz.prog W 0 (fun _ => true) true Tryz.f11.params.toList args.toList ds p := hA0
  rw [Tryz.params11] at hA hval
  obtain ⟨v0, vs0, d0, ds0, p0, q0, hargs, rfl, rfl, h0, r0⟩ := trodAll_cons hA
  obtain ⟨v1, vs1, d1, ds1, p1, q1, rfl, rfl, rfl, h1, r1⟩ := trodAll_cons r0
  obtain ⟨v2, vs2, d2, ds2, p2, q2, rfl, rfl, rfl, h2, r2⟩ := trodAll_cons r1
  obtain ⟨v3, vs3, d3, ds3, p3, q3, rfl, rfl, rfl, h3, r3⟩ := trodAll_cons r2
  obtain ⟨rfl, rfl, rfl⟩ := trodAll_nil r3
  obtain ⟨rfl, rfl⟩ := trodVars_none hV
  obtain rfl : args = #[v0, v1, v2, v3] := by cases args; simp_all
  obtain ⟨A0, len0, cap0, rfl⟩ := okWide_slice Tryz.underlying48 (hval 0 _ v0 rfl rfl)
  obtain ⟨fuel0, h0⟩ := h0
  obtain ⟨A_0, n_0, c_0, l_0, e0, hl0⟩ := open_ints h0
  injection e0 with e0 _; injection e0 with e0a e0b e0c; subst e0a e0b e0c
  obtain ⟨m1, rfl⟩ := okWide_int Tryz.underlying3 (hval 1 _ v1 rfl rfl)
  obtain ⟨m2, rfl⟩ := okWide_int Tryz.underlying3 (hval 2 _ v2 rfl rfl)
  obtain ⟨m3, rfl⟩ := okWide_int Tryz.underlying3 (hval 3 _ v3 rfl rfl)
  refine (OrbitGoesOn_c A0 len0 cap0 l_0 _ _ _ W hl0   ).mono fun e W' ⟨he, hb⟩ => ?_
  subst he
  exact ⟨_, rfl, law_post (by kernel_rfl) rfl rfl hW' rfl hb⟩

end Go.Proofs.YtfniicgoeljmdaaGreat
