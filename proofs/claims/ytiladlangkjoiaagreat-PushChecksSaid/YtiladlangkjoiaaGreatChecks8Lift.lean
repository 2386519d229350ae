/- PushChecks, walked: it returns true. No condition. PushChecks, lifted to what the statement says of a run. No condition. -/
import Derived.Test.YtiladlangkjoiaaGreatRefSpeeds
import Derived.Test.YtiladlangkjoiaaGreatRefCamp
import Derived.Test.YtiladlangkjoiaaGreatPushCamp
import Derived.Test.YtiladlangkjoiaaGreatAwakeEight
import Derived.Test.YtiladlangkjoiaaGreatOpenPush
namespace Go.Proofs.YtiladlangkjoiaaGreat
open Go.RowKit Go.ChangeShapes Go.WideShapes Go.ChangeAt

set_option maxRecDepth 20000 in
set_option maxHeartbeats 8000000 in
theorem PushChecks_c (A : Option Addr) (n c : Nat) (l : List Body) (home : Int) (m : Mis) (xl xh yl yh fast : Int) (A1 : Option Addr) (n1 c1 : Nat) (A2 : Option Addr) (n2 c2 : Nat) (C : Camp) (w : World) (hl : Bodies w A n l) (hM : Miss w A1 n1 C.missions) (hK : Keys w A2 n2 C.keys) :
    Calls Tryz.prog 3 #[.agg #[.slice A n c, .int .i64 home], .agg #[.int .i64 m.kind, .int .i64 m.launch, .int .i64 m.arrive, .int .i64 m.dur, .int .i64 m.mass.lo, .int .i64 m.mass.hi, .int .i64 m.power.lo, .int .i64 m.power.hi, .int .i64 m.mult.lo, .int .i64 m.mult.hi, .int .i64 m.dir.x, .int .i64 m.dir.y, .bool m.reserve, .int .i64 m.cost], .agg #[.int .i64 xl, .int .i64 xh, .int .i64 yl, .int .i64 yh], .int .i64 fast, .agg #[.slice A1 n1 c1, .int .i64 C.body.lo, .int .i64 C.body.hi, .int .i64 C.fast, .int .i64 C.fails, .int .i64 C.miss, .int .i64 C.ticks, .slice A2 n2 c2]] w fun e w' => e = .returned (.bool true) ∧ Ext w w' := by
  have HA := Lib.hid fun W => awake8_c W
  have HB := Lib.hid fun W (hW : Ext w W) => BigWorld_c A n c home l W (Bodies.ext hW hl)
  have HBC := Lib.hid fun W (hW : Ext w W) => bigCamp_c A1 n1 c1 A2 n2 c2 C W (Miss.ext hW hM) (Keys.ext hW hK)
  have H1 := Lib.hid fun W (hW : Ext w W) => pSpeedsT_c m A n c home l W xl xh yl yh (Bodies.ext hW hl)
  have G1 := Lib.hid fun W (hW : Ext w W) => qSpeedsT_c m A n c home l W xl xh yl yh (Bodies.ext hW hl)
  have H2 := Lib.hid fun W => pCheckMission_c m W
  have G2 := Lib.hid fun W => qCheckMission_c m W
  have H3 := Lib.hid fun W (hW : Ext w W) => pCamp_c A1 n1 c1 A2 n2 c2 C W (Miss.ext hW hM) (Keys.ext hW hK)
  have G3 := Lib.hid fun W (hW : Ext w W) => qCamp_c A1 n1 c1 A2 n2 c2 C W (Miss.ext hW hM) (Keys.ext hW hK)
  have H4 := Lib.hid fun W (hW : Ext w W) => pReaches_c m A n c home l W xl xh yl yh fast (Bodies.ext hW hl)
  have G4 := Lib.hid fun W (hW : Ext w W) => qReaches_c m A n c home l W xl xh yl yh fast (Bodies.ext hW hl)
  generalize bigWld l = G at *
  generalize bigCamp C = GC at *
  generalize spdA l home m ⟨⟨xl, xh⟩, ⟨yl, yh⟩⟩ = S at *
  generalize spdErr l home m ⟨⟨xl, xh⟩, ⟨yl, yh⟩⟩ = E1 at *
  generalize misErr m = E2 at *
  generalize campErr C = E3 at *
  generalize reachB l home m ⟨⟨xl, xh⟩, ⟨yl, yh⟩⟩ fast = R at *
  obtain ⟨⟨s1, s2⟩, s3, s4⟩ := S
  dsimp only [arV] at H1 G1
  clear hl hM hK
  cases G
  · cases GC
    · go_enter Tryz.func3, Tryz.ntmps3
      go_wp2_with fail
      refine (HB.out _ ext_by).mono ?_
      rintro e w1 ⟨rfl, h1⟩
      have B5 : Blk w1 w.heap.size 24 #[.slice A n c, .int .i64 home] := ((((Blk.newAt rfl).alloc _).alloc _).alloc _).ext h1
      have B6 : Blk w1 (w.heap.size + 1) 30 #[.int .i64 m.kind, .int .i64 m.launch, .int .i64 m.arrive, .int .i64 m.dur, .int .i64 m.mass.lo, .int .i64 m.mass.hi, .int .i64 m.power.lo, .int .i64 m.power.hi, .int .i64 m.mult.lo, .int .i64 m.mult.hi, .int .i64 m.dir.x, .int .i64 m.dir.y, .bool m.reserve, .int .i64 m.cost] := (((Blk.newAt (by simp)).alloc _).alloc _).ext h1
      have B7 : Blk w1 (w.heap.size + 1 + 1) 32 #[.int .i64 xl, .int .i64 xh, .int .i64 yl, .int .i64 yh] := ((Blk.newAt (by simp)).alloc _).ext h1
      have B9 : Blk w1 (w.heap.size + 1 + 1 + 1) 36 #[.slice A1 n1 c1, .int .i64 C.body.lo, .int .i64 C.body.hi, .int .i64 C.fast, .int .i64 C.fails, .int .i64 C.miss, .int .i64 C.ticks, .slice A2 n2 c2] := (Blk.newAt (by simp)).ext h1
      have E : Ext w w1 := ext_by
      clear h1 HB
      have c_B9 := B9.cell; have f_B9 := B9.frozen; have l_B9 := B9.lt
      go_wp2_with fail
      refine (HBC.out _ ext_by).mono ?_
      rintro e w2 ⟨rfl, h2⟩
      clear c_B9 f_B9 l_B9
      replace B5 := B5.ext h2
      replace B6 := B6.ext h2
      replace B7 := B7.ext h2
      replace B9 := B9.ext h2
      replace E := E.trans h2
      clear h2 HBC
      have c_B5 := B5.cell; have f_B5 := B5.frozen; have l_B5 := B5.lt; have c_B6 := B6.cell; have f_B6 := B6.frozen; have l_B6 := B6.lt; have c_B7 := B7.cell; have f_B7 := B7.frozen; have l_B7 := B7.lt
      go_wp2_with fail
      refine (H1.out _ ext_by).mono ?_
      rintro e w3 ⟨rfl, h3⟩
      clear c_B5 f_B5 l_B5 c_B6 f_B6 l_B6 c_B7 f_B7 l_B7
      replace B5 := B5.ext h3
      replace B6 := B6.ext h3
      replace B7 := B7.ext h3
      replace B9 := B9.ext h3
      replace E := E.trans h3
      have l9 : w.heap.size + 1 + 1 + 1 < w3.heap.size := B9.lt
      have l8 : w.heap.size + 1 + 1 < w3.heap.size := by omega
      have l7 : w.heap.size + 1 < w3.heap.size := by omega
      have l6 : w.heap.size < w3.heap.size := by omega
      clear h3 H1
      have c_B5 := B5.cell; have f_B5 := B5.frozen; have l_B5 := B5.lt; have c_B6 := B6.cell; have f_B6 := B6.frozen; have l_B6 := B6.lt; have c_B7 := B7.cell; have f_B7 := B7.frozen; have l_B7 := B7.lt
      go_wp2_with fail
      refine (G1.out _ ext_by).mono ?_
      rintro e w4 ⟨rfl, h4⟩
      clear c_B5 f_B5 l_B5 c_B6 f_B6 l_B6 c_B7 f_B7 l_B7
      have B11 : Blk w4 w3.heap.size 32 #[.int .i64 s1, .int .i64 s2, .int .i64 s3, .int .i64 s4] := (Blk.newAt rfl).ext h4
      replace B5 := (B5.alloc _).ext h4
      replace B6 := (B6.alloc _).ext h4
      replace B7 := (B7.alloc _).ext h4
      replace B9 := (B9.alloc _).ext h4
      replace E := (E.alloc _).trans h4
      clear h4 G1
      go_wp2_with fail
      refine name_world _ ?_
      intro w5 hw5
      have B13 : Blk w5 w4.heap.size 32 #[.int .i64 s1, .int .i64 s2, .int .i64 s3, .int .i64 s4] := by rw [hw5]; exact Blk.newAt rfl
      have C5 : Blk w5 w.heap.size 24 #[.slice A n c, .int .i64 home] := by rw [hw5]; exact B5.alloc _
      have C6 : Blk w5 (w.heap.size + 1) 30 #[.int .i64 m.kind, .int .i64 m.launch, .int .i64 m.arrive, .int .i64 m.dur, .int .i64 m.mass.lo, .int .i64 m.mass.hi, .int .i64 m.power.lo, .int .i64 m.power.hi, .int .i64 m.mult.lo, .int .i64 m.mult.hi, .int .i64 m.dir.x, .int .i64 m.dir.y, .bool m.reserve, .int .i64 m.cost] := by rw [hw5]; exact B6.alloc _
      have C7 : Blk w5 (w.heap.size + 1 + 1) 32 #[.int .i64 xl, .int .i64 xh, .int .i64 yl, .int .i64 yh] := by rw [hw5]; exact B7.alloc _
      have C9 : Blk w5 (w.heap.size + 1 + 1 + 1) 36 #[.slice A1 n1 c1, .int .i64 C.body.lo, .int .i64 C.body.hi, .int .i64 C.fast, .int .i64 C.fails, .int .i64 C.miss, .int .i64 C.ticks, .slice A2 n2 c2] := by rw [hw5]; exact B9.alloc _
      have C11 : Blk w5 w3.heap.size 32 #[.int .i64 s1, .int .i64 s2, .int .i64 s3, .int .i64 s4] := by rw [hw5]; exact B11.alloc _
      have E5 : Ext w w5 := by rw [hw5]; exact E.alloc _
      clear hw5 B5 B6 B7 B9 B11 E l6 l7 l8 l9
      have c_C5 := C5.cell; have f_C5 := C5.frozen; have l_C5 := C5.lt; have c_C6 := C6.cell; have f_C6 := C6.frozen; have l_C6 := C6.lt; have c_C7 := C7.cell; have f_C7 := C7.frozen; have l_C7 := C7.lt; have c_C9 := C9.cell; have f_C9 := C9.frozen; have l_C9 := C9.lt; have c_C11 := C11.cell; have f_C11 := C11.frozen; have l_C11 := C11.lt; have c_B13 := B13.cell; have f_B13 := B13.frozen; have l_B13 := B13.lt
      refine wp_region_text (by kernel_rfl) (by kernel_rfl) ?_
      (repeat' (first | (refine bl_off (by rfl) ?_; simp only [putX]) | (apply bl_op; rfl; (intro w1 h1; obtain ⟨hc, hf, hz⟩ := bcell h1; go_simp; (try go_bits); (first | exact ⟨rfl, Ext.refl _⟩ | (apply gives_call; first | (go_at_call 24; exact H2.out _) | (go_at_call 25; exact G2.out _) | (go_at_call 26; exact H3.out _ ext_by) | (go_at_call 27; exact G3.out _ ext_by) | (go_at_call 28; exact H4.out _ ext_by) | (go_at_call 29; exact G4.out _ ext_by) | (go_at_call 21; exact HA.out _)) | (go_invoke; go_simp; apply gives_call; first | (go_at_call 24; exact H2.out _) | (go_at_call 25; exact G2.out _) | (go_at_call 26; exact H3.out _ ext_by) | (go_at_call 27; exact G3.out _ ext_by) | (go_at_call 28; exact H4.out _ ext_by) | (go_at_call 29; exact G4.out _ ext_by) | (go_at_call 21; exact HA.out _)))); simp only [putX]) | (refine bl_split rfl rfl (fun hx => ?_) (fun hx => ?_) <;> simp only [hx])))
      refine bl_nil ?_
      intro w6 h6
      obtain ⟨hc_w6, hf_w6, hz_w6⟩ := bcell h6; (try simp only [szA] at hz_w6); (try have := wz0 w w6); (try have := wz1 w w6); (try have := wz2 w w6); (try have := wz3 w w6); (try have := wz4 w w6)
      go_wp2_with fail
      go_ret
      exact ⟨rfl, ext_by⟩
    · clear H1 G1 H2 G2 H3 G3 H4 G4
      go_enter Tryz.func3, Tryz.ntmps3
      go_wp2_with fail
      refine (HB.out _ ext_by).mono ?_
      rintro e w1 ⟨rfl, h1⟩
      have B9 : Blk w1 (w.heap.size + 1 + 1 + 1) 36 #[.slice A1 n1 c1, .int .i64 C.body.lo, .int .i64 C.body.hi, .int .i64 C.fast, .int .i64 C.fails, .int .i64 C.miss, .int .i64 C.ticks, .slice A2 n2 c2] := (Blk.newAt (by simp)).ext h1
      have E : Ext w w1 := ext_by
      clear h1 HB
      have c_B9 := B9.cell; have f_B9 := B9.frozen; have l_B9 := B9.lt
      go_wp2_with fail
      refine (HBC.out _ ext_by).mono ?_
      rintro e w2 ⟨rfl, h2⟩
      go_wp2_with fail
      refine (HA.out _).mono ?_
      rintro e w3 ⟨rfl, h3⟩
      go_wp2_with fail
      go_ret
      exact ⟨rfl, ext_by⟩
  · clear H1 G1 H2 G2 H3 G3 H4 G4 HBC
    go_enter Tryz.func3, Tryz.ntmps3
    go_wp2_with fail
    refine (HB.out _ ext_by).mono ?_
    rintro e w1 ⟨rfl, h1⟩
    go_wp2_with fail
    refine (HA.out _).mono ?_
    rintro e w3 ⟨rfl, h3⟩
    go_wp2_with fail
    go_ret
    exact ⟨rfl, ext_by⟩
end Go.Proofs.YtiladlangkjoiaaGreat

namespace Go.Proofs.YtiladlangkjoiaaGreat
open Go.RowKit Go.ChangeShapes Go.WideShapes Go.ChangeAt

set_option maxRecDepth 100000 in
set_option maxHeartbeats 1000000 in
theorem pchecks_lifted (os : Os) (started : os.Started) (H : Type) (enc : TypeId × Value → H) :
    ReturnsInHanded {} Tryz.checked os 3 .any (Rows.pushChecksSpec.pre6 enc Tryz.prog Tryz.f3 Rows.pushChecksRow.domain false) (Rows.pushChecksSpec.post enc Tryz.prog Tryz.f3 false true false false) := by
  refine returnsInHanded_of_change (C := Tryz.checked) own started (by kernel_rfl) Tryz.func3
    (ChangeSpec.witness6 (enc := enc) (C := Tryz.checked) false ⟨#[], #[.agg #[.slice none 0 0, .int .i64 0], .agg #[.int .i64 0, .int .i64 0, .int .i64 0, .int .i64 0, .int .i64 0, .int .i64 0, .int .i64 0, .int .i64 0, .int .i64 0, .int .i64 0, .int .i64 0, .int .i64 0, .bool false, .int .i64 0], .agg #[.int .i64 0, .int .i64 0, .int .i64 0, .int .i64 0], .int .i64 0, .agg #[.slice none 0 0, .int .i64 0, .int .i64 0, .int .i64 0, .int .i64 0, .int .i64 0, .int .i64 0, .slice none 0 0]], []⟩ 8 (by kernel_rfl) (by kernel_rfl) (by kernel_rfl) (by kernel_rfl)) ?_
  intro W base args ds gs before hval0 hW _ _
  have hval : ∀ (j : Nat) t v, Tryz.f3.params[j]? = some t → args[j]? = some v → Value.okWide Tryz.prog W .any base t v := hval0
  have hW' := hW
  obtain ⟨p, q, hA0, hV, rfl, hfz, hnd⟩ := hW
  have hA : DataW.TrodAll enc Tryz.prog W 0 (fun _ => true) true Tryz.f3.params.toList args.toList ds p := hA0
  rw [Tryz.params3] at hA hval
  obtain ⟨v0, vs0, d0, ds0, p0, q0, hargs, rfl, rfl, h0, r0⟩ := trodAll_cons hA
  obtain ⟨v1, vs1, d1, ds1, p1, q1, rfl, rfl, rfl, h1, r1⟩ := trodAll_cons r0
  obtain ⟨v2, vs2, d2, ds2, p2, q2, rfl, rfl, rfl, h2, r2⟩ := trodAll_cons r1
  obtain ⟨v3, vs3, d3, ds3, p3, q3, rfl, rfl, rfl, h3, r3⟩ := trodAll_cons r2
  obtain ⟨v4, vs4, d4, ds4, p4, q4, rfl, rfl, rfl, h4, r4⟩ := trodAll_cons r3
  obtain ⟨rfl, rfl, rfl⟩ := trodAll_nil r4
  obtain ⟨rfl, rfl⟩ := trodVars_none hV
  obtain rfl : args = #[v0, v1, v2, v3, v4] := by cases args; simp_all
  obtain ⟨cs0, rfl, _⟩ := okWide_struct Tryz.underlying24 (hval 0 _ v0 rfl rfl)
  obtain ⟨fuel0, h0⟩ := h0
  obtain ⟨A_0, n_0, c_0, l_0, home_0, e0, hl0⟩ := open_world h0
  obtain ⟨cs0⟩ := cs0
  obtain rfl : cs0 = _ := e0
  obtain ⟨cs1, rfl, _⟩ := okWide_struct Tryz.underlying30 (hval 1 _ v1 rfl rfl)
  obtain ⟨fuel1, h1⟩ := h1
  obtain ⟨x1, e1⟩ := open_mission h1
  obtain ⟨cs1⟩ := cs1
  obtain rfl : cs1 = _ := e1
  obtain ⟨cs2, rfl, _⟩ := okWide_struct Tryz.underlying32 (hval 2 _ v2 rfl rfl)
  obtain ⟨fuel2, h2⟩ := h2
  obtain ⟨x2, y2, e2⟩ := open_area h2
  obtain ⟨cs2⟩ := cs2
  obtain rfl : cs2 = _ := e2
  obtain ⟨m3, rfl⟩ := okWide_int Tryz.underlying2 (hval 3 _ v3 rfl rfl)
  obtain ⟨cs4, rfl, _⟩ := okWide_struct Tryz.underlying36 (hval 4 _ v4 rfl rfl)
  obtain ⟨fuel4, h4⟩ := h4
  obtain ⟨A1_4, n1_4, c1_4, A2_4, n2_4, c2_4, x_4, e4, hm4, hk4⟩ := open_camp h4
  obtain ⟨cs4⟩ := cs4
  obtain rfl : cs4 = _ := e4
  refine (PushChecks_c A_0 n_0 c_0 l_0 home_0 x1 _ _ _ _ _ A1_4 n1_4 c1_4 A2_4 n2_4 c2_4 x_4 W hl0    hm4 hk4).mono fun e W' ⟨he, hb⟩ => ?_
  subst he
  exact ⟨_, rfl, law_post (by kernel_rfl) rfl rfl hW' rfl hb⟩

end Go.Proofs.YtiladlangkjoiaaGreat
