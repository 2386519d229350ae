/- Whether a passage goes through a keyhole; a tick of a campaign: the program. No condition. -/
import Derived.Test.YtiladlangkjoiaaGreatMeetAim
import Derived.Test.YtiladlangkjoiaaGreatMeetMay
import Derived.Test.YtiladlangkjoiaaGreatPushPush
import Derived.Test.YtiladlangkjoiaaGreatPushChange
namespace Go.Proofs.YtiladlangkjoiaaGreat
open Go.RowKit

theorem areas_sm {l : List Body} {home tick : Int} {p q : Bx} (h : areasOk l home tick p q = true) : SmA 67108864 (areaM l home tick p) ∧ SmA 67108864 (areaM l home (tick + 1) q) := by
  unfold areasOk at h
  simp only [Bool.and_eq_true, decide_eq_true_eq] at h
  exact ⟨area_sm p h.1.2, area_sm q h.2⟩
section
variable (M : Option Addr) (k0 k1 : Nat) (cm : Camp) (A2 : Option Addr) (n2 c2 : Nat) (A : Option Addr) (n c : Nat) (home : Int) (l : List Body) (d : Drf) (tick : Int) (p q : Bx) (w : World)
set_option maxRecDepth 20000 in
set_option maxHeartbeats 16000000 in
theorem pThru_c (hl : Bodies w A n l) (hk : Keys w A2 n2 cm.keys) :
    Calls Tryz.prog 252 #[.agg #[.slice M k0 k1, .int .i64 cm.body.lo, .int .i64 cm.body.hi, .int .i64 cm.fast, .int .i64 cm.fails, .int .i64 cm.miss, .int .i64 cm.ticks, .slice A2 n2 c2, .slice A n c, .int .i64 home, .int .i64 d.light.lo, .int .i64 d.light.hi, .int .i64 d.heat.lo, .int .i64 d.heat.hi, .int .i64 d.gas], .int .i64 tick, .agg #[.int .i64 p.x.lo, .int .i64 p.x.hi, .int .i64 p.y.lo, .int .i64 p.y.hi, .int .i64 p.u.lo, .int .i64 p.u.hi, .int .i64 p.v.lo, .int .i64 p.v.hi], .agg #[.int .i64 q.x.lo, .int .i64 q.x.hi, .int .i64 q.y.lo, .int .i64 q.y.hi, .int .i64 q.u.lo, .int .i64 q.u.hi, .int .i64 q.v.lo, .int .i64 q.v.hi]] w fun e w' => e = .returned (.bool (thruB l home cm.keys tick p q)) ∧ Ext w w' := by
  have HA := Lib.hid fun W (hW : Ext w W) => mAreas_c A n c home tick l p q W (Bodies.ext hW hl)
  have HE := Lib.hid fun slo shi W (hW : Ext w W) => mEnters_c A2 n2 c2 cm.keys tick slo shi W (Keys.ext hW hk)
  have HS := Lib.hid (areas_sm (l := l) (home := home) (tick := tick) (p := p) (q := q))
  unfold thruB aimS
  unfold areasV at HA
  generalize areasOk l home tick p q = ok at *
  generalize areaM l home tick p = a1 at *
  generalize areaM l home (tick + 1) q = a2 at *
  clear hl hk
  cases ok
  · simp only [Bool.false_eq_true, if_false] at HA ⊢
    unfold fullS
    have HF := Lib.hid (HE.out (-1152921504606846976) 1152921504606846976)
    generalize entersB cm.keys tick _ = R at *
    unfold arV zeroA at HA
    dsimp only at HA
    clear HE HS
    go_enter Tryz.func252, Tryz.ntmps252
    go_wp2_with fail
    refine (HA.out _ ext_by).mono ?_
    rintro e w1 ⟨rfl, h1⟩
    have B4 : Blk w1 w.heap.size 146 #[.slice M k0 k1, .int .i64 cm.body.lo, .int .i64 cm.body.hi, .int .i64 cm.fast, .int .i64 cm.fails, .int .i64 cm.miss, .int .i64 cm.ticks, .slice A2 n2 c2, .slice A n c, .int .i64 home, .int .i64 d.light.lo, .int .i64 d.light.hi, .int .i64 d.heat.lo, .int .i64 d.heat.hi, .int .i64 d.gas] := ((((Blk.newAt (by simp)).alloc _).alloc _).alloc _).ext h1
    have B9 : Blk w1 (w.heap.size + 1 + 1 + 1) 26 #[.int .i64 (-1152921504606846976), .int .i64 1152921504606846976] := (Blk.newAt (by simp)).ext h1
    have E : Ext w w1 := ext_by
    have z2 : w.heap.size + 1 + 1 < w1.heap.size := by have := B9.lt; omega
    have z1 : w.heap.size + 1 < w1.heap.size := by omega
    have z0 : w.heap.size < w1.heap.size := by omega
    clear h1 HA
    have c_B4 := B4.cell; have f_B4 := B4.frozen; have l_B4 := B4.lt; have c_B9 := B9.cell; have f_B9 := B9.frozen; have l_B9 := B9.lt
    go_wp2_with fail
    refine (HF.out _ ext_by).mono ?_
    rintro e w2 ⟨rfl, h2⟩
    go_wp2_with fail
    go_ret
    exact ⟨rfl, ext_by⟩
  · simp only [if_true] at HA ⊢
    have HI := Lib.hid fun W => mAim_c a1 a2 W (HS.out rfl).1 (HS.out rfl).2
    generalize aimM a1 a2 = T at *
    obtain ⟨⟨x1, x2⟩, x3, x4⟩ := a1
    obtain ⟨⟨y1, y2⟩, y3, y4⟩ := a2
    unfold arV at HA
    dsimp only at HA HI
    clear HS
    cases T with
    | none =>
      simp only [Option.getD_none, Option.isSome_none] at HI ⊢
      unfold fullS
      have HF := Lib.hid (HE.out (-1152921504606846976) 1152921504606846976)
      generalize entersB cm.keys tick _ = R at *
      clear HE
      go_enter Tryz.func252, Tryz.ntmps252
      go_wp2_with fail
      refine (HA.out _ ext_by).mono ?_
      rintro e w1 ⟨rfl, h1⟩
      have B4 : Blk w1 w.heap.size 146 #[.slice M k0 k1, .int .i64 cm.body.lo, .int .i64 cm.body.hi, .int .i64 cm.fast, .int .i64 cm.fails, .int .i64 cm.miss, .int .i64 cm.ticks, .slice A2 n2 c2, .slice A n c, .int .i64 home, .int .i64 d.light.lo, .int .i64 d.light.hi, .int .i64 d.heat.lo, .int .i64 d.heat.hi, .int .i64 d.gas] := ((((Blk.newAt (by simp)).alloc _).alloc _).alloc _).ext h1
      have B9 : Blk w1 (w.heap.size + 1 + 1 + 1) 26 #[.int .i64 (-1152921504606846976), .int .i64 1152921504606846976] := (Blk.newAt (by simp)).ext h1
      have E : Ext w w1 := ext_by
      have z2 : w.heap.size + 1 + 1 < w1.heap.size := by have := B9.lt; omega
      have z1 : w.heap.size + 1 < w1.heap.size := by omega
      have z0 : w.heap.size < w1.heap.size := by omega
      clear h1 HA
      have c_B4 := B4.cell; have f_B4 := B4.frozen; have l_B4 := B4.lt; have c_B9 := B9.cell; have f_B9 := B9.frozen; have l_B9 := B9.lt
      go_wp2_with fail
      refine (HI.out _).mono ?_
      rintro e w2 ⟨rfl, h2⟩
      clear c_B4 f_B4 l_B4 c_B9 f_B9 l_B9
      replace B4 := (((B4.alloc _).alloc _).ext h2)
      replace B9 := (((B9.alloc _).alloc _).ext h2)
      have E2 : Ext w w2 := ext_by
      have z3 : w.heap.size + 1 + 1 < w2.heap.size := by have := B9.lt; omega
      have z4 : w.heap.size + 1 < w2.heap.size := by omega
      have z5 : w.heap.size < w2.heap.size := by omega
      clear h2 HI
      have c_B4 := B4.cell; have f_B4 := B4.frozen; have l_B4 := B4.lt; have c_B9 := B9.cell; have f_B9 := B9.frozen; have l_B9 := B9.lt
      go_wp2_with fail
      refine (HF.out _ ext_by).mono ?_
      rintro e w3 ⟨rfl, h3⟩
      go_wp2_with fail
      go_ret
      exact ⟨rfl, ext_by⟩
    | some s =>
      obtain ⟨s1, s2⟩ := s
      simp only [Option.getD_some, Option.isSome_some] at HI ⊢
      have HF := Lib.hid (HE.out s1 s2)
      generalize entersB cm.keys tick _ = R at *
      clear HE
      go_enter Tryz.func252, Tryz.ntmps252
      go_wp2_with fail
      refine (HA.out _ ext_by).mono ?_
      rintro e w1 ⟨rfl, h1⟩
      have B4 : Blk w1 w.heap.size 146 #[.slice M k0 k1, .int .i64 cm.body.lo, .int .i64 cm.body.hi, .int .i64 cm.fast, .int .i64 cm.fails, .int .i64 cm.miss, .int .i64 cm.ticks, .slice A2 n2 c2, .slice A n c, .int .i64 home, .int .i64 d.light.lo, .int .i64 d.light.hi, .int .i64 d.heat.lo, .int .i64 d.heat.hi, .int .i64 d.gas] := ((((Blk.newAt (by simp)).alloc _).alloc _).alloc _).ext h1
      have B9 : Blk w1 (w.heap.size + 1 + 1 + 1) 26 #[.int .i64 (-1152921504606846976), .int .i64 1152921504606846976] := (Blk.newAt (by simp)).ext h1
      have E : Ext w w1 := ext_by
      have z2 : w.heap.size + 1 + 1 < w1.heap.size := by have := B9.lt; omega
      have z1 : w.heap.size + 1 < w1.heap.size := by omega
      have z0 : w.heap.size < w1.heap.size := by omega
      clear h1 HA
      have c_B4 := B4.cell; have f_B4 := B4.frozen; have l_B4 := B4.lt; have c_B9 := B9.cell; have f_B9 := B9.frozen; have l_B9 := B9.lt
      go_wp2_with fail
      refine (HI.out _).mono ?_
      rintro e w2 ⟨rfl, h2⟩
      clear c_B4 f_B4 l_B4 c_B9 f_B9 l_B9
      replace B4 := (((B4.alloc _).alloc _).ext h2)
      replace B9 := (((B9.alloc _).alloc _).ext h2)
      have E2 : Ext w w2 := ext_by
      have z3 : w.heap.size + 1 + 1 < w2.heap.size := by have := B9.lt; omega
      have z4 : w.heap.size + 1 < w2.heap.size := by omega
      have z5 : w.heap.size < w2.heap.size := by omega
      clear h2 HI
      have c_B4 := B4.cell; have f_B4 := B4.frozen; have l_B4 := B4.lt; have c_B9 := B9.cell; have f_B9 := B9.frozen; have l_B9 := B9.lt
      go_wp2_with fail
      refine (HF.out _ (by exact (ext_set2 E2 (by omega)).alloc _)).mono ?_
      rintro e w3 ⟨rfl, h3⟩
      go_wp2_with fail
      go_ret
      exact ⟨rfl, Ext.trans (by exact (ext_set2 E2 (by omega)).alloc _) h3⟩
variable (B : Option Addr) (m0 e0 : Nat) (L : List Mis) (b : Bx)
set_option maxRecDepth 20000 in
set_option maxHeartbeats 16000000 in
theorem pTick_c (hl : Bodies w A n l) (hk : Keys w A2 n2 cm.keys) (hM : Miss w B m0 L) (hL : ∀ m ∈ L, misErr m = 0) (hn : L.length ≤ 8) (hd : boundErr cm.body 1 1099511627776 = 0) (hb : bxErr b = 0) :
    Calls Tryz.prog 188 #[.agg #[.slice M k0 k1, .int .i64 cm.body.lo, .int .i64 cm.body.hi, .int .i64 cm.fast, .int .i64 cm.fails, .int .i64 cm.miss, .int .i64 cm.ticks, .slice A2 n2 c2, .slice A n c, .int .i64 home, .int .i64 d.light.lo, .int .i64 d.light.hi, .int .i64 d.heat.lo, .int .i64 d.heat.hi, .int .i64 d.gas], .slice B m0 e0, .int .i64 tick, .agg #[.int .i64 b.x.lo, .int .i64 b.x.hi, .int .i64 b.y.lo, .int .i64 b.y.hi, .int .i64 b.u.lo, .int .i64 b.u.hi, .int .i64 b.v.lo, .int .i64 b.v.hi]] w fun e w' => e = .returned (.tuple #[bxV (tickM l home d cm L tick b).2, .int .i64 (tickM l home d cm L tick b).1]) ∧ Ext w w' := by
  have hk0 := hM.le
  have hlen := Lib.hid hM.len
  have HM := Lib.hid fun W (hW : Ext w W) => Miss.ext hW hM
  have HR := Lib.hid fun (m : Mis) W (hW : Ext w W) => pReaches_c m A n c home l W b.x.lo b.x.hi b.y.lo b.y.hi cm.fast (Bodies.ext hW hl)
  obtain ⟨T, hT⟩ : ∃ T, tickM l home d cm L tick b = T := ⟨_, rfl⟩
  rw [hT]
  unfold tickM farB at hT
  obtain ⟨q, hq⟩ : ∃ q, q = pushB l home L cm.body tick b := ⟨_, rfl⟩
  have HP : Hid (∀ W, Ext w W → Calls Tryz.prog 127 #[.agg #[.slice A n c, .int .i64 home], .slice B m0 e0, .agg #[.int .i64 cm.body.lo, .int .i64 cm.body.hi], .int .i64 tick, .agg #[.int .i64 b.x.lo, .int .i64 b.x.hi, .int .i64 b.y.lo, .int .i64 b.y.hi, .int .i64 b.u.lo, .int .i64 b.u.hi, .int .i64 b.v.lo, .int .i64 b.v.hi]] W fun e w' => e = .returned (.agg #[.int .i64 q.x.lo, .int .i64 q.x.hi, .int .i64 q.y.lo, .int .i64 q.y.hi, .int .i64 q.u.lo, .int .i64 q.u.hi, .int .i64 q.v.lo, .int .i64 q.v.hi]) ∧ Ext W w') := by
    rw [hq]; exact Lib.hid fun W hW => pPush_c A n c home l B m0 e0 L cm.body tick b W (Bodies.ext hW hl) (Miss.ext hW hM) hL hn hd hb
  rw [← hq] at hT
  have HK := Lib.hid fun W => oCheck_c q W
  have HS := Lib.hid fun W (hW : Ext w W) => oStep_c A n c home tick W l d q (Bodies.ext hW hl)
  have HY := Lib.hid fun (r : Bx) W (hW : Ext w W) => mMay_c A n c home tick l q r W cm.miss (Bodies.ext hW hl)
  have HU := Lib.hid fun (r : Bx) W (hW : Ext w W) => pThru_c M k0 k1 cm A2 n2 c2 A n c home l d tick q r W (Bodies.ext hW hl) (Keys.ext hW hk)
  generalize stepM l home d tick q = S at *
  obtain ⟨r, E2⟩ := S
  dsimp only [bxRV] at HS hT
  generalize bxErr q = E1 at *
  have HY := Lib.hid (HY.out r)
  have HU := Lib.hid (HU.out r)
  generalize mayB l home tick q r cm.miss = Y at *
  generalize thruB l home cm.keys tick q r = U at *
  have HT := Lib.hid hT
  clear hT hq hl hk hM hL hn hd hb
  go_enter Tryz.func188, Tryz.ntmps188
  go_wp2_with fail
  refine name_world _ ?_
  intro w1 hw1
  have B4 : Blk w1 w.heap.size 146 #[.slice M k0 k1, .int .i64 cm.body.lo, .int .i64 cm.body.hi, .int .i64 cm.fast, .int .i64 cm.fails, .int .i64 cm.miss, .int .i64 cm.ticks, .slice A2 n2 c2, .slice A n c, .int .i64 home, .int .i64 d.light.lo, .int .i64 d.light.hi, .int .i64 d.heat.lo, .int .i64 d.heat.hi, .int .i64 d.gas] := by rw [hw1]; exact ((Blk.newAt rfl).alloc _).alloc _
  have B7 : Blk w1 (w.heap.size + 1) 48 #[.int .i64 b.x.lo, .int .i64 b.x.hi, .int .i64 b.y.lo, .int .i64 b.y.hi, .int .i64 b.u.lo, .int .i64 b.u.hi, .int .i64 b.v.lo, .int .i64 b.v.hi] := by rw [hw1]; exact (Blk.newAt (by simp)).alloc _
  have B8 : Blk w1 (w.heap.size + 1 + 1) 48 #[.int .i64 0, .int .i64 0, .int .i64 0, .int .i64 0, .int .i64 0, .int .i64 0, .int .i64 0, .int .i64 0] := by rw [hw1]; exact Blk.newAt (by simp)
  have E : Ext w w1 := by rw [hw1]; exact ((Ext.alloc0 _ _).alloc _).alloc _
  clear hw1
  go_loopw [17] (fun i wr => ∃ k : Nat, k ≤ m0 ∧ i = .int .i64 k ∧ Hid (((L.drop k).any fun m => decide (m.arrive = tick) && !reachB l home m ⟨b.x, b.y⟩ cm.fast) = L.any fun m => decide (m.arrive = tick) && !reachB l home m ⟨b.x, b.y⟩ cm.fast) ∧ Hid (Blk wr w.heap.size 146 #[.slice M k0 k1, .int .i64 cm.body.lo, .int .i64 cm.body.hi, .int .i64 cm.fast, .int .i64 cm.fails, .int .i64 cm.miss, .int .i64 cm.ticks, .slice A2 n2 c2, .slice A n c, .int .i64 home, .int .i64 d.light.lo, .int .i64 d.light.hi, .int .i64 d.heat.lo, .int .i64 d.heat.hi, .int .i64 d.gas]) ∧ Hid (Blk wr (w.heap.size + 1) 48 #[.int .i64 b.x.lo, .int .i64 b.x.hi, .int .i64 b.y.lo, .int .i64 b.y.hi, .int .i64 b.u.lo, .int .i64 b.u.hi, .int .i64 b.v.lo, .int .i64 b.v.hi]) ∧ Hid (Blk wr (w.heap.size + 1 + 1) 48 #[.int .i64 0, .int .i64 0, .int .i64 0, .int .i64 0, .int .i64 0, .int .i64 0, .int .i64 0, .int .i64 0]) ∧ Ext w wr) (fun i _ => m0 - (intOf i).toNat)
  case atStart => exact ⟨0, Nat.zero_le _, rfl, Lib.hid rfl, Lib.hid B4, Lib.hid B7, Lib.hid B8, E⟩
  case round =>
    obtain ⟨k, hk, rfl, HI, HB4, HB7, HB8, hb⟩ := hrel
    clear B4 B7 B8 E
    have B4 := HB4.out
    have B7 := HB7.out
    have B8 := HB8.out
    clear HB4 HB7 HB8
    by_cases hlt : k < m0
    · obtain ⟨mb, off, x, rfl, HDr, hxm, hx⟩ := (HM.out _ hb).one hlt
      obtain ⟨m0', m1', m2', m3', m4', m5', m6', m7', m8', m9', m10', m11', m12', m13'⟩ := hx
      have hbl : mb < wr.heap.size := World.block_lt_of_cell? wr _ m0'
      have hi := HI.out
      rw [HDr.out, List.any_cons] at hi
      have HX := Lib.hid (HR.out x)
      generalize reachB l home x ⟨b.x, b.y⟩ cm.fast = RX at *
      by_cases hat : x.arrive = tick
      · have hat2 : decide (x.arrive = tick) = true := decide_eq_true hat
        rw [hat2, Bool.true_and] at hi
        have Hi := Lib.hid hi
        have hk1 : k + 1 ≤ m0 := hlt
        clear hi HR HI hat2 hxm HDr HM HU HY HS HP HK
        generalize x.arrive = xa at *
        subst hat
        have c_B4 := B4.cell; have f_B4 := B4.frozen; have l_B4 := B4.lt; have c_B7 := B7.cell; have f_B7 := B7.frozen; have l_B7 := B7.lt
        go_wp2_with fail
        refine (HX.out _ ext_by).mono ?_
        rintro e w2 ⟨rfl, h2⟩
        clear c_B4 f_B4 l_B4 c_B7 f_B7 l_B7
        have E2 : Ext w w2 := ext_by
        replace B4 := (B4.alloc _).ext h2
        replace B7 := (B7.alloc _).ext h2
        replace B8 := (B8.alloc _).ext h2
        clear h2 hb HX m0' m1' m2' m3' m4' m5' m6' m7' m8' m9' m10' m11' m12' m13'
        cases RX
        · simp only [Bool.not_false, Bool.true_or] at Hi
          have hT := HT.out
          rw [← Hi.out, if_pos rfl] at hT
          subst hT
          clear HT Hi
          have c_B7 := B7.cell; have f_B7 := B7.frozen; have l_B7 := B7.lt; have c_B8 := B8.cell; have f_B8 := B8.frozen; have l_B8 := B8.lt
          (try dsimp only); repeat' (first | go_values | go_skip | go_guarded | go_step | go_upon | go_in | go_at_K)
          refine name_world _ ?_
          intro W9 hW9
          have Q8 : Blk W9 (w.heap.size + 1 + 1) 48 #[.int .i64 b.x.lo, .int .i64 b.x.hi, .int .i64 b.y.lo, .int .i64 b.y.hi, .int .i64 b.u.lo, .int .i64 b.u.hi, .int .i64 b.v.lo, .int .i64 b.v.hi] := by rw [hW9]; exact blk_set2 (blk_set2 (blk_set2 (blk_set2 B8 rfl) rfl) rfl) rfl
          have QE : Ext w W9 := by rw [hW9]; exact ext_set2 (ext_set2 (ext_set2 (ext_set2 E2 (by omega)) (by omega)) (by omega)) (by omega)
          clear hW9
          have c_Q8 := Q8.cell; have f_Q8 := Q8.frozen; have l_Q8 := Q8.lt
          apply bodyPost_ret; (focus (simp only [results, Tryz.results188]; go_simp; try rfl)); rfl
          exact ⟨rfl, QE⟩
        · simp only [Bool.not_true, Bool.false_or] at Hi
          go_wp2_with fail
          go_roundw
          case rel => exact ⟨k + 1, hk1, by go_num, Hi, Lib.hid B4, Lib.hid B7, Lib.hid B8, E2⟩
          case measure => simp [intOf]; omega
      · have hat2 : decide (x.arrive = tick) = false := decide_eq_false hat
        rw [hat2, Bool.false_and, Bool.false_or] at hi
        have Hi := Lib.hid hi
        have hk1 : k + 1 ≤ m0 := hlt
        clear hi HR HI HX HM HU HY HS HP HK HDr hxm hat2
        go_wp2_with fail
        go_roundw
        case rel => exact ⟨k + 1, hk1, by go_num, Hi, Lib.hid (B4.alloc _), Lib.hid (B7.alloc _), Lib.hid (B8.alloc _), hb.alloc _⟩
        case measure => simp [intOf]; omega
    · have hkn : k = m0 := by omega
      subst hkn
      have hz : (L.any fun m => decide (m.arrive = tick) && !reachB l home m ⟨b.x, b.y⟩ cm.fast) = false := by
        have := HI.out
        rw [hlen.out, List.drop_length] at this
        exact this.symm
      have hT := HT.out
      rw [hz, if_neg (by simp)] at hT
      have HT2 := Lib.hid hT
      clear HT HI hz HR HM hT
      have c_B4 := B4.cell; have f_B4 := B4.frozen; have l_B4 := B4.lt; have c_B7 := B7.cell; have f_B7 := B7.frozen; have l_B7 := B7.lt
      go_wp2_with fail
      refine (HP.out _ ext_by).mono ?_
      rintro e w2 ⟨rfl, h2⟩
      clear c_B4 f_B4 l_B4 c_B7 f_B7 l_B7
      replace B4 := B4.ext h2; replace B7 := B7.ext h2; replace B8 := B8.ext h2; have c_B4 := B4.cell; have f_B4 := B4.frozen; have l_B4 := B4.lt; have c_B7 := B7.cell; have f_B7 := B7.frozen; have l_B7 := B7.lt; have c_B8 := B8.cell; have f_B8 := B8.frozen; have l_B8 := B8.lt
      replace hb := hb.trans h2
      clear h2 HP
      go_wp2_with fail
      refine (HK.out _).mono ?_
      rintro e w3 ⟨rfl, h3⟩
      clear c_B4 f_B4 l_B4 c_B7 f_B7 l_B7 c_B8 f_B8 l_B8
      have B12 : Blk w3 w2.heap.size 48 #[.int .i64 q.x.lo, .int .i64 q.x.hi, .int .i64 q.y.lo, .int .i64 q.y.hi, .int .i64 q.u.lo, .int .i64 q.u.hi, .int .i64 q.v.lo, .int .i64 q.v.hi] := (Blk.newAt rfl).ext h3
      have z12 : w.heap.size + 1 + 1 < w2.heap.size := B8.lt
      replace B4 := (B4.alloc _).ext h3
      replace B7 := (B7.alloc _).ext h3
      replace B8 := (B8.alloc _).ext h3
      replace hb := (hb.alloc _).trans h3
      clear h3 HK
      by_cases g1 : E1 = 0
      · subst g1
        have hT := HT2.out
        rw [if_neg (by simp)] at hT
        have HT3 := Lib.hid hT
        clear HT2 hT
        have c_B4 := B4.cell; have f_B4 := B4.frozen; have l_B4 := B4.lt; have c_B12 := B12.cell; have f_B12 := B12.frozen; have l_B12 := B12.lt
        go_wp2_with fail
        refine (HS.out _ ext_by).mono ?_
        rintro e w4 ⟨rfl, h4⟩
        clear c_B4 f_B4 l_B4 c_B12 f_B12 l_B12
        replace B4 := B4.ext h4
        replace B7 := B7.ext h4
        replace B8 := B8.ext h4
        replace B12 := B12.ext h4
        replace hb := hb.trans h4
        clear h4 HS
        have z13 : w2.heap.size < w4.heap.size := B12.lt
        by_cases g2 : E2 = 0
        · subst g2
          have hT := HT3.out
          rw [if_neg (by simp)] at hT
          have HT4 := Lib.hid hT
          clear HT3 hT
          have c_B4 := B4.cell; have f_B4 := B4.frozen; have l_B4 := B4.lt; have c_B12 := B12.cell; have f_B12 := B12.frozen; have l_B12 := B12.lt
          go_wp2_with fail
          refine (HY.out _ ext_by).mono ?_
          rintro e w5 ⟨rfl, h5⟩
          clear c_B4 f_B4 l_B4 c_B12 f_B12 l_B12
          have B13 : Blk w5 w4.heap.size 48 #[.int .i64 r.x.lo, .int .i64 r.x.hi, .int .i64 r.y.lo, .int .i64 r.y.hi, .int .i64 r.u.lo, .int .i64 r.u.hi, .int .i64 r.v.lo, .int .i64 r.v.hi] := (Blk.newAt rfl).ext h5
          replace B4 := (B4.alloc _).ext h5
          replace B7 := (B7.alloc _).ext h5
          replace B8 := (B8.alloc _).ext h5
          replace B12 := (B12.alloc _).ext h5
          replace hb := (hb.alloc _).trans h5
          clear h5 HY
          cases Y
          · have hT := HT4.out
            rw [if_neg (by simp)] at hT
            have HT5 := Lib.hid hT
            clear HT4 hT
            have c_B4 := B4.cell; have f_B4 := B4.frozen; have l_B4 := B4.lt; have c_B12 := B12.cell; have f_B12 := B12.frozen; have l_B12 := B12.lt; have c_B13 := B13.cell; have f_B13 := B13.frozen; have l_B13 := B13.lt
            go_wp2_with fail
            refine (HU.out _ ext_by).mono ?_
            rintro e w6 ⟨rfl, h6⟩
            clear c_B4 f_B4 l_B4 c_B12 f_B12 l_B12 c_B13 f_B13 l_B13
            replace B7 := B7.ext h6
            replace B8 := B8.ext h6
            replace B13 := B13.ext h6
            replace hb := hb.trans h6
            clear h6 HU B4 B12
            cases U
            · have hT := HT5.out
              rw [if_neg (by simp)] at hT
              subst hT
              clear HT5
              have c_B13 := B13.cell; have f_B13 := B13.frozen; have l_B13 := B13.lt; have c_B8 := B8.cell; have f_B8 := B8.frozen; have l_B8 := B8.lt
              (try dsimp only); repeat' (first | go_values | go_skip | go_guarded | go_step | go_upon | go_in | go_at_K)
              refine name_world _ ?_
              intro W9 hW9
              have Q8 : Blk W9 (w.heap.size + 1 + 1) 48 #[.int .i64 r.x.lo, .int .i64 r.x.hi, .int .i64 r.y.lo, .int .i64 r.y.hi, .int .i64 r.u.lo, .int .i64 r.u.hi, .int .i64 r.v.lo, .int .i64 r.v.hi] := by rw [hW9]; exact blk_set2 (blk_set2 (blk_set2 (blk_set2 B8 rfl) rfl) rfl) rfl
              have QE : Ext w W9 := by rw [hW9]; exact ext_set2 (ext_set2 (ext_set2 (ext_set2 hb (by omega)) (by omega)) (by omega)) (by omega)
              clear hW9
              have c_Q8 := Q8.cell; have f_Q8 := Q8.frozen; have l_Q8 := Q8.lt
              apply bodyPost_ret; (focus (simp only [results, Tryz.results188]; go_simp; try rfl)); rfl
              exact ⟨rfl, QE⟩
            · have hT := HT5.out
              rw [if_pos rfl] at hT
              subst hT
              clear HT5
              have c_B7 := B7.cell; have f_B7 := B7.frozen; have l_B7 := B7.lt; have c_B8 := B8.cell; have f_B8 := B8.frozen; have l_B8 := B8.lt
              (try dsimp only); repeat' (first | go_values | go_skip | go_guarded | go_step | go_upon | go_in | go_at_K)
              refine name_world _ ?_
              intro W9 hW9
              have Q8 : Blk W9 (w.heap.size + 1 + 1) 48 #[.int .i64 b.x.lo, .int .i64 b.x.hi, .int .i64 b.y.lo, .int .i64 b.y.hi, .int .i64 b.u.lo, .int .i64 b.u.hi, .int .i64 b.v.lo, .int .i64 b.v.hi] := by rw [hW9]; exact blk_set2 (blk_set2 (blk_set2 (blk_set2 B8 rfl) rfl) rfl) rfl
              have QE : Ext w W9 := by rw [hW9]; exact ext_set2 (ext_set2 (ext_set2 (ext_set2 hb (by omega)) (by omega)) (by omega)) (by omega)
              clear hW9
              have c_Q8 := Q8.cell; have f_Q8 := Q8.frozen; have l_Q8 := Q8.lt
              apply bodyPost_ret; (focus (simp only [results, Tryz.results188]; go_simp; try rfl)); rfl
              exact ⟨rfl, QE⟩
          · have hT := HT4.out
            rw [if_pos rfl] at hT
            subst hT
            clear HT4
            have c_B7 := B7.cell; have f_B7 := B7.frozen; have l_B7 := B7.lt; have c_B8 := B8.cell; have f_B8 := B8.frozen; have l_B8 := B8.lt
            (try dsimp only); repeat' (first | go_values | go_skip | go_guarded | go_step | go_upon | go_in | go_at_K)
            refine name_world _ ?_
            intro W9 hW9
            have Q8 : Blk W9 (w.heap.size + 1 + 1) 48 #[.int .i64 b.x.lo, .int .i64 b.x.hi, .int .i64 b.y.lo, .int .i64 b.y.hi, .int .i64 b.u.lo, .int .i64 b.u.hi, .int .i64 b.v.lo, .int .i64 b.v.hi] := by rw [hW9]; exact blk_set2 (blk_set2 (blk_set2 (blk_set2 B8 rfl) rfl) rfl) rfl
            have QE : Ext w W9 := by rw [hW9]; exact ext_set2 (ext_set2 (ext_set2 (ext_set2 hb (by omega)) (by omega)) (by omega)) (by omega)
            clear hW9
            have c_Q8 := Q8.cell; have f_Q8 := Q8.frozen; have l_Q8 := Q8.lt
            apply bodyPost_ret; (focus (simp only [results, Tryz.results188]; go_simp; try rfl)); rfl
            exact ⟨rfl, QE⟩
        · have hT := HT3.out
          rw [if_pos g2] at hT
          subst hT
          clear HT3
          have c_B7 := B7.cell; have f_B7 := B7.frozen; have l_B7 := B7.lt; have c_B8 := B8.cell; have f_B8 := B8.frozen; have l_B8 := B8.lt
          (try dsimp only); repeat' (first | go_values | go_skip | go_guarded | go_step | go_upon | go_in | go_at_K)
          refine name_world _ ?_
          intro W9 hW9
          have Q8 : Blk W9 (w.heap.size + 1 + 1) 48 #[.int .i64 b.x.lo, .int .i64 b.x.hi, .int .i64 b.y.lo, .int .i64 b.y.hi, .int .i64 b.u.lo, .int .i64 b.u.hi, .int .i64 b.v.lo, .int .i64 b.v.hi] := by rw [hW9]; exact (blk_set2 (blk_set2 (blk_set2 (blk_set2 B8 rfl) rfl) rfl) rfl).alloc _
          have QE : Ext w W9 := by rw [hW9]; exact (ext_set2 (ext_set2 (ext_set2 (ext_set2 hb (by omega)) (by omega)) (by omega)) (by omega)).alloc _
          clear hW9
          have c_Q8 := Q8.cell; have f_Q8 := Q8.frozen; have l_Q8 := Q8.lt
          apply bodyPost_ret; (focus (simp only [results, Tryz.results188]; go_simp; try rfl)); rfl
          exact ⟨rfl, QE⟩
      · have hT := HT2.out
        rw [if_pos g1] at hT
        subst hT
        clear HT2
        have c_B7 := B7.cell; have f_B7 := B7.frozen; have l_B7 := B7.lt; have c_B8 := B8.cell; have f_B8 := B8.frozen; have l_B8 := B8.lt
        (try dsimp only); repeat' (first | go_values | go_skip | go_guarded | go_step | go_upon | go_in | go_at_K)
        refine name_world _ ?_
        intro W9 hW9
        have Q8 : Blk W9 (w.heap.size + 1 + 1) 48 #[.int .i64 b.x.lo, .int .i64 b.x.hi, .int .i64 b.y.lo, .int .i64 b.y.hi, .int .i64 b.u.lo, .int .i64 b.u.hi, .int .i64 b.v.lo, .int .i64 b.v.hi] := by rw [hW9]; exact blk_set2 (blk_set2 (blk_set2 (blk_set2 B8 rfl) rfl) rfl) rfl
        have QE : Ext w W9 := by rw [hW9]; exact ext_set2 (ext_set2 (ext_set2 (ext_set2 hb (by omega)) (by omega)) (by omega)) (by omega)
        clear hW9
        have c_Q8 := Q8.cell; have f_Q8 := Q8.frozen; have l_Q8 := Q8.lt
        apply bodyPost_ret; (focus (simp only [results, Tryz.results188]; go_simp; try rfl)); rfl
        exact ⟨rfl, QE⟩
end
end Go.Proofs.YtiladlangkjoiaaGreat
