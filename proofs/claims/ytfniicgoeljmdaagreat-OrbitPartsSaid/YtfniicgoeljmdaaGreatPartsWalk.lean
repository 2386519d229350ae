/- OrbitParts, walked: it returns true. No condition. -/
import Derived.Test.YtfniicgoeljmdaaGreatOutStart
import Derived.Test.YtfniicgoeljmdaaGreatCellLaw
import Derived.Test.YtfniicgoeljmdaaGreatCellsWalk
import Derived.Test.YtfniicgoeljmdaaGreatAwakeFour
namespace Go.Proofs.YtfniicgoeljmdaaGreat
open Go.RowKit

theorem count_cons (p : St) {l : List Bx} {k : Nat} {x : Bx} (h : l.drop k = x :: l.drop (k + 1)) : countH (l.drop k) p = countH (l.drop (k + 1)) p + (if holdsB x p = true then 1 else 0) := by
  rw [h]; unfold countH; rw [List.countP_cons]
set_option maxRecDepth 20000 in
set_option maxHeartbeats 8000000 in
theorem OrbitParts_c (A : Option Addr) (n c : Nat) (l : List Int) (N dx du : Int) (w : World) (hl : Ints w A n l) :
    Calls Tryz.prog 9 #[.slice A n c, .int .i64 N, .int .i64 dx, .int .i64 du] w fun e w' => e = .returned (.bool true) ∧ Ext w w' := by
  have HA := Lib.hid fun W => awake4_c W
  go_enter Tryz.func9, Tryz.ntmps9
  go_wp2_with fail
  refine (made4_c A n c l _ hl).mono ?_
  rintro e w1 ⟨g, A1, n1, c1, home, A2, n2, c2, A3, n3, c3, s, ll, lh, el, eh, gs, b, x, y, u, v, bs, rfl, hF, _, _, _, hsm, hx0⟩
  have hx := hx0.holds
  clear hx0
  have E1 := hF.ext
  have hb := hsm.ok
  have hm0 : 0 ≤ N % 60 := Int.emod_nonneg _ (by omega)
  have hm1 : N % 60 < 60 := Int.emod_lt_of_pos _ (by omega)
  obtain ⟨M, hM⟩ : ∃ M : Nat, N % 60 = (M : Int) := ⟨(N % 60).toNat, by omega⟩
  rw [hM] at hm0 hm1
  have HMod := Lib.hid fun W => (Mod_c N 60 W (by omega) (by omega)).mono (R' := fun e w' => e = .returned (.int .i64 (M : Int)) ∧ Ext W w') fun _ _ ⟨h, hw⟩ => ⟨hM ▸ h, hw ▸ Ext.refl _⟩
  have hM60 : M < 60 := by omega
  have hCL : cellsL b (1 + (M : Int)) = cellsB b (M + 1) ∧ cellsErr b (1 + (M : Int)) = 0 := by
    have h : cellsErr b (1 + (M : Int)) = 0 := by unfold cellsErr; rw [if_neg (by simp [hb]), if_neg (by omega)]
    refine ⟨?_, h⟩
    unfold cellsL
    rw [if_pos h, show (1 + (M : Int)).toNat = M + 1 by omega]
  obtain ⟨q1, q2, q3, q4⟩ := cells_law (b := b) (n := M + 1) hb (by omega)
  have hwi := cells_within (b := b) (n := M + 1) hb (by omega)
  have HCells := Lib.hid fun W => oCells_c b (1 + (M : Int)) W
  rw [hCL.1, hCL.2] at HCells
  generalize hC : cellsB b (M + 1) = C at *
  have hC60 : C.length ≤ 60 := by omega
  have HQ := Lib.hid q1
  have HWI := Lib.hid fun A' m' c' B' d' W (h1 : Bxs W A' m' C) (h2 : Bxs W B' 1 [b]) => oWithinSet_c A' B' m' 1 c' d' C [b] W h1 h2
  rw [hwi] at HWI
  have HSP := Lib.hid fun W => oSplit_c b W
  have HSS := Lib.hid fun h p => split_state (b := b) h p
  have HB := Lib.hid fun p W => oHolds_c b p W
  have hst := stErr_ok.1 (show stErr ⟨x, y, u, v⟩ = 0 from by
    rw [stErr_ok]
    rw [holdsB_iff] at hx
    rw [bxErr_iff] at hb
    unfold BxOk Sm at hb
    omega)
  dsimp only at hst
  obtain ⟨⟨s1, s2⟩, ⟨s3, s4⟩, ⟨s5, s6⟩, s7, s8⟩ := hst
  clear hM hm0 hm1 q1 q2 hwi hF hsm hb hx hC hCL q4
  go_wp2_with fail
  refine name_w _ ?_
  intro V hV
  obtain ⟨z, hz⟩ : ∃ z, z = w1.heap.size := ⟨_, rfl⟩
  have B12 : Blk V (z + 1 + 1) 38 #[.int .i64 b.x.lo, .int .i64 b.x.hi, .int .i64 b.y.lo, .int .i64 b.y.hi, .int .i64 b.u.lo, .int .i64 b.u.hi, .int .i64 b.v.lo, .int .i64 b.v.hi] := by rw [hV]; exact (Blk.newAt (by simp [hz])).alloc _
  have B13 : Blk V (z + 1 + 1 + 1) 30 #[.int .i64 x, .int .i64 y, .int .i64 u, .int .i64 v] := by rw [hV]; exact Blk.newAt (by simp [hz])
  have EV : Ext w V := by rw [hV]; (repeat' (first | exact Ext.refl _ | assumption | apply Ext.alloc | apply Ext.drew | refine Ext.set ?_ (by dsimp only; omega) _ | refine Ext.trans ?_ (by assumption)))
  rw [← hz]
  clear hV hz E1
  refine wp_region_chain0 false [([0, 1, 2, 3], 4)] [5, 6, 7, 8, 9] [] (Ext V) (Ext V) (Stable.ext _) (fun _ h => h) (Ext.drew (Ext.refl _)) (by kernel_rfl) (by kernel_rfl) ?_
  simp only [XO, pick, List.drop_succ_cons, List.drop_zero]
  have c12 := B12.cell
  have l12 := B12.lt
  (repeat' (first | (refine bl_off (by rfl) ?_; simp only [Act.put, List.setIfInBounds_toArray, List.set_cons_zero, List.set_cons_succ]) | (apply bl_op; rfl; (intro w1 h1; obtain ⟨hc, hf, hz⟩ := bcell h1; go_simp; (try go_bits); (first | exact ⟨rfl, Ext.refl _⟩ | (apply gives_call; go_at_call 53; exact HMod.out _) | (go_invoke; go_simp; apply gives_call; go_at_call 53; exact HMod.out _))); simp only [Act.put, List.setIfInBounds_toArray, List.set_cons_zero, List.set_cons_succ]) | (refine bl_split rfl rfl (fun hx => ?_) (fun hx => ?_) <;> simp only [hx])))
  refine bl_nil ?_
  try simp only [pick1, List.drop_succ_cons, List.drop_zero]
  refine xe_callV (f := 46) (args := #[bxV b, .int .i64 (1 + (M : Int))]) (fun v => ∃ A' c', v = .tuple #[.slice A' C.length c', .int .i64 0]) (fun v W => Ext V W ∧ ∀ A' m' c' e', v = .tuple #[.slice A' m' c', e'] → Bxs W A' C.length C) rfl (fun v => (Stable.ext _).and (fun W W' h e A' m' c' e' hv => Bxs.ext e (h A' m' c' e' hv))) (fun v W h => h.1) (fun w h => by go_simp) (fun w h => ?_) ?_
  · refine (HCells.out w).mono ?_
    rintro e w' ⟨A', c', rfl, k1, k2, k3⟩
    refine ⟨_, rfl, ⟨A', c', rfl⟩, h.trans k3, ?_⟩
    intro A'' m'' c'' e'' hv
    injection hv with hv
    injection hv with hv
    injection hv with hv _
    injection hv with hv1 hv2 hv3
    rw [← hv1]
    exact k1
  rintro r ⟨Ac, cc, rfl⟩
  simp only [Act.put, List.setIfInBounds_toArray, List.set_cons_zero, List.set_cons_succ]
  (repeat' (first | (refine bl_off (by rfl) ?_; simp only [Act.put, List.setIfInBounds_toArray, List.set_cons_zero, List.set_cons_succ]) | (apply bl_op; rfl; (intro w1 h1; obtain ⟨hc, hf, hz⟩ := bcell h1; go_simp; (try go_bits); (first | exact ⟨rfl, Ext.refl _⟩)); simp only [Act.put, List.setIfInBounds_toArray, List.set_cons_zero, List.set_cons_succ]) | (refine bl_split rfl rfl (fun hx => ?_) (fun hx => ?_) <;> simp only [hx])))
  refine bl_nil ?_
  refine tl_nil ?_
  rintro w2 ⟨h2, hC2⟩
  have hC2 := hC2 _ _ _ _ rfl
  clear c12 l12
  replace B12 := B12.ext h2
  replace B13 := B13.ext h2
  replace EV := EV.trans h2
  have HC2 := Lib.hid fun W (hW : Ext w2 W) => Bxs.ext hW hC2
  have HLn := Lib.hid hC2.len
  clear hC2 h2 HCells
  obtain ⟨q, hq⟩ : ∃ q, C.length = q := ⟨_, rfl⟩
  rw [hq] at q3 hC60 HC2 ⊢
  have HLq := Lib.hid hq
  have hq0 : ((q : Int) == 0) = false := by simp; omega
  clear hq HLn
  obtain ⟨r1, hr1⟩ : ∃ r, Int.tmod dx 300 = r := ⟨_, rfl⟩
  obtain ⟨r2, hr2⟩ : ∃ r, Int.tmod du 8 = r := ⟨_, rfl⟩
  have b1 : -300 < r1 ∧ r1 < 300 := by
    have h := tmod_in dx 300 (by omega)
    rw [hr1] at h
    split at h <;> omega
  have b2 : -8 < r2 ∧ r2 < 8 := by
    have h := tmod_in du 8 (by omega)
    rw [hr2] at h
    split at h <;> omega
  obtain ⟨b11, b12⟩ := b1
  obtain ⟨b21, b22⟩ := b2
  have c_B12 := B12.cell; have f_B12 := B12.frozen; have l_B12 := B12.lt; have c_B13 := B13.cell; have f_B13 := B13.frozen; have l_B13 := B13.lt
  go_wp2_with fail
  refine name_w _ ?_
  intro V3 hV3
  obtain ⟨z2, hz2⟩ : ∃ z, z = w2.heap.size := ⟨_, rfl⟩
  have hzz : z + 1 + 1 + 1 < z2 := by omega
  have HS3 : Hid (Blk V3 (z2 + 1) 30 ([(⟨x, y, u, v⟩ : St), ⟨x + r1, y, u + r2, v⟩].flatMap stC4).toArray) := by rw [hV3]; exact Lib.hid (Blk.newAt (by simp [hz2]))
  have E3 : Ext w2 V3 := by rw [hV3]; (repeat' (first | exact Ext.refl _ | assumption | apply Ext.alloc | apply Ext.drew | refine Ext.set ?_ (by dsimp only; omega) _ | refine Ext.trans ?_ (by assumption)))
  rw [← hz2]
  clear c_B12 f_B12 l_B12 c_B13 f_B13 l_B13
  clear hV3 hz2 B13
  replace B12 := B12.ext E3
  replace EV := EV.trans E3
  have HC3 := Lib.hid fun W (hW : Ext V3 W) => HC2.out W (E3.trans hW)
  have HS : Hid (Sts V3 (some ⟨z2 + 1, 0, none⟩) 2 [(⟨x, y, u, v⟩ : St), ⟨x + r1, y, u + r2, v⟩]) := Lib.hid (st_slice [(⟨x, y, u, v⟩ : St), ⟨x + r1, y, u + r2, v⟩] HS3.out (by simp))
  have HBD : Hid (∀ p ∈ [(⟨x, y, u, v⟩ : St), ⟨x + r1, y, u + r2, v⟩], (-40000000 ≤ p.x ∧ p.x ≤ 40000000) ∧ -2000000 ≤ p.u ∧ p.u ≤ 2000000) := Lib.hid (by
    intro p hp
    simp only [List.mem_cons, List.not_mem_nil, or_false] at hp
    rcases hp with rfl | rfl <;> dsimp only <;> omega)
  generalize [(⟨x, y, u, v⟩ : St), ⟨x + r1, y, u + r2, v⟩] = SL at *
  have HBB := Lib.hid B12
  clear E3 HC2 HS3 B12
  go_loopw [72] (fun i wr => ∃ k : Nat, k ≤ 2 ∧ i = .int .i64 k ∧ Ext V3 wr) (fun i _ => 2 - (intOf i).toNat)
  case atStart => exact ⟨0, by omega, rfl, Ext.refl _⟩
  case round =>
    obtain ⟨k, hk, rfl, hbo⟩ := hrel
    obtain ⟨wo, rfl⟩ : ∃ wo : World, wo = wr := ⟨_, rfl⟩
    by_cases hlt : k < 2
    · obtain ⟨bz, off, p, hA, _, hpm, hp⟩ := HS.out.one hlt
      injection hA with hA
      injection hA with e1 e2 _
      subst e1 e2
      obtain ⟨hp0, hp1, hp2, hp3⟩ := stAt.ext hbo hp
      have hbl : z2 + 1 < wo.heap.size := World.block_lt_of_cell? wo _ hp0
      have hbd := HBD.out p hpm
      have HP := Lib.hid hbd
      obtain ⟨px, py, pu, pv⟩ := p
      dsimp only at hp0 hp1 hp2 hp3
      rw [Nat.zero_add] at hp0 hp1 hp2 hp3
      clear hp hpm hbd
      have hklt : (k : Int) < 2 := by omega
      go_wp2_with fail
      refine name_w _ ?_
      intro V4 hV4
      obtain ⟨z4, hz4⟩ : ∃ z, z = wo.heap.size := ⟨_, rfl⟩
      have S4 : Hid (Blk V4 z4 30 #[.int .i64 px, .int .i64 py, .int .i64 pu, .int .i64 pv]) := by rw [hV4]; exact Lib.hid (Blk.newAt hz4)
      have E4 : Ext wo V4 := by rw [hV4]; (repeat' (first | exact Ext.refl _ | assumption | apply Ext.alloc | apply Ext.drew | refine Ext.set ?_ (by dsimp only; omega) _ | refine Ext.trans ?_ (by assumption)))
      rw [← hz4]
      clear hV4 hp0 hp1 hp2 hp3 hbl hz4
      have EV4 := hbo.trans E4
      go_loopw [19, 20] (fun mi i wr => ∃ (j cnt : Nat), j ≤ q ∧ cnt ≤ j ∧ i = .int .i64 j ∧ mi = .int .i64 cnt ∧ Hid (cnt + countH (C.drop j) ⟨px, py, pu, pv⟩ = countH C ⟨px, py, pu, pv⟩) ∧ Ext V4 wr) (fun _ i _ => q - (intOf i).toNat)
      case atStart => exact ⟨0, 0, by omega, by omega, rfl, rfl, Lib.hid (by simp), Ext.refl _⟩
      case round =>
        obtain ⟨j, cnt, hj, hcj, rfl, rfl, HI, hbi⟩ := hrel
        have S5 := S4.out.ext hbi
        have c_S5 := S5.cell; have f_S5 := S5.frozen; have l_S5 := S5.lt
        by_cases hjq : j < q
        · obtain ⟨b', off', xb, hA, HD, _, hxb⟩ := (HC3.out wr (EV4.trans hbi)).one hjq
          subst hA
          obtain ⟨hx0, hx1, hx2, hx3, hx4, hx5, hx6, hx7⟩ := hxb
          have hbl : b' < wr.heap.size := World.block_lt_of_cell? wr _ hx0
          have hi := HI.out
          rw [count_cons _ HD.out] at hi
          have HHB := Lib.hid fun W => oHolds_c xb ⟨px, py, pu, pv⟩ W
          generalize holdsB xb ⟨px, py, pu, pv⟩ = hb9 at *
          obtain ⟨⟨xl, xh⟩, ⟨yl, yh⟩, ⟨ul, uh⟩, vl, vh⟩ := xb
          dsimp only at hx0 hx1 hx2 hx3 hx4 hx5 hx6 hx7 HHB
          clear HI HD
          cases hb9
          · have Hi : Hid (cnt + countH (C.drop (j + 1)) ⟨px, py, pu, pv⟩ = countH C ⟨px, py, pu, pv⟩) := Lib.hid (by simpa using hi)
            clear hi
            go_wp2_with fail
            refine wp_region_text (by kernel_rfl) (by kernel_rfl) ?_
            (repeat' (first | (refine bl_off (by rfl) ?_; simp only [Act.put, List.setIfInBounds_toArray, List.set_cons_zero, List.set_cons_succ]) | (apply bl_op; rfl; (intro w1 h1; obtain ⟨hc, hf, hz⟩ := bcell h1; go_simp; (try go_bits); (first | exact ⟨rfl, Ext.refl _⟩ | (apply gives_call; go_at_call 30; exact HHB.out _) | (go_invoke; go_simp; apply gives_call; go_at_call 30; exact HHB.out _))); simp only [Act.put, List.setIfInBounds_toArray, List.set_cons_zero, List.set_cons_succ]) | (refine bl_split rfl rfl (fun hx => ?_) (fun hx => ?_) <;> simp only [hx])))
            refine bl_nil ?_
            intro w6 h6
            obtain ⟨hc_w6, hf_w6, hz_w6⟩ := bcell h6; (repeat (first | rw [World.size_alloc] at hz_w6 | rw [World.size_drew] at hz_w6 | rw [World.size_setCell] at hz_w6)); (try (have : w.heap.size < w6.heap.size := (by omega))); (try (have : w.heap.size + 1 < w6.heap.size := (by omega))); (try (have : w.heap.size + 1 + 1 < w6.heap.size := (by omega))); (try (have : w.heap.size + 1 + 1 + 1 < w6.heap.size := (by omega))); (try (have : w.heap.size + 1 + 1 + 1 + 1 < w6.heap.size := (by omega)))
            go_wp2_with fail
            go_roundw
            case rel => exact ⟨j + 1, cnt, by omega, by omega, by go_num, rfl, Hi, by (repeat' (first | exact Ext.refl _ | assumption | apply Ext.alloc | apply Ext.drew | refine Ext.set ?_ (by dsimp only; omega) _ | refine Ext.trans ?_ (by assumption)))⟩
            case measure => simp [intOf]; omega
          · have Hi : Hid (cnt + 1 + countH (C.drop (j + 1)) ⟨px, py, pu, pv⟩ = countH C ⟨px, py, pu, pv⟩) := Lib.hid (by rw [if_pos rfl] at hi; omega)
            clear hi
            go_wp2_with fail
            refine wp_region_text (by kernel_rfl) (by kernel_rfl) ?_
            (repeat' (first | (refine bl_off (by rfl) ?_; simp only [Act.put, List.setIfInBounds_toArray, List.set_cons_zero, List.set_cons_succ]) | (apply bl_op; rfl; (intro w1 h1; obtain ⟨hc, hf, hz⟩ := bcell h1; go_simp; (try go_bits); (first | exact ⟨rfl, Ext.refl _⟩ | (apply gives_call; go_at_call 30; exact HHB.out _) | (go_invoke; go_simp; apply gives_call; go_at_call 30; exact HHB.out _))); simp only [Act.put, List.setIfInBounds_toArray, List.set_cons_zero, List.set_cons_succ]) | (refine bl_split rfl rfl (fun hx => ?_) (fun hx => ?_) <;> simp only [hx])))
            refine bl_nil ?_
            intro w6 h6
            obtain ⟨hc_w6, hf_w6, hz_w6⟩ := bcell h6; (repeat (first | rw [World.size_alloc] at hz_w6 | rw [World.size_drew] at hz_w6 | rw [World.size_setCell] at hz_w6)); (try (have : w.heap.size < w6.heap.size := (by omega))); (try (have : w.heap.size + 1 < w6.heap.size := (by omega))); (try (have : w.heap.size + 1 + 1 < w6.heap.size := (by omega))); (try (have : w.heap.size + 1 + 1 + 1 < w6.heap.size := (by omega))); (try (have : w.heap.size + 1 + 1 + 1 + 1 < w6.heap.size := (by omega)))
            go_wp2_with fail
            go_roundw
            case rel => exact ⟨j + 1, cnt + 1, by omega, by omega, by go_num, by go_num, Hi, by (repeat' (first | exact Ext.refl _ | assumption | apply Ext.alloc | apply Ext.drew | refine Ext.set ?_ (by dsimp only; omega) _ | refine Ext.trans ?_ (by assumption)))⟩
            case measure => simp [intOf]; omega
        · have hcount : cnt = if holdsB b ⟨px, py, pu, pv⟩ then 1 else 0 := by
            have hi := HI.out
            rw [List.drop_eq_nil_of_le (by rw [HLq.out]; omega), HQ.out] at hi
            simpa [countH] using hi
          clear HI
          have B7 := HBB.out.ext (EV4.trans hbi)
          have EW := Lib.hid (EV4.trans hbi)
          have HBp := Lib.hid fun W => HB.out ⟨px, py, pu, pv⟩ W
          have hst : splitOk b = true → _ := fun h => HSS.out h ⟨px, py, pu, pv⟩
          have hsp := HSP.out
          unfold splitV at hsp
          generalize holdsB b ⟨px, py, pu, pv⟩ = IN at *
          generalize partL b = PL at *
          generalize partR b = PR at *
          obtain ⟨⟨plx, phx⟩, ⟨ply, phy⟩, ⟨plu, phu⟩, plv, phv⟩ := PL
          obtain ⟨⟨qlx, qhx⟩, ⟨qly, qhy⟩, ⟨qlu, qhu⟩, qlv, qhv⟩ := PR
          clear hbi E4 HQ HB HSS HSP EV4
          cases hs : splitOk b
          · rw [hs, if_neg (by decide)] at hsp
            have HSP2 := Lib.hid hsp
            clear hst hs hsp
            dsimp only [zeroB] at HSP2
            have c_B7 := B7.cell; have f_B7 := B7.frozen; have l_B7 := B7.lt
            cases IN
            all_goals simp only [if_true, if_false, Bool.false_eq_true] at hcount
            all_goals subst hcount
            all_goals go_wp2_with fail
            all_goals refine (HSP2.out _).mono ?_
            all_goals rintro e w8 ⟨rfl, h8⟩
            all_goals clear c_B7 f_B7 l_B7 c_S5 f_S5 l_S5
            all_goals replace B7 := B7.ext h8
            all_goals replace S5 := S5.ext h8
            all_goals have EW2 := Lib.hid (EW.out.trans h8)
            all_goals have c_B7 := B7.cell; have f_B7 := B7.frozen; have l_B7 := B7.lt; have c_S5 := S5.cell; have f_S5 := S5.frozen; have l_S5 := S5.lt
            all_goals have l1 : z + 1 < w8.heap.size := by omega
            all_goals have l0 : z < w8.heap.size := by omega
            all_goals clear h8 EW
            all_goals go_wp2_with fail
            all_goals refine (HBp.out _).mono ?_
            all_goals rintro e w9 ⟨rfl, h9⟩
            all_goals have E9 : Ext w8 w9 := by (repeat' (first | exact Ext.refl _ | assumption | apply Ext.alloc | apply Ext.drew | refine Ext.set ?_ (by dsimp only; omega) _ | refine Ext.trans ?_ (by assumption)))
            all_goals clear c_B7 f_B7 l_B7 c_S5 f_S5 l_S5
            all_goals clear B7 S5 h9
            all_goals go_wp2_with fail
            all_goals refine wp_region_text (by kernel_rfl) (by kernel_rfl) ?_
            all_goals (repeat' (first | (refine bl_off (by rfl) ?_; simp only [Act.put, List.setIfInBounds_toArray, List.set_cons_zero, List.set_cons_succ]) | (apply bl_op; rfl; (intro w1 h1; obtain ⟨hc, hf, hz⟩ := bcell h1; go_simp; (try go_bits); (first | exact ⟨rfl, Ext.refl _⟩)); simp only [Act.put, List.setIfInBounds_toArray, List.set_cons_zero, List.set_cons_succ]) | (refine bl_split rfl rfl (fun hx => ?_) (fun hx => ?_) <;> simp only [hx])))
            all_goals refine bl_nil ?_
            all_goals intro w10 h10
            all_goals obtain ⟨hc_w10, hf_w10, hz_w10⟩ := bcell h10; (repeat (first | rw [World.size_alloc] at hz_w10 | rw [World.size_drew] at hz_w10 | rw [World.size_setCell] at hz_w10)); (try (have : w.heap.size < w10.heap.size := (by omega))); (try (have : w.heap.size + 1 < w10.heap.size := (by omega))); (try (have : w.heap.size + 1 + 1 < w10.heap.size := (by omega))); (try (have : w.heap.size + 1 + 1 + 1 < w10.heap.size := (by omega))); (try (have : w.heap.size + 1 + 1 + 1 + 1 < w10.heap.size := (by omega)))
            all_goals go_wp2_with fail
            all_goals go_roundw
            all_goals first | exact ⟨k + 1, by omega, by go_num, (EW2.out.trans E9).trans (by (repeat' (first | exact Ext.refl _ | assumption | apply Ext.alloc | apply Ext.drew | refine Ext.set ?_ (by dsimp only; omega) _ | refine Ext.trans ?_ (by assumption))))⟩ | (simp [intOf]; omega)
          · rw [hs, if_pos rfl] at hsp
            have HSP2 := Lib.hid hsp
            obtain ⟨h1, h2⟩ := hst hs
            clear hst hs hsp
            have hc4 : (IN = true ∧ holdsB ⟨⟨plx, phx⟩, ⟨ply, phy⟩, ⟨plu, phu⟩, plv, phv⟩ ⟨px, py, pu, pv⟩ = true ∧ holdsB ⟨⟨qlx, qhx⟩, ⟨qly, qhy⟩, ⟨qlu, qhu⟩, qlv, qhv⟩ ⟨px, py, pu, pv⟩ = false) ∨ (IN = true ∧ holdsB ⟨⟨plx, phx⟩, ⟨ply, phy⟩, ⟨plu, phu⟩, plv, phv⟩ ⟨px, py, pu, pv⟩ = false ∧ holdsB ⟨⟨qlx, qhx⟩, ⟨qly, qhy⟩, ⟨qlu, qhu⟩, qlv, qhv⟩ ⟨px, py, pu, pv⟩ = true) ∨
                (IN = false ∧ holdsB ⟨⟨plx, phx⟩, ⟨ply, phy⟩, ⟨plu, phu⟩, plv, phv⟩ ⟨px, py, pu, pv⟩ = true ∧ holdsB ⟨⟨qlx, qhx⟩, ⟨qly, qhy⟩, ⟨qlu, qhu⟩, qlv, qhv⟩ ⟨px, py, pu, pv⟩ = true) ∨ (IN = false ∧ holdsB ⟨⟨plx, phx⟩, ⟨ply, phy⟩, ⟨plu, phu⟩, plv, phv⟩ ⟨px, py, pu, pv⟩ = false ∧ holdsB ⟨⟨qlx, qhx⟩, ⟨qly, qhy⟩, ⟨qlu, qhu⟩, qlv, qhv⟩ ⟨px, py, pu, pv⟩ = false) := by
              revert h1 h2
              generalize holdsB ⟨⟨plx, phx⟩, ⟨ply, phy⟩, ⟨plu, phu⟩, plv, phv⟩ ⟨px, py, pu, pv⟩ = P
              generalize holdsB ⟨⟨qlx, qhx⟩, ⟨qly, qhy⟩, ⟨qlu, qhu⟩, qlv, qhv⟩ ⟨px, py, pu, pv⟩ = Q
              cases IN <;> cases P <;> cases Q <;> simp
            clear h1 h2
            rcases hc4 with ⟨rfl, eP, eQ⟩ | ⟨rfl, eP, eQ⟩ | ⟨rfl, eP, eQ⟩ | ⟨rfl, eP, eQ⟩
            all_goals simp only [if_true, if_false, Bool.false_eq_true] at hcount
            all_goals subst hcount
            all_goals have c_B7 := B7.cell; have f_B7 := B7.frozen; have l_B7 := B7.lt
            all_goals go_wp2_with fail
            all_goals refine (HSP2.out _).mono ?_
            all_goals rintro e w8 ⟨rfl, h8⟩
            all_goals clear c_B7 f_B7 l_B7 c_S5 f_S5 l_S5
            all_goals replace B7 := B7.ext h8
            all_goals replace S5 := S5.ext h8
            all_goals have EW2 := Lib.hid (EW.out.trans h8)
            all_goals have c_B7 := B7.cell; have f_B7 := B7.frozen; have l_B7 := B7.lt; have c_S5 := S5.cell; have f_S5 := S5.frozen; have l_S5 := S5.lt
            all_goals have l1 : z + 1 < w8.heap.size := by omega
            all_goals have l0 : z < w8.heap.size := by omega
            all_goals clear h8 EW
            all_goals go_wp2_with fail
            all_goals refine (HBp.out _).mono ?_
            all_goals rintro e w9 ⟨rfl, h9⟩
            all_goals have E9 : Ext w8 w9 := by (repeat' (first | exact Ext.refl _ | assumption | apply Ext.alloc | apply Ext.drew | refine Ext.set ?_ (by dsimp only; omega) _ | refine Ext.trans ?_ (by assumption)))
            all_goals clear c_B7 f_B7 l_B7 c_S5 f_S5 l_S5
            all_goals have S9 := S5.ext E9
            all_goals have PB : Blk w9 w8.heap.size 38 #[.int .i64 plx, .int .i64 phx, .int .i64 ply, .int .i64 phy, .int .i64 plu, .int .i64 phu, .int .i64 plv, .int .i64 phv] := ((Blk.newAt rfl).alloc _).ext h9
            all_goals have QB : Blk w9 (w8.heap.size + 1) 38 #[.int .i64 qlx, .int .i64 qhx, .int .i64 qly, .int .i64 qhy, .int .i64 qlu, .int .i64 qhu, .int .i64 qlv, .int .i64 qhv] := (Blk.newAt (by simp)).ext h9
            all_goals clear B7 S5 h9 l0 l1
            all_goals generalize w8.heap.size = z8 at *
            all_goals have c_S9 := S9.cell; have f_S9 := S9.frozen; have l_S9 := S9.lt; have c_PB := PB.cell; have f_PB := PB.frozen; have l_PB := PB.lt; have c_QB := QB.cell; have f_QB := QB.frozen; have l_QB := QB.lt
            all_goals go_wp2_with fail
            all_goals refine wp_region_text (by kernel_rfl) (by kernel_rfl) ?_
            all_goals (repeat' (first | (refine bl_off (by rfl) ?_; simp only [Act.put, List.setIfInBounds_toArray, List.set_cons_zero, List.set_cons_succ]) | (apply bl_op; rfl; (intro w1 h1; obtain ⟨hc, hf, hz⟩ := bcell h1; go_simp; (try go_bits); (first | exact ⟨rfl, Ext.refl _⟩ | (apply gives_call; go_at_call 30; exact oHolds_c ⟨⟨_, _⟩, ⟨_, _⟩, ⟨_, _⟩, _, _⟩ ⟨_, _, _, _⟩ _) | (go_invoke; go_simp; apply gives_call; go_at_call 30; exact oHolds_c ⟨⟨_, _⟩, ⟨_, _⟩, ⟨_, _⟩, _, _⟩ ⟨_, _, _, _⟩ _))); simp only [Act.put, List.setIfInBounds_toArray, List.set_cons_zero, List.set_cons_succ]) | (refine bl_split rfl rfl (fun hx => ?_) (fun hx => ?_) <;> simp only [hx])))
            all_goals refine bl_nil ?_
            all_goals intro w10 h10
            all_goals obtain ⟨hc_w10, hf_w10, hz_w10⟩ := bcell h10; (repeat (first | rw [World.size_alloc] at hz_w10 | rw [World.size_drew] at hz_w10 | rw [World.size_setCell] at hz_w10)); (try (have : w.heap.size < w10.heap.size := (by omega))); (try (have : w.heap.size + 1 < w10.heap.size := (by omega))); (try (have : w.heap.size + 1 + 1 < w10.heap.size := (by omega))); (try (have : w.heap.size + 1 + 1 + 1 < w10.heap.size := (by omega))); (try (have : w.heap.size + 1 + 1 + 1 + 1 < w10.heap.size := (by omega)))
            all_goals go_wp2_with fail
            all_goals go_roundw
            all_goals first | exact ⟨k + 1, by omega, by go_num, (EW2.out.trans E9).trans (by (repeat' (first | exact Ext.refl _ | assumption | apply Ext.alloc | apply Ext.drew | refine Ext.set ?_ (by dsimp only; omega) _ | refine Ext.trans ?_ (by assumption))))⟩ | (simp [intOf]; omega)
    · obtain rfl : k = 2 := by omega
      have B7 := HBB.out.ext hbo
      have HC7 := HC3.out wo hbo
      have c_B7 := B7.cell; have f_B7 := B7.frozen; have l_B7 := B7.lt
      go_wp2_with fail
      refine (HWI.out Ac q cc (some ⟨wo.heap.size, 0, none⟩) 1 _ (Bxs.ext (by (repeat' (first | exact Ext.refl _ | assumption | apply Ext.alloc | apply Ext.drew | refine Ext.set ?_ (by dsimp only; omega) _ | refine Ext.trans ?_ (by assumption)))) HC7) (bx_slice [b] (Blk.newAt rfl) (by simp))).mono ?_
      rintro e w9 ⟨rfl, h9⟩
      clear c_B7 f_B7 l_B7
      have E9 : Ext wo w9 := by (repeat' (first | exact Ext.refl _ | assumption | apply Ext.alloc | apply Ext.drew | refine Ext.set ?_ (by dsimp only; omega) _ | refine Ext.trans ?_ (by assumption)))
      clear h9 B7
      go_wp2_with fail
      refine (HA.out _).mono ?_
      rintro e w10 ⟨rfl, h10⟩
      go_wp2_with fail
      go_ret
      exact ⟨rfl, ((EV.trans hbo).trans E9).trans (by (repeat' (first | exact Ext.refl _ | assumption | apply Ext.alloc | apply Ext.drew | refine Ext.set ?_ (by dsimp only; omega) _ | refine Ext.trans ?_ (by assumption))))⟩
end Go.Proofs.YtfniicgoeljmdaaGreat
