/- Where a list is no truth any more: the reference. No condition. OrbitFollows, walked: it returns true. No condition. OrbitFollows, lifted to what the statement says of a run. No condition. -/
import Derived.Test.YtfniicgoeljmdaaGreatTruth
import Derived.Test.YtfniicgoeljmdaaGreatAwakeFour
import Derived.Test.YtfniicgoeljmdaaGreatOpen3
namespace Go.Proofs.YtfniicgoeljmdaaGreat
open Go.RowKit

set_option maxRecDepth 20000 in
set_option maxHeartbeats 4000000 in
theorem rTruth_c (A : Option Addr) (n c : Nat) (home : Int) (l : List Body) (d : Drf) (tick : Int) (B : Option Addr) (m e : Nat) (L : List St) (w : World) (hl : Bodies w A n l) (hL : Sts w B m L) (hm : m ≤ 1000) :
    Calls Tryz.prog 21 #[.agg #[.slice A n c, .int .i64 home], .agg #[.int .i64 d.light.lo, .int .i64 d.light.hi, .int .i64 d.heat.lo, .int .i64 d.heat.hi, .int .i64 d.gas], .int .i64 tick, .slice B m e] w fun e w' =>
      e = .returned (.int .i64 (truthM l home d tick L)) ∧ Ext w w' := by
  have HW := Lib.hid fun W (hW : Ext w W) => rWorld_c A n c home l d.light.lo d.light.hi d.heat.lo d.heat.hi d.gas W (Bodies.ext hW hl)
  have hd : (⟨⟨d.light.lo, d.light.hi⟩, ⟨d.heat.lo, d.heat.hi⟩, d.gas⟩ : Drf) = d := rfl
  rw [hd] at HW
  have HT := Lib.hid fun W => rBetween_c tick 0 1073741824 W
  have HS := Lib.hid fun (s : St) W => rCheckState_c s.x s.y s.u s.v W
  change Hid (∀ (s : St) W, Calls _ _ _ W fun e w' => e = .returned (.int .i64 (stErr s)) ∧ _) at HS
  have HF : Hid (∀ (p s : St) (t : Int), wdErr l home d = 0 → 0 ≤ t ∧ t ≤ 1073741824 → stErr p = 0 → stErr s = 0 → ∀ W, Ext w W → Calls Tryz.prog 72 #[.agg #[.slice A n c, .int .i64 home], .agg #[.int .i64 d.light.lo, .int .i64 d.light.hi, .int .i64 d.heat.lo, .int .i64 d.heat.hi, .int .i64 d.gas], .int .i64 t, .agg #[.int .i64 p.x, .int .i64 p.y, .int .i64 p.u, .int .i64 p.v], .agg #[.int .i64 s.x, .int .i64 s.y, .int .i64 s.u, .int .i64 s.v]] W fun e w' =>
      e = .returned (.bool (followsB l home d t p s)) ∧ Ext W w') := Lib.hid fun p s t h0 ht h1 h2 W hW => rFollows_c A n c home l d t p.x p.y p.u p.v s.x s.y s.u s.v W (Bodies.ext hW hl) h1 h2 (ask_st h0 ht h1)
  have HLn := Lib.hid hL.len
  have HLs := Lib.hid fun W (hW : Ext w W) => Sts.ext hW hL
  obtain ⟨T, hT⟩ : ∃ T, truthM l home d tick L = T := ⟨_, rfl⟩
  rw [hT]
  unfold truthM at hT
  obtain ⟨E, hE⟩ : ∃ E, wdErr l home d = E := ⟨_, rfl⟩
  rw [hE] at HW HF hT
  obtain ⟨K, hK⟩ : ∃ K, within tick 0 1073741824 = K := ⟨_, rfl⟩
  rw [hK] at HT hT
  have hk := within_iff tick 0 1073741824
  rw [hK] at hk
  rw [← hL.len] at hT
  have HTT := Lib.hid hT
  clear hT hE hK hd hl hL
  obtain ⟨⟨ll, lh⟩, ⟨hl', hh⟩, g⟩ := d
  dsimp only at HW HF
  by_cases hE : E = 0
  · subst hE
    cases K
    · have HT0 : Hid (T = 0) := by have := HTT.out; rw [if_neg (by simp)] at this; exact this.symm
      clear HTT hk
      go_enter Tryz.func21, Tryz.ntmps21
      go_wp2_with fail
      refine (HW.out _ (by (repeat' (first | exact Ext.refl _ | assumption | apply Ext.alloc | apply Ext.drew | refine Ext.set ?_ (by dsimp only; omega) _ | refine Ext.trans ?_ (by assumption))))).mono ?_
      rintro e w1 ⟨rfl, h1⟩
      obtain ⟨hc_w1, hf_w1, hz_w1⟩ := bcell h1; (repeat (first | rw [World.size_alloc] at hz_w1 | rw [World.size_drew] at hz_w1 | rw [World.size_setCell] at hz_w1)); (try (have : w.heap.size < w1.heap.size := (by omega))); (try (have : w.heap.size + 1 < w1.heap.size := (by omega))); (try (have : w.heap.size + 1 + 1 < w1.heap.size := (by omega))); (try (have : w.heap.size + 1 + 1 + 1 < w1.heap.size := (by omega))); (try (have : w.heap.size + 1 + 1 + 1 + 1 < w1.heap.size := (by omega)))
      go_wp2_with fail
      refine (HT.out _).mono ?_
      rintro e w2 ⟨rfl, h2⟩
      obtain ⟨hc_w2, hf_w2, hz_w2⟩ := bcell h2; (repeat (first | rw [World.size_alloc] at hz_w2 | rw [World.size_drew] at hz_w2 | rw [World.size_setCell] at hz_w2)); (try (have : w.heap.size < w2.heap.size := (by omega))); (try (have : w.heap.size + 1 < w2.heap.size := (by omega))); (try (have : w.heap.size + 1 + 1 < w2.heap.size := (by omega))); (try (have : w.heap.size + 1 + 1 + 1 < w2.heap.size := (by omega))); (try (have : w.heap.size + 1 + 1 + 1 + 1 < w2.heap.size := (by omega)))
      go_wp2_with fail
      go_ret
      exact ⟨ret_i (by rw [HT0.out]), by (repeat' (first | exact Ext.refl _ | assumption | apply Ext.alloc | apply Ext.drew | refine Ext.set ?_ (by dsimp only; omega) _ | refine Ext.trans ?_ (by assumption)))⟩
    · obtain ⟨hk1, hk2⟩ := hk.1 rfl
      clear hk
      by_cases hb : tick + m - 1 ≤ 1073741824
      · have HT0 : Hid (T = truthF l home ⟨⟨ll, lh⟩, ⟨hl', hh⟩, g⟩ tick none L 0) := by have := HTT.out; rw [if_pos ⟨rfl, rfl, hb⟩] at this; exact this.symm
        clear HTT
        go_enter Tryz.func21, Tryz.ntmps21
        go_wp2_with fail
        refine (HW.out _ (by (repeat' (first | exact Ext.refl _ | assumption | apply Ext.alloc | apply Ext.drew | refine Ext.set ?_ (by dsimp only; omega) _ | refine Ext.trans ?_ (by assumption))))).mono ?_
        rintro e w1 ⟨rfl, h1⟩
        have B4 : Blk w1 w.heap.size 24 #[.slice A n c, .int .i64 home] := ((Blk.newAt rfl).alloc _).ext h1
        have B5 : Blk w1 (w.heap.size + 1) 28 #[.int .i64 ll, .int .i64 lh, .int .i64 hl', .int .i64 hh, .int .i64 g] := (Blk.newAt (by simp)).ext h1
        have E1 : Ext w w1 := by (repeat' (first | exact Ext.refl _ | assumption | apply Ext.alloc | apply Ext.drew | refine Ext.set ?_ (by dsimp only; omega) _ | refine Ext.trans ?_ (by assumption)))
        clear h1
        go_wp2_with fail
        refine (HT.out _).mono ?_
        rintro e w2 ⟨rfl, h2⟩
        replace B4 := B4.ext h2
        replace B5 := B5.ext h2
        replace E1 := E1.trans h2
        clear h2
        go_wp2_with fail
        go_loopw [9] (fun i wr => ∃ (k : Nat) (pv : Option St), k ≤ m ∧ i = .int .i64 k ∧ Hid ((k = 0 ∧ pv = none) ∨ ∃ p, 0 < k ∧ L[k - 1]? = some p ∧ stErr p = 0 ∧ pv = some p) ∧ Hid (truthF l home ⟨⟨ll, lh⟩, ⟨hl', hh⟩, g⟩ tick pv (L.drop k) k = T) ∧ Hid (Blk wr w.heap.size 24 #[.slice A n c, .int .i64 home]) ∧ Hid (Blk wr (w.heap.size + 1) 28 #[.int .i64 ll, .int .i64 lh, .int .i64 hl', .int .i64 hh, .int .i64 g]) ∧ Ext w wr) (fun i _ => m - (intOf i).toNat)
        case atStart => exact ⟨0, none, Nat.zero_le _, rfl, Lib.hid (.inl ⟨rfl, rfl⟩), Lib.hid HT0.out.symm, B4, B5, E1⟩
        case round =>
          clear B4 B5 E1
          obtain ⟨k, pv, hk, rfl, HP, HI, B4, B5, E⟩ := hrel
          by_cases hlt : k < m
          · obtain ⟨b, off, x, hB, HD, _, hx⟩ := (HLs.out wr E).one hlt
            subst hB
            have hxl : L[k]? = some x := by rw [← List.head?_drop, HD.out]; rfl
            have HXL := Lib.hid hxl
            have hi := HI.out
            rw [HD.out] at hi
            have HSX := Lib.hid fun W => HS.out x W
            obtain ⟨hx0, hx1, hx2, hx3⟩ := hx
            have hbl : b < wr.heap.size := World.block_lt_of_cell? wr _ hx0
            rcases HP.out with ⟨rfl, rfl⟩ | ⟨p, hk0, hp, hpe, rfl⟩
            · rw [truthF] at hi
              have hpos : Hid (stErr x = 0 → ∃ p, 0 < 0 + 1 ∧ L[0 + 1 - 1]? = some p ∧ stErr p = 0 ∧ some x = some p) := Lib.hid fun h => ⟨x, by omega, by simpa using HXL.out, h, rfl⟩
              clear HI HD hxl HP HXL
              by_cases hS : stErr x = 0
              · rw [if_pos hS] at hi
                have Hi := Lib.hid hi
                have HP' := Lib.hid (hpos.out hS)
                rw [hS] at HSX
                clear hi hpos hS
                obtain ⟨xx, xy, xu, xv⟩ := x
                dsimp only at hx0 hx1 hx2 hx3 HSX
                simp only [Nat.zero_mul, Nat.add_zero] at hx0 hx1 hx2 hx3
                go_wp2_with fail
                refine wp_region_text (by kernel_rfl) (by kernel_rfl) ?_
                (repeat' (first | (refine bl_off (by rfl) ?_; simp only [Act.put, List.setIfInBounds_toArray, List.set_cons_zero, List.set_cons_succ]) | (apply bl_op; rfl; (intro w1 h1; obtain ⟨hc, hf, hz⟩ := bcell h1; go_simp; (try go_bits); (first | exact ⟨rfl, Ext.refl _⟩ | (apply gives_call; first | (go_at_call 36; exact HSX.out _)) | (go_invoke; go_simp; apply gives_call; first | (go_at_call 36; exact HSX.out _)))); simp only [Act.put, List.setIfInBounds_toArray, List.set_cons_zero, List.set_cons_succ]) | (refine bl_split rfl rfl (fun hx => ?_) (fun hx => ?_) <;> simp only [hx])))
                refine bl_nil ?_
                intro w9 h9
                obtain ⟨hc_w9, hf_w9, hz_w9⟩ := bcell h9; (repeat (first | rw [World.size_alloc] at hz_w9 | rw [World.size_drew] at hz_w9 | rw [World.size_setCell] at hz_w9)); (try (have : w.heap.size < w9.heap.size := (by omega))); (try (have : w.heap.size + 1 < w9.heap.size := (by omega))); (try (have : w.heap.size + 1 + 1 < w9.heap.size := (by omega))); (try (have : w.heap.size + 1 + 1 + 1 < w9.heap.size := (by omega))); (try (have : w.heap.size + 1 + 1 + 1 + 1 < w9.heap.size := (by omega)))
                go_wp2_with fail
                go_roundw
                case rel => exact ⟨0 + 1, some ⟨xx, xy, xu, xv⟩, by omega, by go_num, Lib.hid (.inr HP'.out), Hi, Lib.hid (B4.out.ext h9), Lib.hid (B5.out.ext h9), by (repeat' (first | exact Ext.refl _ | assumption | apply Ext.alloc | apply Ext.drew | refine Ext.set ?_ (by dsimp only; omega) _ | refine Ext.trans ?_ (by assumption)))⟩
                case measure => simp [intOf]; omega
              · rw [if_neg hS] at hi
                have Hi := Lib.hid hi
                have hSd : (stErr x != 0) = true := by simpa using hS
                generalize stErr x = S at *
                clear hi hpos
                obtain ⟨xx, xy, xu, xv⟩ := x
                dsimp only at hx0 hx1 hx2 hx3 HSX
                simp only [Nat.zero_mul, Nat.add_zero] at hx0 hx1 hx2 hx3
                go_wp2_with fail
                refine wp_region_text (by kernel_rfl) (by kernel_rfl) ?_
                (repeat' (first | (refine bl_off (by rfl) ?_; simp only [Act.put, List.setIfInBounds_toArray, List.set_cons_zero, List.set_cons_succ]) | (apply bl_op; rfl; (intro w1 h1; obtain ⟨hc, hf, hz⟩ := bcell h1; go_simp; (try go_bits); (first | exact ⟨rfl, Ext.refl _⟩ | (apply gives_call; first | (go_at_call 36; exact HSX.out _)) | (go_invoke; go_simp; apply gives_call; first | (go_at_call 36; exact HSX.out _)))); simp only [Act.put, List.setIfInBounds_toArray, List.set_cons_zero, List.set_cons_succ]) | (refine bl_split rfl rfl (fun hx => ?_) (fun hx => ?_) <;> simp only [hx])))
                refine bl_nil ?_
                intro w9 h9
                obtain ⟨hc_w9, hf_w9, hz_w9⟩ := bcell h9; (repeat (first | rw [World.size_alloc] at hz_w9 | rw [World.size_drew] at hz_w9 | rw [World.size_setCell] at hz_w9)); (try (have : w.heap.size < w9.heap.size := (by omega))); (try (have : w.heap.size + 1 < w9.heap.size := (by omega))); (try (have : w.heap.size + 1 + 1 < w9.heap.size := (by omega))); (try (have : w.heap.size + 1 + 1 + 1 < w9.heap.size := (by omega))); (try (have : w.heap.size + 1 + 1 + 1 + 1 < w9.heap.size := (by omega)))
                go_wp2_with fail
                go_ret
                exact ⟨ret_i (by first | exact Hi.out | (have := Hi.out; omega)), by (repeat' (first | exact Ext.refl _ | assumption | apply Ext.alloc | apply Ext.drew | refine Ext.set ?_ (by dsimp only; omega) _ | refine Ext.trans ?_ (by assumption)))⟩
            · obtain ⟨j, rfl⟩ : ∃ j, k = j + 1 := ⟨k - 1, by omega⟩
              rw [show j + 1 - 1 = j by omega] at hp
              obtain ⟨_, b', off', hB', hpa⟩ := (HLs.out wr E).get hp
              injection hB' with hB'
              injection hB' with e1 e2 _
              subst e1 e2
              obtain ⟨hp0, hp1, hp2, hp3⟩ := hpa
              rw [truthF] at hi
              have hpos : Hid (stErr x = 0 → ∃ p, 0 < j + 1 + 1 ∧ L[j + 1 + 1 - 1]? = some p ∧ stErr p = 0 ∧ some x = some p) := Lib.hid fun h => ⟨x, by omega, by simpa using HXL.out, h, rfl⟩
              clear HI HD hxl HP HXL hp
              by_cases hS : stErr x = 0
              · have HFF := Lib.hid fun (t : Int) (ht : t = tick + j) W (hW : Ext w W) => (show Calls Tryz.prog 72 #[.agg #[.slice A n c, .int .i64 home], .agg #[.int .i64 ll, .int .i64 lh, .int .i64 hl', .int .i64 hh, .int .i64 g], .int .i64 t, .agg #[.int .i64 p.x, .int .i64 p.y, .int .i64 p.u, .int .i64 p.v], .agg #[.int .i64 x.x, .int .i64 x.y, .int .i64 x.u, .int .i64 x.v]] W fun e w' => e = .returned (.bool (followsB l home ⟨⟨ll, lh⟩, ⟨hl', hh⟩, g⟩ (tick + j) p x)) ∧ Ext W w' from by subst ht; exact HF.out p x _ (by first | trivial | rfl) (by omega) hpe hS W hW)
                have HP' := Lib.hid (hpos.out hS)
                rw [hS] at HSX
                rw [show tick + ((j + 1 : Nat) : Int) - 1 = tick + j by omega] at hi
                have hi' : (if followsB l home ⟨⟨ll, lh⟩, ⟨hl', hh⟩, g⟩ (tick + j) p x = true then truthF l home ⟨⟨ll, lh⟩, ⟨hl', hh⟩, g⟩ tick (some x) (L.drop (j + 1 + 1)) (j + 1 + 1) else ((j + 1 : Nat) : Int)) = T := by
                  rw [← hi]
                  simp [hS]
                generalize followsB l home ⟨⟨ll, lh⟩, ⟨hl', hh⟩, g⟩ (tick + j) p x = F at *
                have Hi := Lib.hid hi'
                clear hi hi' hpos hS hpe
                have c4 := B4.out.cell
                have c5 := B5.out.cell
                have l4 := B4.out.lt
                have l5 := B5.out.lt
                obtain ⟨xx, xy, xu, xv⟩ := x
                obtain ⟨px, py, pu, pv'⟩ := p
                dsimp only at hx0 hx1 hx2 hx3 hp0 hp1 hp2 hp3 HSX HFF
                have hjd : decide ((0 : Int) < (j : Int) + 1) = true := decide_eq_true (by omega)
                have hj0 : (0 : Int) < (j : Int) + 1 := by omega
                cases F
                · go_wp2_with fail
                  refine wp_region_text (by kernel_rfl) (by kernel_rfl) ?_
                  (repeat' (first | (refine bl_off (by rfl) ?_; simp only [Act.put, List.setIfInBounds_toArray, List.set_cons_zero, List.set_cons_succ]) | (apply bl_op; rfl; (intro w1 h1; obtain ⟨hc, hf, hz⟩ := bcell h1; go_simp; (try go_bits); (first | exact ⟨rfl, Ext.refl _⟩ | (apply gives_call; first | (go_at_call 36; exact HSX.out _) | (go_at_call 72; exact HFF.out _ (by omega) _ (by (repeat' (first | exact Ext.refl _ | assumption | apply Ext.alloc | apply Ext.drew | refine Ext.set ?_ (by dsimp only; omega) _ | refine Ext.trans ?_ (by assumption)))))) | (go_invoke; go_simp; apply gives_call; first | (go_at_call 36; exact HSX.out _) | (go_at_call 72; exact HFF.out _ (by omega) _ (by (repeat' (first | exact Ext.refl _ | assumption | apply Ext.alloc | apply Ext.drew | refine Ext.set ?_ (by dsimp only; omega) _ | refine Ext.trans ?_ (by assumption)))))))); simp only [Act.put, List.setIfInBounds_toArray, List.set_cons_zero, List.set_cons_succ]) | (refine bl_split rfl rfl (fun hx => ?_) (fun hx => ?_) <;> simp only [hx])))
                  refine bl_nil ?_
                  intro w9 h9
                  obtain ⟨hc_w9, hf_w9, hz_w9⟩ := bcell h9; (repeat (first | rw [World.size_alloc] at hz_w9 | rw [World.size_drew] at hz_w9 | rw [World.size_setCell] at hz_w9)); (try (have : w.heap.size < w9.heap.size := (by omega))); (try (have : w.heap.size + 1 < w9.heap.size := (by omega))); (try (have : w.heap.size + 1 + 1 < w9.heap.size := (by omega))); (try (have : w.heap.size + 1 + 1 + 1 < w9.heap.size := (by omega))); (try (have : w.heap.size + 1 + 1 + 1 + 1 < w9.heap.size := (by omega)))
                  go_wp2_with fail
                  go_ret
                  exact ⟨ret_i (by have := Hi.out; simp at this; first | exact this | omega), by (repeat' (first | exact Ext.refl _ | assumption | apply Ext.alloc | apply Ext.drew | refine Ext.set ?_ (by dsimp only; omega) _ | refine Ext.trans ?_ (by assumption)))⟩
                · go_wp2_with fail
                  refine wp_region_text (by kernel_rfl) (by kernel_rfl) ?_
                  (repeat' (first | (refine bl_off (by rfl) ?_; simp only [Act.put, List.setIfInBounds_toArray, List.set_cons_zero, List.set_cons_succ]) | (apply bl_op; rfl; (intro w1 h1; obtain ⟨hc, hf, hz⟩ := bcell h1; go_simp; (try go_bits); (first | exact ⟨rfl, Ext.refl _⟩ | (apply gives_call; first | (go_at_call 36; exact HSX.out _) | (go_at_call 72; exact HFF.out _ (by omega) _ (by (repeat' (first | exact Ext.refl _ | assumption | apply Ext.alloc | apply Ext.drew | refine Ext.set ?_ (by dsimp only; omega) _ | refine Ext.trans ?_ (by assumption)))))) | (go_invoke; go_simp; apply gives_call; first | (go_at_call 36; exact HSX.out _) | (go_at_call 72; exact HFF.out _ (by omega) _ (by (repeat' (first | exact Ext.refl _ | assumption | apply Ext.alloc | apply Ext.drew | refine Ext.set ?_ (by dsimp only; omega) _ | refine Ext.trans ?_ (by assumption)))))))); simp only [Act.put, List.setIfInBounds_toArray, List.set_cons_zero, List.set_cons_succ]) | (refine bl_split rfl rfl (fun hx => ?_) (fun hx => ?_) <;> simp only [hx])))
                  refine bl_nil ?_
                  intro w9 h9
                  obtain ⟨hc_w9, hf_w9, hz_w9⟩ := bcell h9; (repeat (first | rw [World.size_alloc] at hz_w9 | rw [World.size_drew] at hz_w9 | rw [World.size_setCell] at hz_w9)); (try (have : w.heap.size < w9.heap.size := (by omega))); (try (have : w.heap.size + 1 < w9.heap.size := (by omega))); (try (have : w.heap.size + 1 + 1 < w9.heap.size := (by omega))); (try (have : w.heap.size + 1 + 1 + 1 < w9.heap.size := (by omega))); (try (have : w.heap.size + 1 + 1 + 1 + 1 < w9.heap.size := (by omega)))
                  go_wp2_with fail
                  go_roundw
                  case rel => exact ⟨j + 1 + 1, some ⟨xx, xy, xu, xv⟩, by omega, by go_num, Lib.hid (.inr HP'.out), Lib.hid (by have := Hi.out; simpa using this), Lib.hid (B4.out.ext h9), Lib.hid (B5.out.ext h9), by (repeat' (first | exact Ext.refl _ | assumption | apply Ext.alloc | apply Ext.drew | refine Ext.set ?_ (by dsimp only; omega) _ | refine Ext.trans ?_ (by assumption)))⟩
                  case measure => simp [intOf]; omega
              · have Hi : Hid (((j + 1 : Nat) : Int) = T) := by
                  refine Lib.hid ?_
                  rw [← hi, if_neg (by simp [hS])]
                have hSd : (stErr x != 0) = true := by simpa using hS
                generalize stErr x = S at *
                clear hi hpos hpe
                obtain ⟨xx, xy, xu, xv⟩ := x
                dsimp only at hx0 hx1 hx2 hx3 HSX
                go_wp2_with fail
                refine wp_region_text (by kernel_rfl) (by kernel_rfl) ?_
                (repeat' (first | (refine bl_off (by rfl) ?_; simp only [Act.put, List.setIfInBounds_toArray, List.set_cons_zero, List.set_cons_succ]) | (apply bl_op; rfl; (intro w1 h1; obtain ⟨hc, hf, hz⟩ := bcell h1; go_simp; (try go_bits); (first | exact ⟨rfl, Ext.refl _⟩ | (apply gives_call; first | (go_at_call 36; exact HSX.out _)) | (go_invoke; go_simp; apply gives_call; first | (go_at_call 36; exact HSX.out _)))); simp only [Act.put, List.setIfInBounds_toArray, List.set_cons_zero, List.set_cons_succ]) | (refine bl_split rfl rfl (fun hx => ?_) (fun hx => ?_) <;> simp only [hx])))
                refine bl_nil ?_
                intro w9 h9
                obtain ⟨hc_w9, hf_w9, hz_w9⟩ := bcell h9; (repeat (first | rw [World.size_alloc] at hz_w9 | rw [World.size_drew] at hz_w9 | rw [World.size_setCell] at hz_w9)); (try (have : w.heap.size < w9.heap.size := (by omega))); (try (have : w.heap.size + 1 < w9.heap.size := (by omega))); (try (have : w.heap.size + 1 + 1 < w9.heap.size := (by omega))); (try (have : w.heap.size + 1 + 1 + 1 < w9.heap.size := (by omega))); (try (have : w.heap.size + 1 + 1 + 1 + 1 < w9.heap.size := (by omega)))
                go_wp2_with fail
                go_ret
                exact ⟨ret_i (by first | exact Hi.out | (have := Hi.out; omega)), by (repeat' (first | exact Ext.refl _ | assumption | apply Ext.alloc | apply Ext.drew | refine Ext.set ?_ (by dsimp only; omega) _ | refine Ext.trans ?_ (by assumption)))⟩
          · have hkn : k = m := by omega
            have hi := HI.out
            rw [hkn, HLn.out, List.drop_length] at hi
            have Hi : Hid (-1 = T) := by
              refine Lib.hid ?_
              rw [← hi]
              cases pv <;> rfl
            clear hi HI HLn hkn
            go_wp2_with fail
            go_ret
            exact ⟨ret_i Hi.out, E⟩
      · have HT0 : Hid (T = 0) := by have := HTT.out; rw [if_neg (by intro h; exact hb h.2.2)] at this; exact this.symm
        have hb' : 1073741824 < tick + m - 1 := by omega
        have hb2 : 1073741824 - tick + 1 < (m : Int) := by omega
        clear HTT hb
        go_enter Tryz.func21, Tryz.ntmps21
        go_wp2_with fail
        refine (HW.out _ (by (repeat' (first | exact Ext.refl _ | assumption | apply Ext.alloc | apply Ext.drew | refine Ext.set ?_ (by dsimp only; omega) _ | refine Ext.trans ?_ (by assumption))))).mono ?_
        rintro e w1 ⟨rfl, h1⟩
        obtain ⟨hc_w1, hf_w1, hz_w1⟩ := bcell h1; (repeat (first | rw [World.size_alloc] at hz_w1 | rw [World.size_drew] at hz_w1 | rw [World.size_setCell] at hz_w1)); (try (have : w.heap.size < w1.heap.size := (by omega))); (try (have : w.heap.size + 1 < w1.heap.size := (by omega))); (try (have : w.heap.size + 1 + 1 < w1.heap.size := (by omega))); (try (have : w.heap.size + 1 + 1 + 1 < w1.heap.size := (by omega))); (try (have : w.heap.size + 1 + 1 + 1 + 1 < w1.heap.size := (by omega)))
        go_wp2_with fail
        refine (HT.out _).mono ?_
        rintro e w2 ⟨rfl, h2⟩
        obtain ⟨hc_w2, hf_w2, hz_w2⟩ := bcell h2; (repeat (first | rw [World.size_alloc] at hz_w2 | rw [World.size_drew] at hz_w2 | rw [World.size_setCell] at hz_w2)); (try (have : w.heap.size < w2.heap.size := (by omega))); (try (have : w.heap.size + 1 < w2.heap.size := (by omega))); (try (have : w.heap.size + 1 + 1 < w2.heap.size := (by omega))); (try (have : w.heap.size + 1 + 1 + 1 < w2.heap.size := (by omega))); (try (have : w.heap.size + 1 + 1 + 1 + 1 < w2.heap.size := (by omega)))
        go_wp2_with fail
        go_ret
        exact ⟨ret_i (by rw [HT0.out]), by (repeat' (first | exact Ext.refl _ | assumption | apply Ext.alloc | apply Ext.drew | refine Ext.set ?_ (by dsimp only; omega) _ | refine Ext.trans ?_ (by assumption)))⟩
  · have HT0 : Hid (T = 0) := by have := HTT.out; rw [if_neg (by intro h; exact hE h.1)] at this; exact this.symm
    clear HTT hk
    go_enter Tryz.func21, Tryz.ntmps21
    go_wp2_with fail
    refine (HW.out _ (by (repeat' (first | exact Ext.refl _ | assumption | apply Ext.alloc | apply Ext.drew | refine Ext.set ?_ (by dsimp only; omega) _ | refine Ext.trans ?_ (by assumption))))).mono ?_
    rintro e w1 ⟨rfl, h1⟩
    obtain ⟨hc_w1, hf_w1, hz_w1⟩ := bcell h1; (repeat (first | rw [World.size_alloc] at hz_w1 | rw [World.size_drew] at hz_w1 | rw [World.size_setCell] at hz_w1)); (try (have : w.heap.size < w1.heap.size := (by omega))); (try (have : w.heap.size + 1 < w1.heap.size := (by omega))); (try (have : w.heap.size + 1 + 1 < w1.heap.size := (by omega))); (try (have : w.heap.size + 1 + 1 + 1 < w1.heap.size := (by omega))); (try (have : w.heap.size + 1 + 1 + 1 + 1 < w1.heap.size := (by omega)))
    go_wp2_with fail
    go_ret
    exact ⟨ret_i (by rw [HT0.out]), by (repeat' (first | exact Ext.refl _ | assumption | apply Ext.alloc | apply Ext.drew | refine Ext.set ?_ (by dsimp only; omega) _ | refine Ext.trans ?_ (by assumption)))⟩
end Go.Proofs.YtfniicgoeljmdaaGreat

namespace Go.Proofs.YtfniicgoeljmdaaGreat
open Go.RowKit Go.ChangeShapes Go.WideShapes Go.ChangeAt

set_option maxRecDepth 20000 in
set_option maxHeartbeats 4000000 in
theorem OrbitFollows_c (A : Option Addr) (n c : Nat) (l : List Body) (home : Int) (d : Drf) (tick : Int) (s t : St) (B : Option Addr) (m e : Nat) (L : List St) (w : World) (hl : Bodies w A n l) (hL : Sts w B m L) :
    Calls Tryz.prog 3 #[.agg #[.slice A n c, .int .i64 home], .agg #[.int .i64 d.light.lo, .int .i64 d.light.hi, .int .i64 d.heat.lo, .int .i64 d.heat.hi, .int .i64 d.gas], .int .i64 tick, .agg #[.int .i64 s.x, .int .i64 s.y, .int .i64 s.u, .int .i64 s.v], .agg #[.int .i64 t.x, .int .i64 t.y, .int .i64 t.u, .int .i64 t.v], .slice B m e] w fun e w' => e = .returned (.bool true) ∧ Ext w w' := by
  have hm := hL.le
  have HA := Lib.hid fun W => awake4_c W
  have HB := Lib.hid fun W (hW : Ext w W) => BigWorld_c A n c home l W (Bodies.ext hW hl)
  have H1 := Lib.hid fun W (hW : Ext w W) => oPossible_c A n c home l d tick s.x s.y s.u s.v t.x t.y t.u t.v W (Bodies.ext hW hl)
  have G1 := Lib.hid fun W (hW : Ext w W) => rPossible_c A n c home l d tick s.x s.y s.u s.v t.x t.y t.u t.v W (Bodies.ext hW hl)
  have H2 := Lib.hid fun W (hW : Ext w W) (h : m ≤ 1000) => oTruth_c A n c home l d tick B m e L W (Bodies.ext hW hl) (Sts.ext hW hL) h
  have G2 := Lib.hid fun W (hW : Ext w W) (h : m ≤ 1000) => rTruth_c A n c home l d tick B m e L W (Bodies.ext hW hl) (Sts.ext hW hL) h
  generalize bigWld l = G at *
  generalize possibleB l home d tick ⟨s.x, s.y, s.u, s.v⟩ ⟨t.x, t.y, t.u, t.v⟩ = R1 at *
  generalize truthM l home d tick L = R2 at *
  obtain ⟨⟨ll, lh⟩, ⟨hl', hh⟩, g⟩ := d
  obtain ⟨sx, sy, su, sv⟩ := s
  obtain ⟨tx, ty, tu, tv⟩ := t
  dsimp only at *
  clear hl hL
  by_cases hbig : G = true ∨ 30 < m
  · rcases (show G = true ∨ (G = false ∧ 30 < m) by cases G <;> simp at hbig ⊢ <;> omega) with rfl | ⟨rfl, h1⟩
    all_goals clear hbig H1 G1 H2 G2
    all_goals go_enter Tryz.func3, Tryz.ntmps3
    all_goals go_wp2_with fail
    all_goals refine (HB.out _ (by (repeat' (first | exact Ext.refl _ | assumption | apply Ext.alloc | apply Ext.drew | refine Ext.set ?_ (by dsimp only; omega) _ | refine Ext.trans ?_ (by assumption))))).mono ?_
    all_goals rintro e w1 ⟨rfl, h1⟩
    all_goals obtain ⟨hc_w1, hf_w1, hz_w1⟩ := bcell h1; (repeat (first | rw [World.size_alloc] at hz_w1 | rw [World.size_drew] at hz_w1 | rw [World.size_setCell] at hz_w1)); (try (have : w.heap.size < w1.heap.size := (by omega))); (try (have : w.heap.size + 1 < w1.heap.size := (by omega))); (try (have : w.heap.size + 1 + 1 < w1.heap.size := (by omega))); (try (have : w.heap.size + 1 + 1 + 1 < w1.heap.size := (by omega))); (try (have : w.heap.size + 1 + 1 + 1 + 1 < w1.heap.size := (by omega)))
    all_goals go_wp2_with fail
    all_goals refine (HA.out _).mono ?_
    all_goals rintro e w2 ⟨rfl, h2⟩
    all_goals obtain ⟨hc_w2, hf_w2, hz_w2⟩ := bcell h2; (repeat (first | rw [World.size_alloc] at hz_w2 | rw [World.size_drew] at hz_w2 | rw [World.size_setCell] at hz_w2)); (try (have : w.heap.size < w2.heap.size := (by omega))); (try (have : w.heap.size + 1 < w2.heap.size := (by omega))); (try (have : w.heap.size + 1 + 1 < w2.heap.size := (by omega))); (try (have : w.heap.size + 1 + 1 + 1 < w2.heap.size := (by omega))); (try (have : w.heap.size + 1 + 1 + 1 + 1 < w2.heap.size := (by omega)))
    all_goals go_wp2_with fail
    all_goals go_ret
    all_goals exact ⟨rfl, by (repeat' (first | exact Ext.refl _ | assumption | apply Ext.alloc | apply Ext.drew | refine Ext.set ?_ (by dsimp only; omega) _ | refine Ext.trans ?_ (by assumption)))⟩
  · obtain ⟨rfl, h1⟩ : G = false ∧ m ≤ 30 := by cases G <;> simp at hbig ⊢ <;> omega
    clear hbig
    go_enter Tryz.func3, Tryz.ntmps3
    go_wp2_with fail
    refine (HB.out _ (by (repeat' (first | exact Ext.refl _ | assumption | apply Ext.alloc | apply Ext.drew | refine Ext.set ?_ (by dsimp only; omega) _ | refine Ext.trans ?_ (by assumption))))).mono ?_
    rintro e w1 ⟨rfl, hw1⟩
    have B6 : Blk w1 w.heap.size 24 #[.slice A n c, .int .i64 home] := ((((Blk.newAt rfl).alloc _).alloc _).alloc _).ext hw1
    have B7 : Blk w1 (w.heap.size + 1) 28 #[.int .i64 ll, .int .i64 lh, .int .i64 hl', .int .i64 hh, .int .i64 g] := (((Blk.newAt (by simp)).alloc _).alloc _).ext hw1
    have B9 : Blk w1 (w.heap.size + 1 + 1) 30 #[.int .i64 sx, .int .i64 sy, .int .i64 su, .int .i64 sv] := ((Blk.newAt (by simp)).alloc _).ext hw1
    have B10 : Blk w1 (w.heap.size + 1 + 1 + 1) 30 #[.int .i64 tx, .int .i64 ty, .int .i64 tu, .int .i64 tv] := (Blk.newAt (by simp)).ext hw1
    have E : Ext w w1 := by (repeat' (first | exact Ext.refl _ | assumption | apply Ext.alloc | apply Ext.drew | refine Ext.set ?_ (by dsimp only; omega) _ | refine Ext.trans ?_ (by assumption)))
    clear hw1
    have c_B6 := B6.cell; have f_B6 := B6.frozen; have l_B6 := B6.lt; have c_B7 := B7.cell; have f_B7 := B7.frozen; have l_B7 := B7.lt; have c_B9 := B9.cell; have f_B9 := B9.frozen; have l_B9 := B9.lt; have c_B10 := B10.cell; have f_B10 := B10.frozen; have l_B10 := B10.lt
    go_wp2_with fail
    refine wp_region_text (by kernel_rfl) (by kernel_rfl) ?_
    (repeat' (first | (refine bl_off (by rfl) ?_; simp only [Act.put, List.setIfInBounds_toArray, List.set_cons_zero, List.set_cons_succ]) | (apply bl_op; rfl; (intro w1 h1; obtain ⟨hc, hf, hz⟩ := bcell h1; go_simp; (try go_bits); (first | exact ⟨rfl, Ext.refl _⟩ | (apply gives_call; first | (go_at_call 18; exact H1.out _ (by (repeat' (first | exact Ext.refl _ | assumption | apply Ext.alloc | apply Ext.drew | refine Ext.set ?_ (by dsimp only; omega) _ | refine Ext.trans ?_ (by assumption))))) | (go_at_call 19; exact G1.out _ (by (repeat' (first | exact Ext.refl _ | assumption | apply Ext.alloc | apply Ext.drew | refine Ext.set ?_ (by dsimp only; omega) _ | refine Ext.trans ?_ (by assumption))))) | (go_at_call 20; exact H2.out _ (by (repeat' (first | exact Ext.refl _ | assumption | apply Ext.alloc | apply Ext.drew | refine Ext.set ?_ (by dsimp only; omega) _ | refine Ext.trans ?_ (by assumption)))) (by omega)) | (go_at_call 21; exact G2.out _ (by (repeat' (first | exact Ext.refl _ | assumption | apply Ext.alloc | apply Ext.drew | refine Ext.set ?_ (by dsimp only; omega) _ | refine Ext.trans ?_ (by assumption)))) (by omega)) | (go_at_call 17; exact HA.out _)) | (go_invoke; go_simp; apply gives_call; first | (go_at_call 18; exact H1.out _ (by (repeat' (first | exact Ext.refl _ | assumption | apply Ext.alloc | apply Ext.drew | refine Ext.set ?_ (by dsimp only; omega) _ | refine Ext.trans ?_ (by assumption))))) | (go_at_call 19; exact G1.out _ (by (repeat' (first | exact Ext.refl _ | assumption | apply Ext.alloc | apply Ext.drew | refine Ext.set ?_ (by dsimp only; omega) _ | refine Ext.trans ?_ (by assumption))))) | (go_at_call 20; exact H2.out _ (by (repeat' (first | exact Ext.refl _ | assumption | apply Ext.alloc | apply Ext.drew | refine Ext.set ?_ (by dsimp only; omega) _ | refine Ext.trans ?_ (by assumption)))) (by omega)) | (go_at_call 21; exact G2.out _ (by (repeat' (first | exact Ext.refl _ | assumption | apply Ext.alloc | apply Ext.drew | refine Ext.set ?_ (by dsimp only; omega) _ | refine Ext.trans ?_ (by assumption)))) (by omega)) | (go_at_call 17; exact HA.out _)))); simp only [Act.put, List.setIfInBounds_toArray, List.set_cons_zero, List.set_cons_succ]) | (refine bl_split rfl rfl (fun hx => ?_) (fun hx => ?_) <;> simp only [hx])))
    refine bl_nil ?_
    intro w5 h5
    obtain ⟨hc_w5, hf_w5, hz_w5⟩ := bcell h5; (repeat (first | rw [World.size_alloc] at hz_w5 | rw [World.size_drew] at hz_w5 | rw [World.size_setCell] at hz_w5)); (try (have : w.heap.size < w5.heap.size := (by omega))); (try (have : w.heap.size + 1 < w5.heap.size := (by omega))); (try (have : w.heap.size + 1 + 1 < w5.heap.size := (by omega))); (try (have : w.heap.size + 1 + 1 + 1 < w5.heap.size := (by omega))); (try (have : w.heap.size + 1 + 1 + 1 + 1 < w5.heap.size := (by omega)))
    go_wp2_with fail
    go_ret
    exact ⟨rfl, by (repeat' (first | exact Ext.refl _ | assumption | apply Ext.alloc | apply Ext.drew | refine Ext.set ?_ (by dsimp only; omega) _ | refine Ext.trans ?_ (by assumption)))⟩
end Go.Proofs.YtfniicgoeljmdaaGreat

namespace Go.Proofs.YtfniicgoeljmdaaGreat
open Go.RowKit Go.ChangeShapes Go.WideShapes Go.ChangeAt

set_option maxRecDepth 100000 in
set_option maxHeartbeats 1000000 in
theorem follows_lifted (os : Os) (started : os.Started) (H : Type) (enc : TypeId × Value → H) :
    ReturnsInHanded {} Tryz.checked os 3 .any (Rows.orbitFollowsSpec.pre6 enc Tryz.prog Tryz.f3 Rows.orbitFollowsRow.domain false) (Rows.orbitFollowsSpec.post enc Tryz.prog Tryz.f3 false true false false) := by
  refine returnsInHanded_of_change (C := Tryz.checked) own started (by kernel_rfl) Tryz.func3
    (ChangeSpec.witness6 (enc := enc) (C := Tryz.checked) false ⟨#[], #[.agg #[.slice none 0 0, .int .i64 0], .agg #[.int .i64 0, .int .i64 0, .int .i64 0, .int .i64 0, .int .i64 0], .int .i64 0, .agg #[.int .i64 0, .int .i64 0, .int .i64 0, .int .i64 0], .agg #[.int .i64 0, .int .i64 0, .int .i64 0, .int .i64 0], .slice none 0 0], []⟩ 8 (by kernel_rfl) (by kernel_rfl) (by kernel_rfl) (by kernel_rfl)) ?_
  intro W base args ds gs before hval0 hW _ _
  have hval : ∀ (j : Nat) t v, Tryz.f3.params[j]? = some t → args[j]? = some v → Value.okWide Tryz.prog W .any base t v := hval0
  have hW' := hW
  obtain ⟨p, q, hA0, hV, rfl, hfz, hnd⟩ := hW
  have hA : DataW.TrodAll enc Tryz.prog W 0 (fun _ => true) true Tryz.f3.params.toList args.toList ds p := hA0
  rw [Tryz.params3] at hA hval
  obtain ⟨v0, vs0, d0, ds0, p0, q0, hargs, rfl, rfl, h0, r0⟩ := trodAll_cons hA
  obtain ⟨v1, vs1, d1, ds1, p1, q1, rfl, rfl, rfl, h1, r1⟩ := trodAll_cons r0
  obtain ⟨v2, vs2, d2, ds2, p2, q2, rfl, rfl, rfl, h2, r2⟩ := trodAll_cons r1
  obtain ⟨v3, vs3, d3, ds3, p3, q3, rfl, rfl, rfl, h3, r3⟩ := trodAll_cons r2
  obtain ⟨v4, vs4, d4, ds4, p4, q4, rfl, rfl, rfl, h4, r4⟩ := trodAll_cons r3
  obtain ⟨v5, vs5, d5, ds5, p5, q5, rfl, rfl, rfl, h5, r5⟩ := trodAll_cons r4
  obtain ⟨rfl, rfl, rfl⟩ := trodAll_nil r5
  obtain ⟨rfl, rfl⟩ := trodVars_none hV
  obtain rfl : args = #[v0, v1, v2, v3, v4, v5] := by cases args; simp_all
  obtain ⟨cs0, rfl, _⟩ := okWide_struct Tryz.underlying24 (hval 0 _ v0 rfl rfl)
  obtain ⟨fuel0, h0⟩ := h0
  obtain ⟨A_0, n_0, c_0, l_0, home_0, e0, hl0⟩ := open_world h0
  obtain ⟨cs0⟩ := cs0
  obtain rfl : cs0 = _ := e0
  obtain ⟨cs1, rfl, _⟩ := okWide_struct Tryz.underlying28 (hval 1 _ v1 rfl rfl)
  obtain ⟨fuel1, h1⟩ := h1
  obtain ⟨x1, e1⟩ := open_drift h1
  obtain ⟨cs1⟩ := cs1
  obtain rfl : cs1 = _ := e1
  obtain ⟨m2, rfl⟩ := okWide_int Tryz.underlying2 (hval 2 _ v2 rfl rfl)
  obtain ⟨cs3, rfl, _⟩ := okWide_struct Tryz.underlying30 (hval 3 _ v3 rfl rfl)
  obtain ⟨fuel3, h3⟩ := h3
  obtain ⟨x3, e3⟩ := open_state h3
  obtain ⟨cs3⟩ := cs3
  obtain rfl : cs3 = _ := e3
  obtain ⟨cs4, rfl, _⟩ := okWide_struct Tryz.underlying30 (hval 4 _ v4 rfl rfl)
  obtain ⟨fuel4, h4⟩ := h4
  obtain ⟨x4, e4⟩ := open_state h4
  obtain ⟨cs4⟩ := cs4
  obtain rfl : cs4 = _ := e4
  obtain ⟨A5, len5, cap5, rfl⟩ := okWide_slice Tryz.underlying31 (hval 5 _ v5 rfl rfl)
  obtain ⟨fuel5, h5⟩ := h5
  obtain ⟨A_5, n_5, c_5, l_5, e5, hl5⟩ := open_states h5
  injection e5 with e5 _; injection e5 with e5a e5b e5c; subst e5a e5b e5c
  refine (OrbitFollows_c A_0 n_0 c_0 l_0 home_0 x1 _ x3 x4 A5 len5 cap5 l_5 W hl0     hl5).mono fun e W' ⟨he, hb⟩ => ?_
  subst he
  exact ⟨_, rfl, law_post (by kernel_rfl) rfl rfl hW' rfl hb⟩

end Go.Proofs.YtfniicgoeljmdaaGreat
