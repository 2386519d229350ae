/- Where a list is no truth any more. No condition. -/
import Derived.Test.YtfniicgoeljmdaaGreatAwakeFour
namespace Go.Proofs.YtfniicgoeljmdaaGreat
open Go.RowKit

def truthF (l : List Body) (home : Int) (d : Drf) (tick : Int) : Option St → List St → Nat → Int
  | _, [], _ => -1
  | none, s :: r, k => if stErr s = 0 then truthF l home d tick (some s) r (k + 1) else k
  | some p, s :: r, k => if stErr s = 0 ∧ followsB l home d (tick + k - 1) p s = true then truthF l home d tick (some s) r (k + 1) else k
def truthM (l : List Body) (home : Int) (d : Drf) (tick : Int) (L : List St) : Int :=
  if wdErr l home d = 0 ∧ within tick 0 1073741824 = true ∧ tick + L.length - 1 ≤ 1073741824 then truthF l home d tick none L 0 else 0
set_option maxRecDepth 20000 in
set_option maxHeartbeats 4000000 in
theorem oTruth_c (A : Option Addr) (n c : Nat) (home : Int) (l : List Body) (d : Drf) (tick : Int) (B : Option Addr) (m e : Nat) (L : List St) (w : World) (hl : Bodies w A n l) (hL : Sts w B m L) (hm : m ≤ 1000) :
    Calls Tryz.prog 20 #[.agg #[.slice A n c, .int .i64 home], .agg #[.int .i64 d.light.lo, .int .i64 d.light.hi, .int .i64 d.heat.lo, .int .i64 d.heat.hi, .int .i64 d.gas], .int .i64 tick, .slice B m e] w fun e w' =>
      e = .returned (.int .i64 (truthM l home d tick L)) ∧ Ext w w' := by
  have HW := Lib.hid fun W (hW : Ext w W) => oCheckWorld_c A n c home l d.light.lo d.light.hi d.heat.lo d.heat.hi d.gas W (Bodies.ext hW hl)
  have hd : (⟨⟨d.light.lo, d.light.hi⟩, ⟨d.heat.lo, d.heat.hi⟩, d.gas⟩ : Drf) = d := rfl
  rw [hd] at HW
  have HT := Lib.hid fun W => oWithin_c tick 0 1073741824 W
  have HS := Lib.hid fun (s : St) W => oCheckState_c s.x s.y s.u s.v W
  change Hid (∀ (s : St) W, Calls _ _ _ W fun e w' => e = .returned (.int .i64 (stErr s)) ∧ _) at HS
  have HF : Hid (∀ (p s : St) (t : Int), wdErr l home d = 0 → 0 ≤ t ∧ t ≤ 1073741824 → stErr p = 0 → stErr s = 0 → ∀ W, Ext w W → Calls Tryz.prog 69 #[.agg #[.slice A n c, .int .i64 home], .agg #[.int .i64 d.light.lo, .int .i64 d.light.hi, .int .i64 d.heat.lo, .int .i64 d.heat.hi, .int .i64 d.gas], .int .i64 t, .agg #[.int .i64 p.x, .int .i64 p.y, .int .i64 p.u, .int .i64 p.v], .agg #[.int .i64 s.x, .int .i64 s.y, .int .i64 s.u, .int .i64 s.v]] W fun e w' =>
      e = .returned (.bool (followsB l home d t p s)) ∧ Ext W w') := Lib.hid fun p s t h0 ht h1 h2 W hW => oFollows_c A n c home l d t p.x p.y p.u p.v s.x s.y s.u s.v W (Bodies.ext hW hl) h1 h2
  have HLn := Lib.hid hL.len
  have HLs := Lib.hid fun W (hW : Ext w W) => Sts.ext hW hL
  obtain ⟨T, hT⟩ : ∃ T, truthM l home d tick L = T := ⟨_, rfl⟩
  rw [hT]
  unfold truthM at hT
  obtain ⟨E, hE⟩ : ∃ E, wdErr l home d = E := ⟨_, rfl⟩
  rw [hE] at HW HF hT
  obtain ⟨K, hK⟩ : ∃ K, within tick 0 1073741824 = K := ⟨_, rfl⟩
  rw [hK] at HT hT
  have hk := within_iff tick 0 1073741824
  rw [hK] at hk
  rw [← hL.len] at hT
  have HTT := Lib.hid hT
  clear hT hE hK hd hl hL
  obtain ⟨⟨ll, lh⟩, ⟨hl', hh⟩, g⟩ := d
  dsimp only at HW HF
  by_cases hE : E = 0
  · subst hE
    cases K
    · have HT0 : Hid (T = 0) := by have := HTT.out; rw [if_neg (by simp)] at this; exact this.symm
      clear HTT hk
      go_enter Tryz.func20, Tryz.ntmps20
      go_wp2_with fail
      refine (HW.out _ ext_by).mono ?_
      rintro e w1 ⟨rfl, h1⟩
      obtain ⟨hc_w1, hf_w1, hz_w1⟩ := bcell h1; (try simp only [szA] at hz_w1); (try have := wz0 w w1); (try have := wz1 w w1); (try have := wz2 w w1); (try have := wz3 w w1); (try have := wz4 w w1)
      go_wp2_with fail
      refine (HT.out _).mono ?_
      rintro e w2 ⟨rfl, h2⟩
      obtain ⟨hc_w2, hf_w2, hz_w2⟩ := bcell h2; (try simp only [szA] at hz_w2); (try have := wz0 w w2); (try have := wz1 w w2); (try have := wz2 w w2); (try have := wz3 w w2); (try have := wz4 w w2)
      go_wp2_with fail
      go_ret
      exact ⟨ret_i (by rw [HT0.out]), ext_by⟩
    · obtain ⟨hk1, hk2⟩ := hk.1 rfl
      clear hk
      by_cases hb : tick + m - 1 ≤ 1073741824
      · have HT0 : Hid (T = truthF l home ⟨⟨ll, lh⟩, ⟨hl', hh⟩, g⟩ tick none L 0) := by have := HTT.out; rw [if_pos ⟨rfl, rfl, hb⟩] at this; exact this.symm
        clear HTT
        go_enter Tryz.func20, Tryz.ntmps20
        go_wp2_with fail
        refine (HW.out _ ext_by).mono ?_
        rintro e w1 ⟨rfl, h1⟩
        have B4 : Blk w1 w.heap.size 24 #[.slice A n c, .int .i64 home] := ((Blk.newAt rfl).alloc _).ext h1
        have B5 : Blk w1 (w.heap.size + 1) 28 #[.int .i64 ll, .int .i64 lh, .int .i64 hl', .int .i64 hh, .int .i64 g] := (Blk.newAt (by simp)).ext h1
        have E1 : Ext w w1 := ext_by
        clear h1
        go_wp2_with fail
        refine (HT.out _).mono ?_
        rintro e w2 ⟨rfl, h2⟩
        replace B4 := B4.ext h2
        replace B5 := B5.ext h2
        replace E1 := E1.trans h2
        clear h2
        go_wp2_with fail
        go_loopw [30] (fun i wr => ∃ (k : Nat) (pv : Option St), k ≤ m ∧ i = .int .i64 k ∧ Hid ((k = 0 ∧ pv = none) ∨ ∃ p, 0 < k ∧ L[k - 1]? = some p ∧ stErr p = 0 ∧ pv = some p) ∧ Hid (truthF l home ⟨⟨ll, lh⟩, ⟨hl', hh⟩, g⟩ tick pv (L.drop k) k = T) ∧ Hid (Blk wr w.heap.size 24 #[.slice A n c, .int .i64 home]) ∧ Hid (Blk wr (w.heap.size + 1) 28 #[.int .i64 ll, .int .i64 lh, .int .i64 hl', .int .i64 hh, .int .i64 g]) ∧ Ext w wr) (fun i _ => m - (intOf i).toNat)
        case atStart => exact ⟨0, none, Nat.zero_le _, rfl, Lib.hid (.inl ⟨rfl, rfl⟩), Lib.hid HT0.out.symm, B4, B5, E1⟩
        case round =>
          clear B4 B5 E1
          obtain ⟨k, pv, hk, rfl, HP, HI, B4, B5, E⟩ := hrel
          by_cases hlt : k < m
          · obtain ⟨b, off, x, hB, HD, _, hx⟩ := (HLs.out wr E).one hlt
            subst hB
            have hxl : L[k]? = some x := by rw [← List.head?_drop, HD.out]; rfl
            have HXL := Lib.hid hxl
            have hi := HI.out
            rw [HD.out] at hi
            have HSX := Lib.hid fun W => HS.out x W
            obtain ⟨hx0, hx1, hx2, hx3⟩ := hx
            have hbl : b < wr.heap.size := World.block_lt_of_cell? wr _ hx0
            rcases HP.out with ⟨rfl, rfl⟩ | ⟨p, hk0, hp, hpe, rfl⟩
            · rw [truthF] at hi
              have hpos : Hid (stErr x = 0 → ∃ p, 0 < 0 + 1 ∧ L[0 + 1 - 1]? = some p ∧ stErr p = 0 ∧ some x = some p) := Lib.hid fun h => ⟨x, by omega, by simpa using HXL.out, h, rfl⟩
              clear HI HD hxl HP HXL
              by_cases hS : stErr x = 0
              · rw [if_pos hS] at hi
                have Hi := Lib.hid hi
                have HP' := Lib.hid (hpos.out hS)
                rw [hS] at HSX
                clear hi hpos hS
                obtain ⟨xx, xy, xu, xv⟩ := x
                dsimp only at hx0 hx1 hx2 hx3 HSX
                simp only [Nat.zero_mul, Nat.add_zero] at hx0 hx1 hx2 hx3
                go_wp2_with fail
                refine wp_region_text (by kernel_rfl) (by kernel_rfl) ?_
                (repeat' (first | (refine bl_off (by rfl) ?_; simp only [putX]) | (apply bl_op; rfl; (intro w1 h1; obtain ⟨hc, hf, hz⟩ := bcell h1; go_simp; (try go_bits); (first | exact ⟨rfl, Ext.refl _⟩ | (apply gives_call; first | (go_at_call 35; exact HSX.out _)) | (go_invoke; go_simp; apply gives_call; first | (go_at_call 35; exact HSX.out _)))); simp only [putX]) | (refine bl_split rfl rfl (fun hx => ?_) (fun hx => ?_) <;> simp only [hx])))
                refine bl_nil ?_
                intro w9 h9
                obtain ⟨hc_w9, hf_w9, hz_w9⟩ := bcell h9; (try simp only [szA] at hz_w9); (try have := wz0 w w9); (try have := wz1 w w9); (try have := wz2 w w9); (try have := wz3 w w9); (try have := wz4 w w9)
                go_wp2_with fail
                go_roundw
                case rel => exact ⟨0 + 1, some ⟨xx, xy, xu, xv⟩, by omega, by go_num, Lib.hid (.inr HP'.out), Hi, Lib.hid ((B4.out.alloc _).ext h9), Lib.hid ((B5.out.alloc _).ext h9), ext_by⟩
                case measure => simp [intOf]; omega
              · rw [if_neg hS] at hi
                have Hi := Lib.hid hi
                have hSd : (stErr x != 0) = true := by simpa using hS
                generalize stErr x = S at *
                clear hi hpos
                obtain ⟨xx, xy, xu, xv⟩ := x
                dsimp only at hx0 hx1 hx2 hx3 HSX
                simp only [Nat.zero_mul, Nat.add_zero] at hx0 hx1 hx2 hx3
                go_wp2_with fail
                refine wp_region_text (by kernel_rfl) (by kernel_rfl) ?_
                (repeat' (first | (refine bl_off (by rfl) ?_; simp only [putX]) | (apply bl_op; rfl; (intro w1 h1; obtain ⟨hc, hf, hz⟩ := bcell h1; go_simp; (try go_bits); (first | exact ⟨rfl, Ext.refl _⟩ | (apply gives_call; first | (go_at_call 35; exact HSX.out _)) | (go_invoke; go_simp; apply gives_call; first | (go_at_call 35; exact HSX.out _)))); simp only [putX]) | (refine bl_split rfl rfl (fun hx => ?_) (fun hx => ?_) <;> simp only [hx])))
                refine bl_nil ?_
                intro w9 h9
                obtain ⟨hc_w9, hf_w9, hz_w9⟩ := bcell h9; (try simp only [szA] at hz_w9); (try have := wz0 w w9); (try have := wz1 w w9); (try have := wz2 w w9); (try have := wz3 w w9); (try have := wz4 w w9)
                go_wp2_with fail
                go_ret
                exact ⟨ret_i (by first | exact Hi.out | (have := Hi.out; omega)), ext_by⟩
            · obtain ⟨j, rfl⟩ : ∃ j, k = j + 1 := ⟨k - 1, by omega⟩
              rw [show j + 1 - 1 = j by omega] at hp
              obtain ⟨_, b', off', hB', hpa⟩ := (HLs.out wr E).get hp
              injection hB' with hB'
              injection hB' with e1 e2 _
              subst e1 e2
              obtain ⟨hp0, hp1, hp2, hp3⟩ := hpa
              rw [truthF] at hi
              have hpos : Hid (stErr x = 0 → ∃ p, 0 < j + 1 + 1 ∧ L[j + 1 + 1 - 1]? = some p ∧ stErr p = 0 ∧ some x = some p) := Lib.hid fun h => ⟨x, by omega, by simpa using HXL.out, h, rfl⟩
              clear HI HD hxl HP HXL hp
              by_cases hS : stErr x = 0
              · have HFF := Lib.hid fun (t : Int) (ht : t = tick + j) W (hW : Ext w W) => (show Calls Tryz.prog 69 #[.agg #[.slice A n c, .int .i64 home], .agg #[.int .i64 ll, .int .i64 lh, .int .i64 hl', .int .i64 hh, .int .i64 g], .int .i64 t, .agg #[.int .i64 p.x, .int .i64 p.y, .int .i64 p.u, .int .i64 p.v], .agg #[.int .i64 x.x, .int .i64 x.y, .int .i64 x.u, .int .i64 x.v]] W fun e w' => e = .returned (.bool (followsB l home ⟨⟨ll, lh⟩, ⟨hl', hh⟩, g⟩ (tick + j) p x)) ∧ Ext W w' from by subst ht; exact HF.out p x _ (by first | trivial | rfl) (by omega) hpe hS W hW)
                have HP' := Lib.hid (hpos.out hS)
                rw [hS] at HSX
                rw [show tick + ((j + 1 : Nat) : Int) - 1 = tick + j by omega] at hi
                have hi' : (if followsB l home ⟨⟨ll, lh⟩, ⟨hl', hh⟩, g⟩ (tick + j) p x = true then truthF l home ⟨⟨ll, lh⟩, ⟨hl', hh⟩, g⟩ tick (some x) (L.drop (j + 1 + 1)) (j + 1 + 1) else ((j + 1 : Nat) : Int)) = T := by
                  rw [← hi]
                  simp [hS]
                generalize followsB l home ⟨⟨ll, lh⟩, ⟨hl', hh⟩, g⟩ (tick + j) p x = F at *
                have Hi := Lib.hid hi'
                clear hi hi' hpos hS hpe
                have c4 := B4.out.cell
                have c5 := B5.out.cell
                have l4 := B4.out.lt
                have l5 := B5.out.lt
                obtain ⟨xx, xy, xu, xv⟩ := x
                obtain ⟨px, py, pu, pv'⟩ := p
                dsimp only at hx0 hx1 hx2 hx3 hp0 hp1 hp2 hp3 HSX HFF
                have hjd : decide ((0 : Int) < (j : Int) + 1) = true := decide_eq_true (by omega)
                have hj0 : (0 : Int) < (j : Int) + 1 := by omega
                cases F
                · go_wp2_with fail
                  refine wp_region_text (by kernel_rfl) (by kernel_rfl) ?_
                  (repeat' (first | (refine bl_off (by rfl) ?_; simp only [putX]) | (apply bl_op; rfl; (intro w1 h1; obtain ⟨hc, hf, hz⟩ := bcell h1; go_simp; (try go_bits); (first | exact ⟨rfl, Ext.refl _⟩ | (apply gives_call; first | (go_at_call 35; exact HSX.out _) | (go_at_call 69; exact HFF.out _ (by omega) _ ext_by)) | (go_invoke; go_simp; apply gives_call; first | (go_at_call 35; exact HSX.out _) | (go_at_call 69; exact HFF.out _ (by omega) _ ext_by)))); simp only [putX]) | (refine bl_split rfl rfl (fun hx => ?_) (fun hx => ?_) <;> simp only [hx])))
                  refine bl_nil ?_
                  intro w9 h9
                  obtain ⟨hc_w9, hf_w9, hz_w9⟩ := bcell h9; (try simp only [szA] at hz_w9); (try have := wz0 w w9); (try have := wz1 w w9); (try have := wz2 w w9); (try have := wz3 w w9); (try have := wz4 w w9)
                  go_wp2_with fail
                  go_ret
                  exact ⟨ret_i (by have := Hi.out; simp at this; first | exact this | omega), ext_by⟩
                · go_wp2_with fail
                  refine wp_region_text (by kernel_rfl) (by kernel_rfl) ?_
                  (repeat' (first | (refine bl_off (by rfl) ?_; simp only [putX]) | (apply bl_op; rfl; (intro w1 h1; obtain ⟨hc, hf, hz⟩ := bcell h1; go_simp; (try go_bits); (first | exact ⟨rfl, Ext.refl _⟩ | (apply gives_call; first | (go_at_call 35; exact HSX.out _) | (go_at_call 69; exact HFF.out _ (by omega) _ ext_by)) | (go_invoke; go_simp; apply gives_call; first | (go_at_call 35; exact HSX.out _) | (go_at_call 69; exact HFF.out _ (by omega) _ ext_by)))); simp only [putX]) | (refine bl_split rfl rfl (fun hx => ?_) (fun hx => ?_) <;> simp only [hx])))
                  refine bl_nil ?_
                  intro w9 h9
                  obtain ⟨hc_w9, hf_w9, hz_w9⟩ := bcell h9; (try simp only [szA] at hz_w9); (try have := wz0 w w9); (try have := wz1 w w9); (try have := wz2 w w9); (try have := wz3 w w9); (try have := wz4 w w9)
                  go_wp2_with fail
                  go_roundw
                  case rel => exact ⟨j + 1 + 1, some ⟨xx, xy, xu, xv⟩, by omega, by go_num, Lib.hid (.inr HP'.out), Lib.hid (by have := Hi.out; simpa using this), Lib.hid ((B4.out.alloc _).ext h9), Lib.hid ((B5.out.alloc _).ext h9), ext_by⟩
                  case measure => simp [intOf]; omega
              · have Hi : Hid (((j + 1 : Nat) : Int) = T) := by
                  refine Lib.hid ?_
                  rw [← hi, if_neg (by simp [hS])]
                have hSd : (stErr x != 0) = true := by simpa using hS
                generalize stErr x = S at *
                clear hi hpos hpe
                obtain ⟨xx, xy, xu, xv⟩ := x
                dsimp only at hx0 hx1 hx2 hx3 HSX
                go_wp2_with fail
                refine wp_region_text (by kernel_rfl) (by kernel_rfl) ?_
                (repeat' (first | (refine bl_off (by rfl) ?_; simp only [putX]) | (apply bl_op; rfl; (intro w1 h1; obtain ⟨hc, hf, hz⟩ := bcell h1; go_simp; (try go_bits); (first | exact ⟨rfl, Ext.refl _⟩ | (apply gives_call; first | (go_at_call 35; exact HSX.out _)) | (go_invoke; go_simp; apply gives_call; first | (go_at_call 35; exact HSX.out _)))); simp only [putX]) | (refine bl_split rfl rfl (fun hx => ?_) (fun hx => ?_) <;> simp only [hx])))
                refine bl_nil ?_
                intro w9 h9
                obtain ⟨hc_w9, hf_w9, hz_w9⟩ := bcell h9; (try simp only [szA] at hz_w9); (try have := wz0 w w9); (try have := wz1 w w9); (try have := wz2 w w9); (try have := wz3 w w9); (try have := wz4 w w9)
                go_wp2_with fail
                go_ret
                exact ⟨ret_i (by first | exact Hi.out | (have := Hi.out; omega)), ext_by⟩
          · have hkn : k = m := by omega
            have hi := HI.out
            rw [hkn, HLn.out, List.drop_length] at hi
            have Hi : Hid (-1 = T) := by
              refine Lib.hid ?_
              rw [← hi]
              cases pv <;> rfl
            clear hi HI HLn hkn
            go_wp2_with fail
            go_ret
            exact ⟨ret_i Hi.out, E⟩
      · have HT0 : Hid (T = 0) := by have := HTT.out; rw [if_neg (by intro h; exact hb h.2.2)] at this; exact this.symm
        have hb' : 1073741824 < tick + m - 1 := by omega
        
        clear HTT hb
        go_enter Tryz.func20, Tryz.ntmps20
        go_wp2_with fail
        refine (HW.out _ ext_by).mono ?_
        rintro e w1 ⟨rfl, h1⟩
        obtain ⟨hc_w1, hf_w1, hz_w1⟩ := bcell h1; (try simp only [szA] at hz_w1); (try have := wz0 w w1); (try have := wz1 w w1); (try have := wz2 w w1); (try have := wz3 w w1); (try have := wz4 w w1)
        go_wp2_with fail
        refine (HT.out _).mono ?_
        rintro e w2 ⟨rfl, h2⟩
        obtain ⟨hc_w2, hf_w2, hz_w2⟩ := bcell h2; (try simp only [szA] at hz_w2); (try have := wz0 w w2); (try have := wz1 w w2); (try have := wz2 w w2); (try have := wz3 w w2); (try have := wz4 w w2)
        go_wp2_with fail
        go_ret
        exact ⟨ret_i (by rw [HT0.out]), ext_by⟩
  · have HT0 : Hid (T = 0) := by have := HTT.out; rw [if_neg (by intro h; exact hE h.1)] at this; exact this.symm
    clear HTT hk
    go_enter Tryz.func20, Tryz.ntmps20
    go_wp2_with fail
    refine (HW.out _ ext_by).mono ?_
    rintro e w1 ⟨rfl, h1⟩
    obtain ⟨hc_w1, hf_w1, hz_w1⟩ := bcell h1; (try simp only [szA] at hz_w1); (try have := wz0 w w1); (try have := wz1 w w1); (try have := wz2 w w1); (try have := wz3 w w1); (try have := wz4 w w1)
    go_wp2_with fail
    go_ret
    exact ⟨ret_i (by rw [HT0.out]), ext_by⟩
end Go.Proofs.YtfniicgoeljmdaaGreat
