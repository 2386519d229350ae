/- States in sets, sets in sets: the reference. No condition. -/
import Derived.Test.YtfniicgoeljmdaaGreatRefBox
namespace Go.Proofs.YtfniicgoeljmdaaGreat
open Go.RowKit

set_option maxRecDepth 20000 in
set_option maxHeartbeats 2000000 in
theorem rIn_c (A : Option Addr) (n c : Nat) (l : List Bx) (s : St) (w : World) (hl : Bxs w A n l) :
    Calls Tryz.prog 43 #[.slice A n c, .agg #[.int .i64 s.x, .int .i64 s.y, .int .i64 s.u, .int .i64 s.v]] w fun e w' => e = .returned (.bool (inSet l s)) ∧ Ext w w' := by
  have hn := hl.le
  have hln := Lib.hid hl.len
  obtain ⟨IN, hIN⟩ : ∃ f : Bx → Bool, f = fun y => holdsB y s := ⟨_, rfl⟩
  have HC : Hid (∀ (y : Bx) W, Calls Tryz.prog 41 #[.agg #[.int .i64 y.x.lo, .int .i64 y.x.hi, .int .i64 y.y.lo, .int .i64 y.y.hi, .int .i64 y.u.lo, .int .i64 y.u.hi, .int .i64 y.v.lo, .int .i64 y.v.hi], .agg #[.int .i64 s.x, .int .i64 s.y, .int .i64 s.u, .int .i64 s.v]] W fun e w' => e = .returned (.bool (IN y)) ∧ Ext W w') := by
    rw [hIN]; exact fun y W => rHolds_c y s.x s.y s.u s.v W
  have hR : inSet l s = l.any IN := by rw [hIN]; rfl
  rw [hR]
  clear hIN hR
  obtain ⟨sx, sy, su, sv⟩ := s
  dsimp only at HC ⊢
  go_enter Tryz.func43, Tryz.ntmps43
  go_wp2_with fail
  refine name_world _ ?_
  intro W1 hW1
  obtain ⟨b3, h3⟩ : ∃ b, b = w.heap.size := ⟨_, rfl⟩
  have B3 : Blk W1 b3 30 #[.int .i64 sx, .int .i64 sy, .int .i64 su, .int .i64 sv] := by rw [hW1]; exact Blk.newAt h3
  have E1 : Ext w W1 := by rw [hW1]; (repeat' (first | exact Ext.refl _ | assumption | apply Ext.alloc | apply Ext.drew | refine Ext.set ?_ (by dsimp only; omega) _ | refine Ext.trans ?_ (by assumption)))
  rw [← h3]
  clear hW1 h3
  go_loopw [5] (fun i wr => ∃ k : Nat, k ≤ n ∧ i = .int .i64 k ∧ Hid ((l.drop k).any IN = l.any IN) ∧ Ext W1 wr) (fun i _ => n - (intOf i).toNat)
  case atStart => exact ⟨0, Nat.zero_le _, rfl, rfl, Ext.refl _⟩
  case round =>
    obtain ⟨k, hk, rfl, HI, hb⟩ := hrel
    have c3 := (B3.ext hb).cell
    have l3 := (B3.ext hb).lt
    by_cases hlt : k < n
    · obtain ⟨b, off, x, rfl, HD, hxm, hx⟩ := hl.one hlt
      obtain ⟨hx0, hx1, hx2, hx3, hx4, hx5, hx6, hx7⟩ := bxAt.ext (E1.trans hb) hx
      have hbl : b < wr.heap.size := World.block_lt_of_cell? wr _ hx0
      have HCx := Lib.hid fun W => HC.out x W
      have hi := HI.out
      rw [HD.out, List.any_cons] at hi
      have Hi := Lib.hid hi
      clear hi hxm hx
      generalize IN x = v at *
      obtain ⟨⟨xl, xh⟩, ⟨yl, yh⟩, ⟨ul, uh⟩, vl, vh⟩ := x
      dsimp only at hx0 hx1 hx2 hx3 hx4 hx5 hx6 hx7 HCx
      cases v
      · go_wp2_with fail
        refine wp_region_text (by kernel_rfl) (by kernel_rfl) ?_
        (repeat' (first | (refine bl_off (by rfl) ?_; simp only [Act.put, List.setIfInBounds_toArray, List.set_cons_zero, List.set_cons_succ]) | (apply bl_op; rfl; (intro w1 h1; obtain ⟨hc, hf, hz⟩ := bcell h1; go_simp; (try go_bits); (first | exact ⟨rfl, Ext.refl _⟩ | (apply gives_call; first | (go_at_call 41; exact HCx.out _)) | (go_invoke; go_simp; apply gives_call; first | (go_at_call 41; exact HCx.out _)))); simp only [Act.put, List.setIfInBounds_toArray, List.set_cons_zero, List.set_cons_succ]) | (refine bl_split rfl rfl (fun hx => ?_) (fun hx => ?_) <;> simp only [hx])))
        refine bl_nil ?_
        intro w2 h2
        obtain ⟨hc_w2, hf_w2, hz_w2⟩ := bcell h2; (repeat (first | rw [World.size_alloc] at hz_w2 | rw [World.size_drew] at hz_w2 | rw [World.size_setCell] at hz_w2)); (try (have : w.heap.size < w2.heap.size := (by omega))); (try (have : w.heap.size + 1 < w2.heap.size := (by omega))); (try (have : w.heap.size + 1 + 1 < w2.heap.size := (by omega))); (try (have : w.heap.size + 1 + 1 + 1 < w2.heap.size := (by omega))); (try (have : w.heap.size + 1 + 1 + 1 + 1 < w2.heap.size := (by omega)))
        go_wp2_with fail
        go_roundw
        case rel => exact ⟨k + 1, by omega, by go_num, Lib.hid (by have := Hi.out; rwa [Bool.false_or] at this), by (repeat' (first | exact Ext.refl _ | assumption | apply Ext.alloc | apply Ext.drew | refine Ext.set ?_ (by dsimp only; omega) _ | refine Ext.trans ?_ (by assumption)))⟩
        case measure => simp [intOf]; omega
      · have hany : Hid (l.any IN = true) := by have := Hi.out; rw [Bool.true_or] at this; exact this.symm
        go_wp2_with fail
        refine wp_region_text (by kernel_rfl) (by kernel_rfl) ?_
        (repeat' (first | (refine bl_off (by rfl) ?_; simp only [Act.put, List.setIfInBounds_toArray, List.set_cons_zero, List.set_cons_succ]) | (apply bl_op; rfl; (intro w1 h1; obtain ⟨hc, hf, hz⟩ := bcell h1; go_simp; (try go_bits); (first | exact ⟨rfl, Ext.refl _⟩ | (apply gives_call; first | (go_at_call 41; exact HCx.out _)) | (go_invoke; go_simp; apply gives_call; first | (go_at_call 41; exact HCx.out _)))); simp only [Act.put, List.setIfInBounds_toArray, List.set_cons_zero, List.set_cons_succ]) | (refine bl_split rfl rfl (fun hx => ?_) (fun hx => ?_) <;> simp only [hx])))
        refine bl_nil ?_
        intro w2 h2
        obtain ⟨hc_w2, hf_w2, hz_w2⟩ := bcell h2; (repeat (first | rw [World.size_alloc] at hz_w2 | rw [World.size_drew] at hz_w2 | rw [World.size_setCell] at hz_w2)); (try (have : w.heap.size < w2.heap.size := (by omega))); (try (have : w.heap.size + 1 < w2.heap.size := (by omega))); (try (have : w.heap.size + 1 + 1 < w2.heap.size := (by omega))); (try (have : w.heap.size + 1 + 1 + 1 < w2.heap.size := (by omega))); (try (have : w.heap.size + 1 + 1 + 1 + 1 < w2.heap.size := (by omega)))
        go_wp2_with fail
        go_ret
        exact ⟨ret_b hany.out.symm, by (repeat' (first | exact Ext.refl _ | assumption | apply Ext.alloc | apply Ext.drew | refine Ext.set ?_ (by dsimp only; omega) _ | refine Ext.trans ?_ (by assumption)))⟩
    · have hkn : k = n := by omega
      have hi := HI.out
      rw [hkn, hln.out, List.drop_length] at hi
      have Hi := Lib.hid hi
      clear hi
      go_wp2_with fail
      go_ret
      exact ⟨ret_b Hi.out, by (repeat' (first | exact Ext.refl _ | assumption | apply Ext.alloc | apply Ext.drew | refine Ext.set ?_ (by dsimp only; omega) _ | refine Ext.trans ?_ (by assumption)))⟩
theorem inside_eq {x : Bx} (h : fullB x = true) (y : Bx) : insideB x y = (holdsB y (lowS x) && holdsB y (highS x)) := by
  have h1 := fullB_iff.1 h
  rw [Bool.eq_iff_iff, insideB_iff, Bool.and_eq_true, holdsB_iff, holdsB_iff]
  unfold lowS highS
  dsimp only
  omega
theorem inside_no {x : Bx} (h : fullB x = false) (y : Bx) : insideB x y = false := by
  rw [Bool.eq_false_iff, Ne, insideB_iff]
  intro q
  have h1 : fullB x = true := fullB_iff.2 (by omega)
  rw [h] at h1
  cases h1
theorem any_no {x : Bx} (h : fullB x = false) (r : List Bx) : (r.any fun y => insideB x y) = false := by
  rw [List.any_eq_false]
  intro y _
  rw [inside_no h]
  decide
set_option maxRecDepth 20000 in
set_option maxHeartbeats 4000000 in
theorem rWithinSet_c (A B : Option Addr) (n m c d : Nat) (l r : List Bx) (w : World) (hl : Bxs w A n l) (hr : Bxs w B m r) :
    Calls Tryz.prog 44 #[.slice A n c, .slice B m d] w fun e w' => e = .returned (.bool (withinS l r)) ∧ Ext w w' := by
  have hn := hl.le
  have hm := hr.le
  have hln := Lib.hid hl.len
  have hrn := Lib.hid hr.len
  go_enter Tryz.func44, Tryz.ntmps44
  go_wp2_with fail
  go_loopw [5] (fun i wr => ∃ k : Nat, k ≤ n ∧ i = .int .i64 k ∧ Hid (withinS (l.drop k) r = withinS l r) ∧ Ext w wr) (fun i _ => n - (intOf i).toNat)
  case atStart => exact ⟨0, Nat.zero_le _, rfl, rfl, Ext.refl _⟩
  case round =>
    obtain ⟨k, hk, rfl, HI, hb⟩ := hrel
    by_cases hlt : k < n
    · obtain ⟨b, off, x, rfl, HD, hxm, hx⟩ := hl.one hlt
      have Hx : Hid (bxAt wr x b (off + k * 8)) := bxAt.ext hb hx
      have hi := HI.out
      rw [HD.out] at hi
      have hi2 : ((r.any fun y => insideB x y) && withinS (l.drop (k + 1)) r) = withinS l r := hi
      have Hi := Lib.hid hi2
      clear hi hi2 hxm hx
      obtain ⟨wo, rfl⟩ : ∃ wo : World, wo = wr := ⟨_, rfl⟩
      have HF := Lib.hid fun W => rFull_c x.x.lo x.x.hi x.y.lo x.y.hi x.u.lo x.u.hi x.v.lo x.v.hi W
      have HFe : Hid (fullB x = fullB ⟨⟨x.x.lo, x.x.hi⟩, ⟨x.y.lo, x.y.hi⟩, ⟨x.u.lo, x.u.hi⟩, x.v.lo, x.v.hi⟩) := rfl
      rw [← HFe.out] at HF
      clear HFe
      obtain ⟨F, hF⟩ : ∃ F, fullB x = F := ⟨_, rfl⟩
      rw [hF] at HF
      have hbl : b < wo.heap.size := World.block_lt_of_cell? wo _ Hx.out.1
      cases F
      · have hany : Hid ((r.any fun y => insideB x y) = false) := any_no hF r
        have Hn : Hid (withinS l r = false) := by have := Hi.out; rw [hany.out, Bool.false_and] at this; exact this.symm
        clear Hi hany hF
        obtain ⟨hx0, hx1, hx2, hx3, hx4, hx5, hx6, hx7⟩ := Hx.out
        obtain ⟨⟨xl, xh⟩, ⟨yl, yh⟩, ⟨ul, uh⟩, vl, vh⟩ := x
        dsimp only at hx0 hx1 hx2 hx3 hx4 hx5 hx6 hx7 HF
        go_wp2_with fail
        go_loopw [6, 7] (fun sm j wr2 => sm = .bool false ∧ j = .int .i64 0 ∧ Ext wo wr2) (fun _ _ _ => 0)
        case atStart => exact ⟨rfl, rfl, Ext.refl _⟩
        case round =>
          obtain ⟨rfl, rfl, hb2⟩ := hrel
          obtain ⟨hc2, hf2, hz2⟩ := bcell hb2
          have hbl2 : b < wr.heap.size := by omega
          by_cases hm0 : (0 : Int) < (m : Int)
          · go_wp2_with fail
            refine (HF.out _).mono ?_
            rintro e w7 ⟨rfl, h7⟩
            obtain ⟨hc_w7, hf_w7, hz_w7⟩ := bcell h7; (repeat (first | rw [World.size_alloc] at hz_w7 | rw [World.size_drew] at hz_w7 | rw [World.size_setCell] at hz_w7)); (try (have : w.heap.size < w7.heap.size := (by omega))); (try (have : w.heap.size + 1 < w7.heap.size := (by omega))); (try (have : w.heap.size + 1 + 1 < w7.heap.size := (by omega))); (try (have : w.heap.size + 1 + 1 + 1 < w7.heap.size := (by omega))); (try (have : w.heap.size + 1 + 1 + 1 + 1 < w7.heap.size := (by omega)))
            go_wp2_with fail
            go_ret
            exact ⟨ret_b Hn.out.symm, by (repeat' (first | exact Ext.refl _ | assumption | apply Ext.alloc | apply Ext.drew | refine Ext.set ?_ (by dsimp only; omega) _ | refine Ext.trans ?_ (by assumption)))⟩
          · go_wp2_with fail
            go_ret
            exact ⟨ret_b Hn.out.symm, by (repeat' (first | exact Ext.refl _ | assumption | apply Ext.alloc | apply Ext.drew | refine Ext.set ?_ (by dsimp only; omega) _ | refine Ext.trans ?_ (by assumption)))⟩
      · obtain ⟨IN, hIN⟩ : ∃ f : Bx → Bool, f = fun y => insideB x y := ⟨_, rfl⟩
        have HIN : Hid (∀ y, IN y = (holdsB y (lowS x) && holdsB y (highS x))) := by rw [hIN]; exact inside_eq hF
        have Hi' : Hid ((r.any IN && withinS (l.drop (k + 1)) r) = withinS l r) := by rw [hIN]; exact Hi.out
        clear Hi hIN hF
        have HL := Lib.hid fun W => rLow_c x.x.lo x.x.hi x.y.lo x.y.hi x.u.lo x.u.hi x.v.lo x.v.hi W
        have HH := Lib.hid fun W => rHigh_c x.x.lo x.x.hi x.y.lo x.y.hi x.u.lo x.u.hi x.v.lo x.v.hi W
        obtain ⟨hx0, hx1, hx2, hx3, hx4, hx5, hx6, hx7⟩ := Hx.out
        obtain ⟨⟨xl, xh⟩, ⟨yl, yh⟩, ⟨ul, uh⟩, vl, vh⟩ := x
        dsimp only at hx0 hx1 hx2 hx3 hx4 hx5 hx6 hx7 HF HL HH
        go_wp2_with fail
        go_loopw [6, 7] (fun sm j wr2 => ∃ (q : Nat) (v : Bool), q ≤ m ∧ sm = .bool v ∧ j = .int .i64 q ∧ Hid ((v || (r.drop q).any IN) = r.any IN) ∧ Ext wo wr2) (fun _ j _ => m - (intOf j).toNat)
        case atStart => exact ⟨0, false, Nat.zero_le _, rfl, rfl, by simp [Hid], Ext.refl _⟩
        case round =>
          obtain ⟨q, v, hq, rfl, rfl, HJ, hb2⟩ := hrel
          obtain ⟨hc2, hf2, hz2⟩ := bcell hb2
          have hbl2 : b < wr.heap.size := by omega
          by_cases hqm : q < m
          · obtain ⟨b', off', y, rfl, HD2, hym, hy⟩ := hr.one hqm
            obtain ⟨hy0, hy1, hy2, hy3, hy4, hy5, hy6, hy7⟩ := bxAt.ext (hb.trans hb2) hy
            have hbl3 : b' < wr.heap.size := World.block_lt_of_cell? wr _ hy0
            have HC := Lib.hid fun p q s t W => rHolds_c y p q s t W
            have hj := HJ.out
            rw [HD2.out, List.any_cons, HIN.out y] at hj
            unfold lowS highS at hj
            dsimp only at hj
            have Hj := Lib.hid hj
            clear hj hym hy HJ
            cases v
            · obtain ⟨Y, hY⟩ : ∃ Y, Y = y := ⟨_, rfl⟩
              rw [← hY] at Hj HC
              obtain ⟨⟨zxl, zxh⟩, ⟨zyl, zyh⟩, ⟨zul, zuh⟩, zvl, zvh⟩ := y
              have HC2 : Hid (∀ p q s t W, Calls Tryz.prog 41 #[.agg #[.int .i64 zxl, .int .i64 zxh, .int .i64 zyl, .int .i64 zyh, .int .i64 zul, .int .i64 zuh, .int .i64 zvl, .int .i64 zvh], .agg #[.int .i64 p, .int .i64 q, .int .i64 s, .int .i64 t]] W fun e w' => e = .returned (.bool (holdsB Y ⟨p, q, s, t⟩)) ∧ Ext W w') := by
                intro p q s t W
                have := HC.out p q s t W
                rw [hY] at this ⊢
                exact this
              clear HC hY
              dsimp only at hy0 hy1 hy2 hy3 hy4 hy5 hy6 hy7
              go_wp2_with fail
              refine (HF.out _).mono ?_
              rintro e w7 ⟨rfl, h7⟩
              obtain ⟨hc_w7, hf_w7, hz_w7⟩ := bcell h7; (repeat (first | rw [World.size_alloc] at hz_w7 | rw [World.size_drew] at hz_w7 | rw [World.size_setCell] at hz_w7)); (try (have : w.heap.size < w7.heap.size := (by omega))); (try (have : w.heap.size + 1 < w7.heap.size := (by omega))); (try (have : w.heap.size + 1 + 1 < w7.heap.size := (by omega))); (try (have : w.heap.size + 1 + 1 + 1 < w7.heap.size := (by omega))); (try (have : w.heap.size + 1 + 1 + 1 + 1 < w7.heap.size := (by omega)))
              go_wp2_with fail
              have p1 : b < w7.heap.size := by omega
              have p2 : b' < w7.heap.size := by omega
              all_goals refine wp_region_text (by kernel_rfl) (by kernel_rfl) ?_
              all_goals (repeat' (first | (refine bl_off (by rfl) ?_; simp only [Act.put, List.setIfInBounds_toArray, List.set_cons_zero, List.set_cons_succ]) | (apply bl_op; rfl; (intro w1 h1; obtain ⟨hc, hf, hz⟩ := bcell h1; go_simp; (try go_bits); (first | exact ⟨rfl, Ext.refl _⟩ | (apply gives_call; first | (go_at_call 96; exact HL.out _) | (go_at_call 97; exact HH.out _) | (go_at_call 41; exact HC2.out _ _ _ _ _)) | (go_invoke; go_simp; apply gives_call; first | (go_at_call 96; exact HL.out _) | (go_at_call 97; exact HH.out _) | (go_at_call 41; exact HC2.out _ _ _ _ _)))); simp only [Act.put, List.setIfInBounds_toArray, List.set_cons_zero, List.set_cons_succ]) | (refine bl_split rfl rfl (fun hx => ?_) (fun hx => ?_) <;> simp only [hx])))
              all_goals refine bl_nil ?_
              all_goals intro w8 h8
              all_goals obtain ⟨hc_w8, hf_w8, hz_w8⟩ := bcell h8; (repeat (first | rw [World.size_alloc] at hz_w8 | rw [World.size_drew] at hz_w8 | rw [World.size_setCell] at hz_w8)); (try (have : w.heap.size < w8.heap.size := (by omega))); (try (have : w.heap.size + 1 < w8.heap.size := (by omega))); (try (have : w.heap.size + 1 + 1 < w8.heap.size := (by omega))); (try (have : w.heap.size + 1 + 1 + 1 < w8.heap.size := (by omega))); (try (have : w.heap.size + 1 + 1 + 1 + 1 < w8.heap.size := (by omega)))
              all_goals go_wp2_with fail
              all_goals go_roundw
              all_goals first
                | exact ⟨q + 1, _, by omega, rfl, by go_num, Lib.hid (by have := Hj.out; simp_all), by (repeat' (first | exact Ext.refl _ | assumption | apply Ext.alloc | apply Ext.drew | refine Ext.set ?_ (by dsimp only; omega) _ | refine Ext.trans ?_ (by assumption)))⟩
                | (simp [intOf]; omega)
            · obtain ⟨⟨zxl, zxh⟩, ⟨zyl, zyh⟩, ⟨zul, zuh⟩, zvl, zvh⟩ := y
              dsimp only at hy0 hy1 hy2 hy3 hy4 hy5 hy6 hy7
              have Hj2 : Hid ((true || (r.drop (q + 1)).any IN) = r.any IN) := by have := Hj.out; rwa [Bool.true_or] at this ⊢
              clear Hj HC
              go_wp2_with fail
              refine (HF.out _).mono ?_
              rintro e w7 ⟨rfl, h7⟩
              obtain ⟨hc_w7, hf_w7, hz_w7⟩ := bcell h7; (repeat (first | rw [World.size_alloc] at hz_w7 | rw [World.size_drew] at hz_w7 | rw [World.size_setCell] at hz_w7)); (try (have : w.heap.size < w7.heap.size := (by omega))); (try (have : w.heap.size + 1 < w7.heap.size := (by omega))); (try (have : w.heap.size + 1 + 1 < w7.heap.size := (by omega))); (try (have : w.heap.size + 1 + 1 + 1 < w7.heap.size := (by omega))); (try (have : w.heap.size + 1 + 1 + 1 + 1 < w7.heap.size := (by omega)))
              go_wp2_with fail
              have p1 : b < w7.heap.size := by omega
              have p2 : b' < w7.heap.size := by omega
              refine wp_region_text (by kernel_rfl) (by kernel_rfl) ?_
              (repeat' (first | (refine bl_off (by rfl) ?_; simp only [Act.put, List.setIfInBounds_toArray, List.set_cons_zero, List.set_cons_succ]) | (apply bl_op; rfl; (intro w1 h1; obtain ⟨hc, hf, hz⟩ := bcell h1; go_simp; (try go_bits); (first | exact ⟨rfl, Ext.refl _⟩ | (apply gives_call; fail) | (go_invoke; go_simp; apply gives_call; fail))); simp only [Act.put, List.setIfInBounds_toArray, List.set_cons_zero, List.set_cons_succ]) | (refine bl_split rfl rfl (fun hx => ?_) (fun hx => ?_) <;> simp only [hx])))
              refine bl_nil ?_
              intro w8 h8
              obtain ⟨hc_w8, hf_w8, hz_w8⟩ := bcell h8; (repeat (first | rw [World.size_alloc] at hz_w8 | rw [World.size_drew] at hz_w8 | rw [World.size_setCell] at hz_w8)); (try (have : w.heap.size < w8.heap.size := (by omega))); (try (have : w.heap.size + 1 < w8.heap.size := (by omega))); (try (have : w.heap.size + 1 + 1 < w8.heap.size := (by omega))); (try (have : w.heap.size + 1 + 1 + 1 < w8.heap.size := (by omega))); (try (have : w.heap.size + 1 + 1 + 1 + 1 < w8.heap.size := (by omega)))
              go_wp2_with fail
              go_roundw
              case rel => exact ⟨q + 1, true, by omega, rfl, by go_num, Hj2, by (repeat' (first | exact Ext.refl _ | assumption | apply Ext.alloc | apply Ext.drew | refine Ext.set ?_ (by dsimp only; omega) _ | refine Ext.trans ?_ (by assumption)))⟩
              case measure => simp [intOf]; omega
          · have hqm' : q = m := by omega
            have hany : r.any IN = v := by
              have := HJ.out
              rw [hqm', hrn.out, List.drop_length] at this
              simpa using this.symm
            clear HJ
            cases v
            · have Hn : Hid (withinS l r = false) := by have := Hi'.out; rw [hany, Bool.false_and] at this; exact this.symm
              clear hany
              go_wp2_with fail
              go_ret
              exact ⟨ret_b Hn.out.symm, by (repeat' (first | exact Ext.refl _ | assumption | apply Ext.alloc | apply Ext.drew | refine Ext.set ?_ (by dsimp only; omega) _ | refine Ext.trans ?_ (by assumption)))⟩
            · have Hn : Hid (withinS (l.drop (k + 1)) r = withinS l r) := by have := Hi'.out; rwa [hany, Bool.true_and] at this
              clear hany
              go_wp2_with fail
              go_roundw
              case rel => exact ⟨k + 1, by omega, by go_num, Hn, by (repeat' (first | exact Ext.refl _ | assumption | apply Ext.alloc | apply Ext.drew | refine Ext.set ?_ (by dsimp only; omega) _ | refine Ext.trans ?_ (by assumption)))⟩
              case measure => simp [intOf]; omega
    · have hkn : k = n := by omega
      have hi := HI.out
      rw [hkn, hln.out, List.drop_length] at hi
      have Hi := Lib.hid hi
      clear hi
      go_wp2_with fail
      go_ret
      exact ⟨ret_b Hi.out, by (repeat' (first | exact Ext.refl _ | assumption | apply Ext.alloc | apply Ext.drew | refine Ext.set ?_ (by dsimp only; omega) _ | refine Ext.trans ?_ (by assumption)))⟩
end Go.Proofs.YtfniicgoeljmdaaGreat
