/- The cells of a box: the reference. DRAFT: does not build yet. -/
import Derived.Test.YtfniicgoeljmdaaGreatCellsWalk
import Derived.Test.YtfniicgoeljmdaaGreatRefSplitAll
import Derived.Test.YtfniicgoeljmdaaGreatRelTail
namespace Go.Proofs.YtfniicgoeljmdaaGreat
open Go.RowKit

theorem sl_drop {α : Type} {sz : Nat} {R : α → Nat → Nat → Prop} {b off n : Nat} {l : List α} (h : SlR sz R (some ⟨b, off, none⟩) n l) (k : Nat) : SlR sz R (some ⟨b, off + k * sz, none⟩) (n - k) (l.drop k) := by
  have h1 := h.len
  have h2 := h.le
  refine ⟨by rw [List.length_drop, h1], by omega, ?_⟩
  rcases Nat.lt_or_ge k n with hk | hk
  · obtain ⟨b', off', hA, hc⟩ := h.at_ (by omega)
    injection hA with hA
    injection hA with e1 e2 e3
    subst e1 e2
    refine .inr ⟨b, off + k * sz, rfl, fun j hj => ?_⟩
    rw [List.length_drop] at hj
    have := hc (k + j) (by omega)
    rw [List.getElem_drop]
    rw [show off + k * sz + j * sz = off + (k + j) * sz by rw [Nat.add_mul]; omega]
    exact this
  · exact .inl (by omega)
theorem sl_take {α : Type} {sz : Nat} {R : α → Nat → Nat → Prop} {b off n : Nat} {l : List α} (h : SlR sz R (some ⟨b, off, none⟩) n l) (k : Nat) (hk : k < n) : SlR sz R (some ⟨b, off, none⟩) k (l.take k) := by
  have h1 := h.len
  have h2 := h.le
  refine ⟨by rw [List.length_take]; omega, by omega, ?_⟩
  obtain ⟨b', off', hA, hc⟩ := h.at_ (by omega)
  injection hA with hA
  injection hA with e1 e2 e3
  subst e1 e2
  refine .inr ⟨b, off, rfl, fun j hj => ?_⟩
  rw [List.length_take] at hj
  rw [List.getElem_take]
  exact hc j (by omega)
theorem blk_ne3 {w : World} {b b' : Nat} {t : TypeId} {cs cs' : Array Value} (h : Blk w b t cs) (h' : Blk w b' t cs') (hs : cs.size ≠ cs'.size) : b ≠ b' := by
  rintro rfl
  have := h.symm.trans h'
  simp only [Option.some.injEq, Obj.cells.injEq] at this
  exact hs (by rw [this.1])
theorem best_all : ∀ (r : List Bx) (i : Nat) (a : Nat × Int), a.2 ≤ (bestL r i a).2 ∧ (∀ x ∈ r, (widB x).2 ≤ (bestL r i a).2) ∧ ((bestL r i a).2 = a.2 → bestL r i a = a)
  | [], _, a => ⟨Int.le_refl _, (by intro x hx; cases hx), fun _ => rfl⟩
  | b :: r, i, a => by
    rw [bestL]
    by_cases h : a.2 < (widB b).2
    · rw [if_pos h]
      obtain ⟨h1, h2, h3⟩ := best_all r (i + 1) (i, (widB b).2)
      dsimp only at h1 h2 h3
      refine ⟨by omega, fun x hx => ?_, fun e => by omega⟩
      rcases List.mem_cons.1 hx with rfl | hx
      · exact h1
      · exact h2 x hx
    · rw [if_neg h]
      obtain ⟨h1, h2, h3⟩ := best_all r (i + 1) a
      refine ⟨h1, fun x hx => ?_, h3⟩
      rcases List.mem_cons.1 hx with rfl | hx
      · omega
      · exact h2 x hx
theorem best_zero {l : List Bx} {P : Nat} (h : bestL l 0 (0, 0) = (P, 0)) : P = 0 ∧ ∀ x ∈ l, (widB x).2 ≤ 0 := by
  obtain ⟨_, h2, h3⟩ := best_all l 0 (0, 0)
  rw [h] at h2 h3
  have h4 := h3 rfl
  injection h4 with h4 _
  exact ⟨h4, h2⟩
theorem own_not_empty {w : World} {base g : Nat} {e t : TypeId} {sz n : Nat} {v : Value} {xs : List Value} (h : w.ownsRow base e sz v n xs) (hb : Blk w g t #[]) (hn : 0 < n) (hs : 0 < sz) : v.ownBlock ≠ some g := by
  rcases h.2 with ⟨_, h0⟩ | ⟨g', cap, cur, rfl, _, hc, h3, _, h5, _⟩
  · omega
  · intro e
    simp only [Value.ownBlock, Option.some.injEq] at e
    subst e
    have h6 := hb.symm.trans hc
    simp only [Option.some.injEq, Obj.cells.injEq] at h6
    rw [← h6.1] at h5
    have : 0 < cap * sz := Nat.mul_pos (by omega) hs
    simp at h5
    omega
set_option maxRecDepth 20000 in
set_option maxHeartbeats 8000000 in
theorem rCells_yes (b : Bx) (N : Nat) (w : World) (hv : bxErr b = 0) (hN1 : 1 ≤ N) (hN2 : N ≤ 512) :
    Calls Tryz.prog 47 #[bxV b, .int .i64 (N : Int)] w fun e w' => ∃ A c, e = .returned (.tuple #[.slice A (cellsB b N).length c, .int .i64 0]) ∧ Bxs w' A (cellsB b N).length (cellsB b N) ∧ (cellsB b N).length ≤ c ∧ Ext w w' := by
  have HC := Lib.hid fun W => rCheckBox_c b W
  rw [hv] at HC
  obtain ⟨T, hT⟩ : ∃ T, cellsB b N = T := ⟨_, rfl⟩
  rw [hT]
  have H0 : Hid (cellsM (N - [b].length) [b] = T) := hT
  have HV : Hid (∀ x ∈ [b], bxErr x = 0) := by intro x hx; simp at hx; rw [hx]; exact hv
  have HB1 := Lib.hid fun (W : World) (g : Nat) (t : TypeId) (hB : Blk W g t #[.int .i64 b.x.lo, .int .i64 b.x.hi, .int .i64 b.y.lo, .int .i64 b.y.hi, .int .i64 b.u.lo, .int .i64 b.u.hi, .int .i64 b.v.lo, .int .i64 b.v.hi]) => bx_slice (t := t) [b] hB (by show (1 : Nat) ≤ _; omega)
  obtain ⟨LB, hLB⟩ : ∃ L, [b] = L := ⟨_, rfl⟩
  have hLl : LB.length = 1 := by rw [← hLB]; rfl
  rw [hLB] at H0 HV HB1
  rw [hLl] at HB1
  clear hT hLB hv
  obtain ⟨⟨xl, xh⟩, ⟨yl, yh⟩, ⟨ul, uh⟩, vl, vh⟩ := b
  dsimp only [bxV] at HC HB1 ⊢
  go_enter Tryz.func47, Tryz.ntmps47
  go_wp2_with fail
  refine (HC.out _).mono ?_
  rintro e w1 ⟨rfl, h1⟩
  have B2 : Blk w1 w.heap.size 38 #[.int .i64 xl, .int .i64 xh, .int .i64 yl, .int .i64 yh, .int .i64 ul, .int .i64 uh, .int .i64 vl, .int .i64 vh] := (Blk.new w _ _).ext h1
  have E : Ext w w1 := by (repeat' (first | exact Ext.refl _ | assumption | apply Ext.alloc | apply Ext.drew | refine Ext.set ?_ (by dsimp only; omega) _ | refine Ext.trans ?_ (by assumption)))
  clear h1
  have c_B2 := B2.cell; have f_B2 := B2.frozen; have l_B2 := B2.lt
  go_wp2_with fail
  refine name_world _ ?_
  intro W3 hW3
  obtain ⟨g3, hg3⟩ : ∃ b, b = w1.heap.size := ⟨_, rfl⟩
  have B3 : Blk W3 g3 38 #[.int .i64 xl, .int .i64 xh, .int .i64 yl, .int .i64 yh, .int .i64 ul, .int .i64 uh, .int .i64 vl, .int .i64 vh] := by rw [hW3]; exact Blk.newAt hg3
  have E3 : Ext w W3 := by rw [hW3]; (repeat' (first | exact Ext.refl _ | assumption | apply Ext.alloc | apply Ext.drew | refine Ext.set ?_ (by dsimp only; omega) _ | refine Ext.trans ?_ (by assumption)))
  have hS := HB1.out W3 g3 _ B3
  rw [← hg3]
  clear c_B2 f_B2 l_B2
  clear hW3 hg3 B2 B3 E
  go_loopw [7] (fun o wr => ∃ (A : Option Addr) (l : List Bx) (c : Nat), o = .slice A l.length c ∧ Hid (Bxs wr A l.length l) ∧ l.length ≤ c ∧ 1 ≤ l.length ∧ l.length ≤ N ∧ Hid (∀ b ∈ l, bxErr b = 0) ∧ Hid (cellsM (N - l.length) l = T) ∧ Ext w wr) (fun o _ => N - sliceLen o)
  case atStart => exact ⟨_, LB, 1, by rw [hLl], by rw [hLl]; exact hS, by omega, by omega, by omega, HV, H0, E3⟩
  case round =>
    clear hS E3
    obtain ⟨A, l, c, rfl, HL, hc, hl1, hl2, HVl, HM, hb⟩ := hrel
    have hls := HL.out.le
    obtain ⟨m, hm⟩ : ∃ m, m = l.length := ⟨_, rfl⟩
    have Hm := Lib.hid hm
    rw [← hm] at HL hc hl1 hl2 hls
    rw [← hm]
    rw [← hm] at HM
    clear hm
    by_cases hlt : m < N
    · obtain ⟨wo, rfl⟩ : ∃ wo : World, wo = wr := ⟨_, rfl⟩
      go_wp2_with fail
      go_loopw [8, 9, 10] (fun p q i wr => ∃ (j P : Nat) (M : Int), j ≤ m ∧ i = .int .i64 j ∧ p = .int .i64 P ∧ q = .int .i64 M ∧ Hid (bestL (l.drop j) j (P, M) = bestL l 0 (0, 0)) ∧ Ext wo wr) (fun _ _ i _ => m - (intOf i).toNat)
      case atStart => exact ⟨0, 0, 0, Nat.zero_le _, rfl, rfl, rfl, rfl, Ext.refl _⟩
      case round =>
        obtain ⟨j, P, M, hj, rfl, rfl, rfl, HJ, hb2⟩ := hrel
        by_cases hjm : j < m
        · obtain ⟨b', off, x, rfl, HD, hxm, hx⟩ := HL.out.one hjm
          obtain ⟨hx0, hx1, hx2, hx3, hx4, hx5, hx6, hx7⟩ := bxAt.ext hb2 hx
          have hbl : b' < wr.heap.size := World.block_lt_of_cell? wr _ hx0
          have HWx := Lib.hid fun W => rWidest_c x W (HVl.out x hxm)
          have hi := HJ.out
          rw [HD.out, bestL] at hi
          dsimp only at hi
          generalize (widB x).2 = V at *
          generalize (widB x).1 = U at *
          clear hx hxm HJ HD
          obtain ⟨⟨zxl, zxh⟩, ⟨zyl, zyh⟩, ⟨zul, zuh⟩, zvl, zvh⟩ := x
          dsimp only at hx0 hx1 hx2 hx3 hx4 hx5 hx6 hx7 HWx
          by_cases c1 : M < V
          · rw [if_pos c1] at hi
            have Hi := Lib.hid hi
            clear hi
            go_wp2_with fail
            refine (HWx.out _).mono ?_
            rintro e w7 ⟨rfl, h7⟩
            obtain ⟨hc_w7, hf_w7, hz_w7⟩ := bcell h7; (repeat (first | rw [World.size_alloc] at hz_w7 | rw [World.size_drew] at hz_w7 | rw [World.size_setCell] at hz_w7)); (try (have : w.heap.size < w7.heap.size := (by omega))); (try (have : w.heap.size + 1 < w7.heap.size := (by omega))); (try (have : w.heap.size + 1 + 1 < w7.heap.size := (by omega))); (try (have : w.heap.size + 1 + 1 + 1 < w7.heap.size := (by omega))); (try (have : w.heap.size + 1 + 1 + 1 + 1 < w7.heap.size := (by omega)))
            go_wp2_with fail
            go_roundw
            case rel => exact ⟨j + 1, j, V, by omega, by go_num, rfl, rfl, Hi, by (repeat' (first | exact Ext.refl _ | assumption | apply Ext.alloc | apply Ext.drew | refine Ext.set ?_ (by dsimp only; omega) _ | refine Ext.trans ?_ (by assumption)))⟩
            case measure => simp [intOf]; omega
          · rw [if_neg c1] at hi
            have Hi := Lib.hid hi
            clear hi
            go_wp2_with fail
            refine (HWx.out _).mono ?_
            rintro e w7 ⟨rfl, h7⟩
            obtain ⟨hc_w7, hf_w7, hz_w7⟩ := bcell h7; (repeat (first | rw [World.size_alloc] at hz_w7 | rw [World.size_drew] at hz_w7 | rw [World.size_setCell] at hz_w7)); (try (have : w.heap.size < w7.heap.size := (by omega))); (try (have : w.heap.size + 1 < w7.heap.size := (by omega))); (try (have : w.heap.size + 1 + 1 < w7.heap.size := (by omega))); (try (have : w.heap.size + 1 + 1 + 1 < w7.heap.size := (by omega))); (try (have : w.heap.size + 1 + 1 + 1 + 1 < w7.heap.size := (by omega)))
            go_wp2_with fail
            go_roundw
            case rel => exact ⟨j + 1, P, M, by omega, by go_num, rfl, rfl, Hi, by (repeat' (first | exact Ext.refl _ | assumption | apply Ext.alloc | apply Ext.drew | refine Ext.set ?_ (by dsimp only; omega) _ | refine Ext.trans ?_ (by assumption)))⟩
            case measure => simp [intOf]; omega
        · have hjm' : j = m := by omega
          have hbest : (P, M) = bestL l 0 (0, 0) := by
            have := HJ.out
            rw [hjm', Hm.out, List.drop_length] at this
            exact this
          clear HJ
          by_cases hM0 : M = 0
          · subst hM0
            have hTl : l = T := by rw [← HM.out, cells_stop (by rw [← hbest])]
            subst hTl
            have HE := Lib.hid (Hm.out)
            obtain ⟨z1, z2⟩ := best_zero hbest.symm
            subst z1
            have hPm : 0 < m := by omega
            obtain ⟨b', off, x', rfl, HD, hxm, hxa⟩ := HL.out.one hPm
            obtain ⟨hx0, hx1, hx2, hx3, hx4, hx5, hx6, hx7⟩ := bxAt.ext hb2 hxa
            have hbl : b' < wr.heap.size := World.block_lt_of_cell? wr _ hx0
            have HK := Lib.hid fun W => rSplit_c x' W
            have hsv : splitV x' = .tuple #[bxV zeroB, bxV zeroB, .bool false] := by
              unfold splitV
              have h1 := wid_lt x' (HVl.out x' hxm)
              have h2 := z2 x' hxm
              rw [if_neg (by unfold splitOk; rw [show (widB x').2 = 0 by omega]; simp)]
            rw [hsv] at HK
            clear hsv z2 hbest hxa hxm HD
            obtain ⟨⟨zxl, zxh⟩, ⟨zyl, zyh⟩, ⟨zul, zuh⟩, zvl, zvh⟩ := x'
            dsimp only [bxV, zeroB] at hx0 hx1 hx2 hx3 hx4 hx5 hx6 hx7 HK
            simp only [Nat.zero_mul, Nat.add_zero] at hx0 hx1 hx2 hx3 hx4 hx5 hx6 hx7
            go_wp2_with fail
            refine (HK.out _).mono ?_
            rintro e w7 ⟨rfl, h7⟩
            have E7 : Ext wo w7 := hb2.trans h7
            clear h7 hx0 hx1 hx2 hx3 hx4 hx5 hx6 hx7 hbl
            go_wp2_with fail
            (try simp only [Exit.inBlock, Exit.then]); apply bodyPost_ret; (focus (simp only [results, Tryz.results47]; go_simp; try rfl)); rfl
            exact ⟨_, c, ret_v (by rw [← HE.out]), by rw [← HE.out]; exact Bxs.ext (by (repeat' (first | exact Ext.refl _ | assumption | apply Ext.alloc | apply Ext.drew | refine Ext.set ?_ (by dsimp only; omega) _ | refine Ext.trans ?_ (by assumption)))) HL.out, by rw [← HE.out]; exact hc, by (repeat' (first | exact Ext.refl _ | assumption | apply Ext.alloc | apply Ext.drew | refine Ext.set ?_ (by dsimp only; omega) _ | refine Ext.trans ?_ (by assumption)))⟩
          · obtain ⟨x, hx, hxw⟩ : ∃ x, l[P]? = some x ∧ (widB x).2 = M := by
              rcases best_spec l l 0 (0, 0) (by simp) (.inl rfl) with h | h
              · rw [← hbest] at h; exact absurd h hM0
              · rw [← hbest] at h; exact h
            have hPm : P < m := by rw [Hm.out]; exact (List.getElem?_eq_some_iff.1 hx).1
            obtain ⟨b', off, x', rfl, HD, hxm, hxa⟩ := HL.out.one hPm
            have hxx : x' = x := by
              have h1 := congrArg List.head? HD.out
              rw [List.head?_drop, hx] at h1
              injection h1 with h1
              exact h1.symm
            subst hxx
            obtain ⟨hx0, hx1, hx2, hx3, hx4, hx5, hx6, hx7⟩ := bxAt.ext hb2 hxa
            have hbl : b' < wr.heap.size := World.block_lt_of_cell? wr _ hx0
            have HK := Lib.hid fun W => rSplit_c x' W
            have hsv : splitV x' = .tuple #[bxV (partL x'), bxV (partR x'), .bool true] := by
              unfold splitV
              rw [if_pos (by unfold splitOk; rw [HVl.out x' hxm, hxw]; simp [hM0])]
            rw [hsv] at HK
            clear hsv
            have hgo : cellsM (N - (m + 1)) (l.take P ++ partL x' :: partR x' :: l.drop (P + 1)) = T := by
              have h1 := HM.out
              rw [show N - m = N - (m + 1) + 1 by omega, cells_go (p := P) (x := x') (by rw [← hbest, hxw]) (by rw [hxw]; exact hM0) hx] at h1
              exact h1
            have hlen : (l.take P ++ partL x' :: partR x' :: l.drop (P + 1)).length = m + 1 := by
              have := Hm.out
              simp; omega
            have hval : ∀ b ∈ (l.take P ++ partL x' :: partR x' :: l.drop (P + 1)), bxErr b = 0 := by
              obtain ⟨p1, p2⟩ := part_ok (HVl.out x' hxm) (by rw [hxw]; exact hM0)
              intro b hbm
              rcases List.mem_append.1 hbm with h | h
              · exact HVl.out b (List.mem_of_mem_take h)
              · rcases List.mem_cons.1 h with rfl | h
                · exact p1
                · rcases List.mem_cons.1 h with rfl | h
                  · exact p2
                  · exact HVl.out b (List.mem_of_mem_drop h)
            generalize partL x' = L at *
            generalize partR x' = R at *
            obtain ⟨l', hl'⟩ : ∃ l', l' = l.take P ++ L :: R :: l.drop (P + 1) := ⟨_, rfl⟩
            rw [← hl'] at hgo hlen hval
            have Hl' := Lib.hid hl'
            have Hgo := Lib.hid hgo
            have Hlen := Lib.hid hlen
            have Hval := Lib.hid hval
            clear hgo hlen hval hl' hx hxw hxa hxm HD hbest
            obtain ⟨⟨zxl, zxh⟩, ⟨zyl, zyh⟩, ⟨zul, zuh⟩, zvl, zvh⟩ := x'
            obtain ⟨⟨lxl, lxh⟩, ⟨lyl, lyh⟩, ⟨lul, luh⟩, lvl, lvh⟩ := L
            obtain ⟨⟨rxl, rxh⟩, ⟨ryl, ryh⟩, ⟨rul, ruh⟩, rvl, rvh⟩ := R
            dsimp only [bxV] at hx0 hx1 hx2 hx3 hx4 hx5 hx6 hx7 HK
            go_wp2_with fail
            refine (HK.out _).mono ?_
            rintro e w7 ⟨rfl, h7⟩
            have E7 : Ext wo w7 := hb2.trans h7
            clear h7 hx0 hx1 hx2 hx3 hx4 hx5 hx6 hx7 hbl
            have q1 : (0 : Int) ≤ (P : Int) + 1 := by omega
            have q2 : (P : Int) + 1 ≤ (m : Int) := by omega
            obtain ⟨ic, hic, hc0, hc1, hc2⟩ := info_parts info_box
            have HSd : Hid (∀ W, Ext wo W → Bxs W (some ⟨b', off + (P + 1) * 8, none⟩) (m - (P + 1)) (l.drop (P + 1))) := fun W hW => sl_drop (Bxs.ext hW HL.out) (P + 1)
            have hdl : Hid ((l.drop (P + 1)).length = m - (P + 1)) := by unfold Hid; rw [List.length_drop, ← Hm.out]
            have z7 := E7.size
            have HPl : Hid ((l.take P).length = P) := by unfold Hid; rw [List.length_take, ← Hm.out]; omega
            have HSt : Hid (∀ W, Ext wo W → Bxs W (some ⟨b', off, none⟩) P (l.take P)) := fun W hW => sl_take (Bxs.ext hW HL.out) P hPm
            have q3 : P ≤ c := by omega
            have q4 : ¬ c = P := by omega
            have hAd : ∃ (AD : Addr) (r : Nat), Hid (∀ W, Ext wo W → Bxs W (some AD) r (l.drop (P + 1))) ∧ Hid ((l.drop (P + 1)).length = r) ∧ ((P + 1 = c ∧ AD = ⟨b', off, none⟩ ∧ r = 0) ∨ (¬ c = P + 1 ∧ AD = ⟨b', off + (P + 1) * 8, none⟩ ∧ r = m - (P + 1))) := by
              by_cases hcp : c = P + 1
              · have h0 : m - (P + 1) = 0 := by omega
                have h1 : l.drop (P + 1) = [] := List.eq_nil_of_length_eq_zero (by rw [hdl.out]; exact h0)
                exact ⟨_, 0, Lib.hid fun W _ => (by rw [h1]; exact SlR.nil _ _ _), Lib.hid (by rw [h1]; rfl), .inl ⟨hcp.symm, rfl, rfl⟩⟩
              · exact ⟨_, _, HSd, hdl, .inr ⟨hcp, rfl, rfl⟩⟩
            clear HSd hdl
            obtain ⟨AD, r, HSd, hdl, ⟨hcp, hAD, rfl⟩ | ⟨hcp, hAD, rfl⟩⟩ := hAd
            · rw [hAD] at HSd
              clear hAD
              have hmP : m + 1 = P + 2 + (0) := by omega
              go_wp2_with (at_builtin; go_loud (refine wpList_append_sl rfl (.tmp 64) (.tmp 68) 39 rfl (w7.heap.size + 1 + 1) 38 ic _ 8 64 Tryz.underlying39 hic hc0 hc1 hc2 rfl (by decide) _ 0 [] rfl (own_made (by simp) (by omega)) _ (0) _ ((l.drop (P + 1)).flatMap bxC) rfl (by rw [flat_len box_len, hdl.out]) (sl_news box_len (box_news _) (HSd.out _ (by (repeat' (first | exact Ext.refl _ | assumption | apply Ext.alloc | apply Ext.drew | refine Ext.set ?_ (by dsimp only; omega) _ | refine Ext.trans ?_ (by assumption)))))) (flat_one box_one _) (by unfold maxLen; omega) (by omega) (by simp only [World.size_alloc]; omega) ?_))
              intro v9 w9 ho9 hg9 hn9
              have e9 := grown_ext (w0 := (w7.alloc (.cells #[.int .i64 lxl, .int .i64 lxh, .int .i64 lyl, .int .i64 lyh, .int .i64 lul, .int .i64 luh, .int .i64 lvl, .int .i64 lvh] 38)).alloc (.cells #[.int .i64 rxl, .int .i64 rxh, .int .i64 ryl, .int .i64 ryh, .int .i64 rul, .int .i64 ruh, .int .i64 rvl, .int .i64 rvh] 38)) (Ext.alloc0 _ _) hg9 (by intro j hj; simp [Value.ownBlock] at hj; simp; omega)
              have B13 : Blk w9 w7.heap.size 38 #[.int .i64 lxl, .int .i64 lxh, .int .i64 lyl, .int .i64 lyh, .int .i64 lul, .int .i64 luh, .int .i64 lvl, .int .i64 lvh] := ((Blk.new _ _ _).alloc _).ext e9
              have B14 : Blk w9 (w7.heap.size + 1) 38 #[.int .i64 rxl, .int .i64 rxh, .int .i64 ryl, .int .i64 ryh, .int .i64 rul, .int .i64 ruh, .int .i64 rvl, .int .i64 rvh] := (Blk.newAt (by simp)).ext e9
              have E9 : Ext wo w9 := Ext.trans (by (repeat' (first | exact Ext.refl _ | assumption | apply Ext.alloc | apply Ext.drew | refine Ext.set ?_ (by dsimp only; omega) _ | refine Ext.trans ?_ (by assumption)))) e9
              have ho9b : OwnBxs (w7.heap.size + 1 + 1) w9 v9 (l.drop (P + 1)) := by
                unfold OwnBxs
                rw [hdl.out]
                have h := ho9
                (try rw [← hcp] at h)
                first | exact h | (simp only [Nat.zero_add, List.nil_append] at h; exact h) | (simp at h ⊢; exact h)
              obtain ⟨A9, c9, rfl, hs9, hcap9⟩ := ho9b.cap
              rw [hdl.out]
              have HS9 : Hid (Bxs w9 A9 (0) (l.drop (P + 1))) := by
                have h := hs9
                rw [hdl.out] at h
                exact h
              clear ho9 hg9 hn9 e9 ho9b hs9 hcap9
              have c_B13 := B13.cell; have f_B13 := B13.frozen; have l_B13 := B13.lt; have c_B14 := B14.cell; have f_B14 := B14.frozen; have l_B14 := B14.lt
              go_wp2_with fail
              refine wp_region_rel [1, 2, 3, 5, 6, 9] [⟨0, [], none⟩, ⟨4, [0], some ([0], [7])⟩, ⟨7, [], none⟩, ⟨8, [4, 7], some ([0, 4, 7], [])⟩, ⟨10, [8], some ([4, 7, 8], [0])⟩, ⟨11, [10], none⟩]
                [(⟨0, [], none⟩, fun _ v w => ∃ b, v = .slice (some ⟨b, 0, none⟩) 0 0 ∧ Blk w b 38 #[] ∧ w9.heap.size ≤ b),
                 (⟨4, [0], some ([0], [7])⟩, fun _ v w => w.ownsRow w9.heap.size 38 8 v P ((l.take P).flatMap bxC)),
                 (⟨7, [], none⟩, fun _ v w => ∃ b, v = .slice (some ⟨b, 0, none⟩) 2 2 ∧ Blk w b 38 #[.int .i64 lxl, .int .i64 lxh, .int .i64 lyl, .int .i64 lyh, .int .i64 lul, .int .i64 luh, .int .i64 lvl, .int .i64 lvh, .int .i64 rxl, .int .i64 rxh, .int .i64 ryl, .int .i64 ryh, .int .i64 rul, .int .i64 ruh, .int .i64 rvl, .int .i64 rvh] ∧ w9.heap.size ≤ b),
                 (⟨8, [4, 7], some ([0, 4, 7], [])⟩, fun _ v w => w.ownsRow w9.heap.size 38 8 v (P + 2) ((l.take P).flatMap bxC ++ [.int .i64 lxl, .int .i64 lxh, .int .i64 lyl, .int .i64 lyh, .int .i64 lul, .int .i64 luh, .int .i64 lvl, .int .i64 lvh, .int .i64 rxl, .int .i64 rxh, .int .i64 ryl, .int .i64 ryh, .int .i64 rul, .int .i64 ruh, .int .i64 rvl, .int .i64 rvh])),
                 (⟨10, [8], some ([4, 7, 8], [0])⟩, fun _ v w => OwnBxs w9.heap.size w v l'),
                 (⟨11, [10], none⟩, fun _ v w => OwnBxs w9.heap.size w v l')]
                (Ext w9) (Ext w9) (Stable.ext _) (fun _ h => h) (Ext.drew (Ext.refl _)) (by kernel_rfl) rfl (by kernel_rfl) ?_
              simp only [pick, List.drop_succ_cons, List.drop_zero]
              repeat' (first | (refine bl_off (by rfl) ?_; simp only [Act.put, List.setIfInBounds_toArray, List.set_cons_zero, List.set_cons_succ]) | (apply bl_op; rfl; (intro w1 h1; obtain ⟨hc, hf, hz⟩ := bcell h1; go_simp; (try go_bits); (first | exact ⟨rfl, Ext.refl _⟩)); simp only [Act.put, List.setIfInBounds_toArray, List.set_cons_zero, List.set_cons_succ]) | (refine bl_split rfl rfl (fun hx => ?_) (fun hx => ?_) <;> simp only [hx]))
              refine bl_nil ?_
              clear c_B13 f_B13 l_B13 c_B14 f_B14 l_B14
              clear hcp
              simp only [obF, finF, useF, useEq, spoilF, keepF, getG, Nat.reduceEqDiff, reduceIte, putP, pick1, List.drop_succ_cons, List.drop_zero, List.map_cons, List.map_nil, spoils, List.all_cons, List.all_nil, List.contains_cons, List.contains_nil, Nat.reduceBEq, Bool.or_false, Bool.or_true, Bool.not_true, Bool.not_false, Bool.and_true, Bool.and_false]
              refine ⟨⟨?_, ?_, ?_, ?_, ?_, ?_, trivial⟩, ?_⟩
              · exact ⟨fun val v w w' ⟨b, h1, h2, h3⟩ e => ⟨b, h1, h2.ext e, h3⟩, fun _ _ _ _ _ h => h, fun val w hw _ => runs_to (w1 := w.alloc (.cells #[] 38)) (by go_simp) ⟨⟨_, rfl, Blk.new _ _ _, hw.size⟩, Ext.alloc0 _ _⟩⟩
              · refine ⟨fun val v w w' h e => own_ext_keep h e, fun _ _ _ _ _ h => h, fun val w hw hu => ?_⟩
                obtain ⟨⟨b, h1, h2, h3⟩, _⟩ := hu
                rw [h1]
                simp only [Act.put, List.setIfInBounds_toArray, List.set_cons_zero, List.set_cons_succ]
                refine runs_append (.tmp 70) (.tmp 73) 39 rfl w9.heap.size 38 ic _ 8 64 Tryz.underlying39 hic hc0 hc1 hc2 rfl (by decide) _ 0 [] rfl (own_empty h2 h3) _ P _ ((l.take P).flatMap bxC) rfl (by rw [flat_len box_len, HPl.out]) (sl_news box_len (box_news _) (HSt.out _ (E9.trans hw))) (flat_one box_one _) (by unfold maxLen; omega) (by omega) hw.size ?_
                intro v' w' ho hg _
                exact ⟨by simpa using ho, own_ext (sz := 8) hw (own_empty h2 h3) hg (Nat.le_refl _), fun val u ⟨b9, k1, k2, k3⟩ => ⟨b9, k1, k2.grown hg (fun e => blk_ne3 h2 k2 (by simp) (Option.some.inj e)), k3⟩, trivial⟩
              · exact ⟨fun val v w w' ⟨b, h1, h2, h3⟩ e => ⟨b, h1, h2.ext e, h3⟩, fun _ _ _ _ _ h => h, fun val w hw _ => runs_to (w1 := w.alloc (.cells #[.int .i64 lxl, .int .i64 lxh, .int .i64 lyl, .int .i64 lyh, .int .i64 lul, .int .i64 luh, .int .i64 lvl, .int .i64 lvh, .int .i64 rxl, .int .i64 rxh, .int .i64 ryl, .int .i64 ryh, .int .i64 rul, .int .i64 ruh, .int .i64 rvl, .int .i64 rvh] 38)) (by go_simp) ⟨⟨_, rfl, Blk.new _ _ _, hw.size⟩, Ext.alloc0 _ _⟩⟩
              · refine ⟨fun val v w w' h e => own_ext_keep h e, fun _ _ _ _ _ h => h, fun val w hw hu => ?_⟩
                obtain ⟨h5, ⟨b, h1, h2, h3⟩, _⟩ := hu
                rw [h1]
                simp only [Act.put, List.setIfInBounds_toArray, List.set_cons_zero, List.set_cons_succ]
                refine runs_append (.tmp 74) (.tmp 77) 39 rfl w9.heap.size 38 ic _ 8 64 Tryz.underlying39 hic hc0 hc1 hc2 rfl (by decide) (val 4) P ((l.take P).flatMap bxC) rfl h5 _ 2 2 [.int .i64 lxl, .int .i64 lxh, .int .i64 lyl, .int .i64 lyh, .int .i64 lul, .int .i64 luh, .int .i64 lvl, .int .i64 lvh, .int .i64 rxl, .int .i64 rxh, .int .i64 ryl, .int .i64 ryh, .int .i64 rul, .int .i64 ruh, .int .i64 rvl, .int .i64 rvh] rfl rfl (.inr ⟨_, rfl, fun q u hq => by rw [add_none, h2.cell, ← hq]; simp⟩) (by simp [Value.oneCell']) (by unfold maxLen; omega) (by omega) hw.size ?_
                intro v' w' ho hg _
                exact ⟨ho, own_ext hw h5 hg (Nat.le_refl _), trivial⟩
              · refine ⟨fun val v w w' h e => OwnBxs.ext h e, fun _ _ _ _ _ h => h, fun val w hw hu => ?_⟩
                obtain ⟨h5, _⟩ := hu
                simp only [Act.put, List.setIfInBounds_toArray, List.set_cons_zero, List.set_cons_succ]
                refine runs_append (.tmp 78) (.tmp 79) 39 rfl w9.heap.size 38 ic _ 8 64 Tryz.underlying39 hic hc0 hc1 hc2 rfl (by decide) (val 8) (P + 2) _ rfl h5 A9 (0) c9 ((l.drop (P + 1)).flatMap bxC) rfl (by rw [flat_len box_len, hdl.out]) (sl_news box_len (box_news _) (Bxs.ext hw HS9.out)) (flat_one box_one _) (by unfold maxLen; omega) (by omega) hw.size ?_
                intro v' w' ho hg _
                refine ⟨?_, own_ext hw h5 hg (Nat.le_refl _), fun val u ⟨b9, k1, k2, k3⟩ => ⟨b9, k1, k2.grown hg ?_, k3⟩, trivial⟩
                · have e1 : l'.flatMap bxC = ((l.take P).flatMap bxC ++ [.int .i64 lxl, .int .i64 lxh, .int .i64 lyl, .int .i64 lyh, .int .i64 lul, .int .i64 luh, .int .i64 lvl, .int .i64 lvh, .int .i64 rxl, .int .i64 rxh, .int .i64 ryl, .int .i64 ryh, .int .i64 rul, .int .i64 ruh, .int .i64 rvl, .int .i64 rvh]) ++ (l.drop (P + 1)).flatMap bxC := by
                    rw [Hl'.out, List.flatMap_append, List.append_assoc]
                    rfl
                  unfold OwnBxs
                  rw [Hlen.out, e1, hmP]
                  exact ho
                · exact own_not_empty h5 k2 (by omega) (by omega)
              · refine ⟨fun val v w w' h e => OwnBxs.ext h e, fun _ _ _ _ _ h => h, fun val w hw hu => ?_⟩
                simp only [Act.put, List.setIfInBounds_toArray, List.set_cons_zero, List.set_cons_succ]
                exact runs_val (by go_simp) ⟨hu.1, Ext.refl _⟩
              · intro val w10 h10 hfin
                obtain ⟨_, _, _, _, _, f11, _⟩ := hfin
                obtain ⟨A10, c10, hv10, hs10, hc10⟩ := (f11 trivial).cap
                rw [hv10]
                simp only [Act.put, List.setIfInBounds_toArray, List.set_cons_zero, List.set_cons_succ]
                clear f11 hv10
                have HS10 := Lib.hid hs10
                clear hs10
                rw [Hlen.out] at HS10 hc10 ⊢
                have E10 : Ext w w10 := hb.trans (E9.trans h10)
                go_wp2_with fail
                go_roundw
                case rel => exact ⟨A10, l', c10, by rw [Hlen.out], by rw [Hlen.out]; exact HS10, by rw [Hlen.out]; exact hc10, by rw [Hlen.out]; omega, by rw [Hlen.out]; omega, Hval, by rw [Hlen.out]; exact Hgo, E10⟩
                case measure => simp [sliceLen]; omega
            · rw [hAD] at HSd
              clear hAD
              have hmP : m + 1 = P + 2 + (m - (P + 1)) := by omega
              go_wp2_with (at_builtin; go_loud (refine wpList_append_sl rfl (.tmp 64) (.tmp 68) 39 rfl (w7.heap.size + 1 + 1) 38 ic _ 8 64 Tryz.underlying39 hic hc0 hc1 hc2 rfl (by decide) _ 0 [] rfl (own_made (by simp) (by omega)) _ (m - (P + 1)) _ ((l.drop (P + 1)).flatMap bxC) rfl (by rw [flat_len box_len, hdl.out]) (sl_news box_len (box_news _) (HSd.out _ (by (repeat' (first | exact Ext.refl _ | assumption | apply Ext.alloc | apply Ext.drew | refine Ext.set ?_ (by dsimp only; omega) _ | refine Ext.trans ?_ (by assumption)))))) (flat_one box_one _) (by unfold maxLen; omega) (by omega) (by simp only [World.size_alloc]; omega) ?_))
              intro v9 w9 ho9 hg9 hn9
              have e9 := grown_ext (w0 := (w7.alloc (.cells #[.int .i64 lxl, .int .i64 lxh, .int .i64 lyl, .int .i64 lyh, .int .i64 lul, .int .i64 luh, .int .i64 lvl, .int .i64 lvh] 38)).alloc (.cells #[.int .i64 rxl, .int .i64 rxh, .int .i64 ryl, .int .i64 ryh, .int .i64 rul, .int .i64 ruh, .int .i64 rvl, .int .i64 rvh] 38)) (Ext.alloc0 _ _) hg9 (by intro j hj; simp [Value.ownBlock] at hj; simp; omega)
              have B13 : Blk w9 w7.heap.size 38 #[.int .i64 lxl, .int .i64 lxh, .int .i64 lyl, .int .i64 lyh, .int .i64 lul, .int .i64 luh, .int .i64 lvl, .int .i64 lvh] := ((Blk.new _ _ _).alloc _).ext e9
              have B14 : Blk w9 (w7.heap.size + 1) 38 #[.int .i64 rxl, .int .i64 rxh, .int .i64 ryl, .int .i64 ryh, .int .i64 rul, .int .i64 ruh, .int .i64 rvl, .int .i64 rvh] := (Blk.newAt (by simp)).ext e9
              have E9 : Ext wo w9 := Ext.trans (by (repeat' (first | exact Ext.refl _ | assumption | apply Ext.alloc | apply Ext.drew | refine Ext.set ?_ (by dsimp only; omega) _ | refine Ext.trans ?_ (by assumption)))) e9
              have ho9b : OwnBxs (w7.heap.size + 1 + 1) w9 v9 (l.drop (P + 1)) := by
                unfold OwnBxs
                rw [hdl.out]
                have h := ho9
                (try rw [← hcp] at h)
                first | exact h | (simp only [Nat.zero_add, List.nil_append] at h; exact h) | (simp at h ⊢; exact h)
              obtain ⟨A9, c9, rfl, hs9, hcap9⟩ := ho9b.cap
              rw [hdl.out]
              have HS9 : Hid (Bxs w9 A9 (m - (P + 1)) (l.drop (P + 1))) := by
                have h := hs9
                rw [hdl.out] at h
                exact h
              clear ho9 hg9 hn9 e9 ho9b hs9 hcap9
              have c_B13 := B13.cell; have f_B13 := B13.frozen; have l_B13 := B13.lt; have c_B14 := B14.cell; have f_B14 := B14.frozen; have l_B14 := B14.lt
              go_wp2_with fail
              refine wp_region_rel [1, 2, 3, 5, 6, 9] [⟨0, [], none⟩, ⟨4, [0], some ([0], [7])⟩, ⟨7, [], none⟩, ⟨8, [4, 7], some ([0, 4, 7], [])⟩, ⟨10, [8], some ([4, 7, 8], [0])⟩, ⟨11, [10], none⟩]
                [(⟨0, [], none⟩, fun _ v w => ∃ b, v = .slice (some ⟨b, 0, none⟩) 0 0 ∧ Blk w b 38 #[] ∧ w9.heap.size ≤ b),
                 (⟨4, [0], some ([0], [7])⟩, fun _ v w => w.ownsRow w9.heap.size 38 8 v P ((l.take P).flatMap bxC)),
                 (⟨7, [], none⟩, fun _ v w => ∃ b, v = .slice (some ⟨b, 0, none⟩) 2 2 ∧ Blk w b 38 #[.int .i64 lxl, .int .i64 lxh, .int .i64 lyl, .int .i64 lyh, .int .i64 lul, .int .i64 luh, .int .i64 lvl, .int .i64 lvh, .int .i64 rxl, .int .i64 rxh, .int .i64 ryl, .int .i64 ryh, .int .i64 rul, .int .i64 ruh, .int .i64 rvl, .int .i64 rvh] ∧ w9.heap.size ≤ b),
                 (⟨8, [4, 7], some ([0, 4, 7], [])⟩, fun _ v w => w.ownsRow w9.heap.size 38 8 v (P + 2) ((l.take P).flatMap bxC ++ [.int .i64 lxl, .int .i64 lxh, .int .i64 lyl, .int .i64 lyh, .int .i64 lul, .int .i64 luh, .int .i64 lvl, .int .i64 lvh, .int .i64 rxl, .int .i64 rxh, .int .i64 ryl, .int .i64 ryh, .int .i64 rul, .int .i64 ruh, .int .i64 rvl, .int .i64 rvh])),
                 (⟨10, [8], some ([4, 7, 8], [0])⟩, fun _ v w => OwnBxs w9.heap.size w v l'),
                 (⟨11, [10], none⟩, fun _ v w => OwnBxs w9.heap.size w v l')]
                (Ext w9) (Ext w9) (Stable.ext _) (fun _ h => h) (Ext.drew (Ext.refl _)) (by kernel_rfl) rfl (by kernel_rfl) ?_
              simp only [pick, List.drop_succ_cons, List.drop_zero]
              repeat' (first | (refine bl_off (by rfl) ?_; simp only [Act.put, List.setIfInBounds_toArray, List.set_cons_zero, List.set_cons_succ]) | (apply bl_op; rfl; (intro w1 h1; obtain ⟨hc, hf, hz⟩ := bcell h1; go_simp; (try go_bits); (first | exact ⟨rfl, Ext.refl _⟩)); simp only [Act.put, List.setIfInBounds_toArray, List.set_cons_zero, List.set_cons_succ]) | (refine bl_split rfl rfl (fun hx => ?_) (fun hx => ?_) <;> simp only [hx]))
              refine bl_nil ?_
              clear c_B13 f_B13 l_B13 c_B14 f_B14 l_B14
              clear hcp
              simp only [obF, finF, useF, useEq, spoilF, keepF, getG, Nat.reduceEqDiff, reduceIte, putP, pick1, List.drop_succ_cons, List.drop_zero, List.map_cons, List.map_nil, spoils, List.all_cons, List.all_nil, List.contains_cons, List.contains_nil, Nat.reduceBEq, Bool.or_false, Bool.or_true, Bool.not_true, Bool.not_false, Bool.and_true, Bool.and_false]
              refine ⟨⟨?_, ?_, ?_, ?_, ?_, ?_, trivial⟩, ?_⟩
              · exact ⟨fun val v w w' ⟨b, h1, h2, h3⟩ e => ⟨b, h1, h2.ext e, h3⟩, fun _ _ _ _ _ h => h, fun val w hw _ => runs_to (w1 := w.alloc (.cells #[] 38)) (by go_simp) ⟨⟨_, rfl, Blk.new _ _ _, hw.size⟩, Ext.alloc0 _ _⟩⟩
              · refine ⟨fun val v w w' h e => own_ext_keep h e, fun _ _ _ _ _ h => h, fun val w hw hu => ?_⟩
                obtain ⟨⟨b, h1, h2, h3⟩, _⟩ := hu
                rw [h1]
                simp only [Act.put, List.setIfInBounds_toArray, List.set_cons_zero, List.set_cons_succ]
                refine runs_append (.tmp 70) (.tmp 73) 39 rfl w9.heap.size 38 ic _ 8 64 Tryz.underlying39 hic hc0 hc1 hc2 rfl (by decide) _ 0 [] rfl (own_empty h2 h3) _ P _ ((l.take P).flatMap bxC) rfl (by rw [flat_len box_len, HPl.out]) (sl_news box_len (box_news _) (HSt.out _ (E9.trans hw))) (flat_one box_one _) (by unfold maxLen; omega) (by omega) hw.size ?_
                intro v' w' ho hg _
                exact ⟨by simpa using ho, own_ext (sz := 8) hw (own_empty h2 h3) hg (Nat.le_refl _), fun val u ⟨b9, k1, k2, k3⟩ => ⟨b9, k1, k2.grown hg (fun e => blk_ne3 h2 k2 (by simp) (Option.some.inj e)), k3⟩, trivial⟩
              · exact ⟨fun val v w w' ⟨b, h1, h2, h3⟩ e => ⟨b, h1, h2.ext e, h3⟩, fun _ _ _ _ _ h => h, fun val w hw _ => runs_to (w1 := w.alloc (.cells #[.int .i64 lxl, .int .i64 lxh, .int .i64 lyl, .int .i64 lyh, .int .i64 lul, .int .i64 luh, .int .i64 lvl, .int .i64 lvh, .int .i64 rxl, .int .i64 rxh, .int .i64 ryl, .int .i64 ryh, .int .i64 rul, .int .i64 ruh, .int .i64 rvl, .int .i64 rvh] 38)) (by go_simp) ⟨⟨_, rfl, Blk.new _ _ _, hw.size⟩, Ext.alloc0 _ _⟩⟩
              · refine ⟨fun val v w w' h e => own_ext_keep h e, fun _ _ _ _ _ h => h, fun val w hw hu => ?_⟩
                obtain ⟨h5, ⟨b, h1, h2, h3⟩, _⟩ := hu
                rw [h1]
                simp only [Act.put, List.setIfInBounds_toArray, List.set_cons_zero, List.set_cons_succ]
                refine runs_append (.tmp 74) (.tmp 77) 39 rfl w9.heap.size 38 ic _ 8 64 Tryz.underlying39 hic hc0 hc1 hc2 rfl (by decide) (val 4) P ((l.take P).flatMap bxC) rfl h5 _ 2 2 [.int .i64 lxl, .int .i64 lxh, .int .i64 lyl, .int .i64 lyh, .int .i64 lul, .int .i64 luh, .int .i64 lvl, .int .i64 lvh, .int .i64 rxl, .int .i64 rxh, .int .i64 ryl, .int .i64 ryh, .int .i64 rul, .int .i64 ruh, .int .i64 rvl, .int .i64 rvh] rfl rfl (.inr ⟨_, rfl, fun q u hq => by rw [add_none, h2.cell, ← hq]; simp⟩) (by simp [Value.oneCell']) (by unfold maxLen; omega) (by omega) hw.size ?_
                intro v' w' ho hg _
                exact ⟨ho, own_ext hw h5 hg (Nat.le_refl _), trivial⟩
              · refine ⟨fun val v w w' h e => OwnBxs.ext h e, fun _ _ _ _ _ h => h, fun val w hw hu => ?_⟩
                obtain ⟨h5, _⟩ := hu
                simp only [Act.put, List.setIfInBounds_toArray, List.set_cons_zero, List.set_cons_succ]
                refine runs_append (.tmp 78) (.tmp 79) 39 rfl w9.heap.size 38 ic _ 8 64 Tryz.underlying39 hic hc0 hc1 hc2 rfl (by decide) (val 8) (P + 2) _ rfl h5 A9 (m - (P + 1)) c9 ((l.drop (P + 1)).flatMap bxC) rfl (by rw [flat_len box_len, hdl.out]) (sl_news box_len (box_news _) (Bxs.ext hw HS9.out)) (flat_one box_one _) (by unfold maxLen; omega) (by omega) hw.size ?_
                intro v' w' ho hg _
                refine ⟨?_, own_ext hw h5 hg (Nat.le_refl _), fun val u ⟨b9, k1, k2, k3⟩ => ⟨b9, k1, k2.grown hg ?_, k3⟩, trivial⟩
                · have e1 : l'.flatMap bxC = ((l.take P).flatMap bxC ++ [.int .i64 lxl, .int .i64 lxh, .int .i64 lyl, .int .i64 lyh, .int .i64 lul, .int .i64 luh, .int .i64 lvl, .int .i64 lvh, .int .i64 rxl, .int .i64 rxh, .int .i64 ryl, .int .i64 ryh, .int .i64 rul, .int .i64 ruh, .int .i64 rvl, .int .i64 rvh]) ++ (l.drop (P + 1)).flatMap bxC := by
                    rw [Hl'.out, List.flatMap_append, List.append_assoc]
                    rfl
                  unfold OwnBxs
                  rw [Hlen.out, e1, hmP]
                  exact ho
                · exact own_not_empty h5 k2 (by omega) (by omega)
              · refine ⟨fun val v w w' h e => OwnBxs.ext h e, fun _ _ _ _ _ h => h, fun val w hw hu => ?_⟩
                simp only [Act.put, List.setIfInBounds_toArray, List.set_cons_zero, List.set_cons_succ]
                exact runs_val (by go_simp) ⟨hu.1, Ext.refl _⟩
              · intro val w10 h10 hfin
                obtain ⟨_, _, _, _, _, f11, _⟩ := hfin
                obtain ⟨A10, c10, hv10, hs10, hc10⟩ := (f11 trivial).cap
                rw [hv10]
                simp only [Act.put, List.setIfInBounds_toArray, List.set_cons_zero, List.set_cons_succ]
                clear f11 hv10
                have HS10 := Lib.hid hs10
                clear hs10
                rw [Hlen.out] at HS10 hc10 ⊢
                have E10 : Ext w w10 := hb.trans (E9.trans h10)
                go_wp2_with fail
                go_roundw
                case rel => exact ⟨A10, l', c10, by rw [Hlen.out], by rw [Hlen.out]; exact HS10, by rw [Hlen.out]; exact hc10, by rw [Hlen.out]; omega, by rw [Hlen.out]; omega, Hval, by rw [Hlen.out]; exact Hgo, E10⟩
                case measure => simp [sliceLen]; omega
    · have hmN : m = N := by omega
      have hTl : l = T := by
        have := HM.out
        rw [show N - m = 0 by omega] at this
        exact this
      subst hTl
      have HE := Lib.hid (Hm.out)
      go_wp2_with fail
      (try simp only [Exit.inBlock, Exit.then]); apply bodyPost_ret; (focus (simp only [results, Tryz.results47]; go_simp; try rfl)); rfl
      exact ⟨A, c, ret_v (by rw [← HE.out, hmN]), by rw [← HE.out]; exact HL.out, by rw [← HE.out]; exact hc, by (repeat' (first | exact Ext.refl _ | assumption | apply Ext.alloc | apply Ext.drew | refine Ext.set ?_ (by dsimp only; omega) _ | refine Ext.trans ?_ (by assumption)))⟩
set_option maxRecDepth 20000 in
set_option maxHeartbeats 2000000 in
theorem rCells_no (b : Bx) (n : Int) (w : World) (h : cellsErr b n ≠ 0) :
    Calls Tryz.prog 47 #[bxV b, .int .i64 n] w fun e w' => e = .returned (.tuple #[.slice none 0 0, .int .i64 (cellsErr b n)]) ∧ Ext w w' := by
  have HC := Lib.hid fun W => rCheckBox_c b W
  unfold cellsErr at h ⊢
  by_cases hv : bxErr b = 0
  · rw [hv] at HC
    have hn : n < 1 ∨ 512 < n := by
      refine Classical.byContradiction fun hx => h ?_
      rw [if_neg (by simp [hv]), if_neg hx]
    rw [if_neg (by simp [hv]), if_pos hn]
    clear h hv
    obtain ⟨⟨xl, xh⟩, ⟨yl, yh⟩, ⟨ul, uh⟩, vl, vh⟩ := b
    dsimp only [bxV] at HC ⊢
    rcases hn with hn | hn
    · go_enter Tryz.func47, Tryz.ntmps47
      go_wp2_with fail
      refine (HC.out _).mono ?_
      rintro e w1 ⟨rfl, h1⟩
      obtain ⟨hc_w1, hf_w1, hz_w1⟩ := bcell h1; (repeat (first | rw [World.size_alloc] at hz_w1 | rw [World.size_drew] at hz_w1 | rw [World.size_setCell] at hz_w1)); (try (have : w.heap.size < w1.heap.size := (by omega))); (try (have : w.heap.size + 1 < w1.heap.size := (by omega))); (try (have : w.heap.size + 1 + 1 < w1.heap.size := (by omega))); (try (have : w.heap.size + 1 + 1 + 1 < w1.heap.size := (by omega))); (try (have : w.heap.size + 1 + 1 + 1 + 1 < w1.heap.size := (by omega)))
      go_wp2_with fail
      (try simp only [Exit.inBlock, Exit.then]); apply bodyPost_ret; (focus (simp only [results, Tryz.results47]; go_simp; try rfl)); rfl
      exact ⟨rfl, by (repeat' (first | exact Ext.refl _ | assumption | apply Ext.alloc | apply Ext.drew | refine Ext.set ?_ (by dsimp only; omega) _ | refine Ext.trans ?_ (by assumption)))⟩
    · have hn1 : ¬ n < 1 := by omega
      go_enter Tryz.func47, Tryz.ntmps47
      go_wp2_with fail
      refine (HC.out _).mono ?_
      rintro e w1 ⟨rfl, h1⟩
      obtain ⟨hc_w1, hf_w1, hz_w1⟩ := bcell h1; (repeat (first | rw [World.size_alloc] at hz_w1 | rw [World.size_drew] at hz_w1 | rw [World.size_setCell] at hz_w1)); (try (have : w.heap.size < w1.heap.size := (by omega))); (try (have : w.heap.size + 1 < w1.heap.size := (by omega))); (try (have : w.heap.size + 1 + 1 < w1.heap.size := (by omega))); (try (have : w.heap.size + 1 + 1 + 1 < w1.heap.size := (by omega))); (try (have : w.heap.size + 1 + 1 + 1 + 1 < w1.heap.size := (by omega)))
      go_wp2_with fail
      (try simp only [Exit.inBlock, Exit.then]); apply bodyPost_ret; (focus (simp only [results, Tryz.results47]; go_simp; try rfl)); rfl
      exact ⟨rfl, by (repeat' (first | exact Ext.refl _ | assumption | apply Ext.alloc | apply Ext.drew | refine Ext.set ?_ (by dsimp only; omega) _ | refine Ext.trans ?_ (by assumption)))⟩
  · rw [if_pos hv]
    have hE : (bxErr b != 0) = true := by simpa using hv
    generalize bxErr b = E at *
    clear h hv
    obtain ⟨⟨xl, xh⟩, ⟨yl, yh⟩, ⟨ul, uh⟩, vl, vh⟩ := b
    dsimp only [bxV] at HC ⊢
    go_enter Tryz.func47, Tryz.ntmps47
    go_wp2_with fail
    refine (HC.out _).mono ?_
    rintro e w1 ⟨rfl, h1⟩
    obtain ⟨hc_w1, hf_w1, hz_w1⟩ := bcell h1; (repeat (first | rw [World.size_alloc] at hz_w1 | rw [World.size_drew] at hz_w1 | rw [World.size_setCell] at hz_w1)); (try (have : w.heap.size < w1.heap.size := (by omega))); (try (have : w.heap.size + 1 < w1.heap.size := (by omega))); (try (have : w.heap.size + 1 + 1 < w1.heap.size := (by omega))); (try (have : w.heap.size + 1 + 1 + 1 < w1.heap.size := (by omega))); (try (have : w.heap.size + 1 + 1 + 1 + 1 < w1.heap.size := (by omega)))
    go_wp2_with fail
    (try simp only [Exit.inBlock, Exit.then]); apply bodyPost_ret; (focus (simp only [results, Tryz.results47]; go_simp; try rfl)); rfl
    exact ⟨rfl, by (repeat' (first | exact Ext.refl _ | assumption | apply Ext.alloc | apply Ext.drew | refine Ext.set ?_ (by dsimp only; omega) _ | refine Ext.trans ?_ (by assumption)))⟩
theorem rCells_c (b : Bx) (n : Int) (w : World) :
    Calls Tryz.prog 47 #[bxV b, .int .i64 n] w fun e w' => ∃ A c, e = .returned (.tuple #[.slice A (cellsL b n).length c, .int .i64 (cellsErr b n)]) ∧ Bxs w' A (cellsL b n).length (cellsL b n) ∧ (cellsL b n).length ≤ c ∧ Ext w w' := by
  by_cases h : cellsErr b n = 0
  · have hv : bxErr b = 0 := by
      refine Classical.byContradiction fun hx => ?_
      unfold cellsErr at h
      rw [if_pos hx] at h
      exact hx h
    have hn : 1 ≤ n ∧ n ≤ 512 := by
      refine Classical.byContradiction fun hx => ?_
      unfold cellsErr at h
      rw [if_neg (by simp [hv]), if_pos (by omega)] at h
      cases h
    have hL : cellsL b n = cellsB b n.toNat := by unfold cellsL; rw [if_pos h]
    rw [hL, h]
    have := rCells_yes b n.toNat w hv (by omega) (by omega)
    rw [show ((n.toNat : Nat) : Int) = n by omega] at this
    exact this
  · have hL : cellsL b n = [] := by unfold cellsL; rw [if_neg h]
    rw [hL]
    refine (rCells_no b n w h).mono ?_
    rintro e w' ⟨he, h1⟩
    exact ⟨none, 0, he, SlR.nil _ _ _, Nat.le_refl _, h1⟩
end Go.Proofs.YtfniicgoeljmdaaGreat
