/- The least box that contains all boxes of a set: the reference. No condition. -/
import Derived.Test.YtfniicgoeljmdaaGreatRefSet
namespace Go.Proofs.YtfniicgoeljmdaaGreat
open Go.RowKit

set_option maxHeartbeats 1000000 in
theorem rHullS_c (al ah bl bh : Int) (w : World) :
    Calls Tryz.prog 131 #[.agg #[.int .i64 al, .int .i64 ah], .agg #[.int .i64 bl, .int .i64 bh]] w fun e w' => e = .returned (.agg #[.int .i64 (min al bl), .int .i64 (max ah bh)]) ∧ Ext w w' := by
  go_enter Tryz.func131, Tryz.ntmps131
  go_wp2_with fail
  (try simp only [Exit.inBlock, Exit.then]); apply bodyPost_ret; (focus (simp only [results, Tryz.results131]; go_simp; try rfl)); rfl
  exact ⟨rfl, by (repeat' (first | exact Ext.refl _ | assumption | apply Ext.alloc | apply Ext.drew | refine Ext.set ?_ (by dsimp only; omega) _ | refine Ext.trans ?_ (by assumption)))⟩
set_option maxRecDepth 20000 in
set_option maxHeartbeats 4000000 in
theorem rBoth_c (a b : Bx) (w : World) :
    Calls Tryz.prog 93 #[.agg #[.int .i64 a.x.lo, .int .i64 a.x.hi, .int .i64 a.y.lo, .int .i64 a.y.hi, .int .i64 a.u.lo, .int .i64 a.u.hi, .int .i64 a.v.lo, .int .i64 a.v.hi], .agg #[.int .i64 b.x.lo, .int .i64 b.x.hi, .int .i64 b.y.lo, .int .i64 b.y.hi, .int .i64 b.u.lo, .int .i64 b.u.hi, .int .i64 b.v.lo, .int .i64 b.v.hi]] w fun e w' => e = .returned (bxV (hullB a b)) ∧ Ext w w' := by
  obtain ⟨⟨xl, xh⟩, ⟨yl, yh⟩, ⟨ul, uh⟩, vl, vh⟩ := a
  obtain ⟨⟨zxl, zxh⟩, ⟨zyl, zyh⟩, ⟨zul, zuh⟩, zvl, zvh⟩ := b
  have HC := Lib.hid fun p q s t W => rHullS_c p q s t W
  unfold hullB hullS
  dsimp only
  go_enter Tryz.func93, Tryz.ntmps93
  go_wp2_with fail
  refine name_world _ ?_
  intro W1 hW1
  obtain ⟨b2, h2⟩ : ∃ b, b = w.heap.size := ⟨_, rfl⟩
  have B2 : Blk W1 b2 38 #[.int .i64 xl, .int .i64 xh, .int .i64 yl, .int .i64 yh, .int .i64 ul, .int .i64 uh, .int .i64 vl, .int .i64 vh] := by rw [hW1, h2]; exact ((Blk.new w _ _).alloc _).alloc _
  have B3 : Blk W1 (b2 + 1) 38 #[.int .i64 zxl, .int .i64 zxh, .int .i64 zyl, .int .i64 zyh, .int .i64 zul, .int .i64 zuh, .int .i64 zvl, .int .i64 zvh] := by rw [hW1, h2]; exact (Blk.newAt (by simp)).alloc _
  have B4 : Blk W1 (b2 + 1 + 1) 38 #[.int .i64 0, .int .i64 0, .int .i64 0, .int .i64 0, .int .i64 0, .int .i64 0, .int .i64 0, .int .i64 0] := by rw [hW1, h2]; exact Blk.newAt (by simp)
  have E1 : Ext w W1 := by rw [hW1]; (repeat' (first | exact Ext.refl _ | assumption | apply Ext.alloc | apply Ext.drew | refine Ext.set ?_ (by dsimp only; omega) _ | refine Ext.trans ?_ (by assumption)))
  have o1 : w.heap.size ≤ b2 := by omega
  rw [← h2]
  clear hW1 h2
  have c_B2 := B2.cell; have f_B2 := B2.frozen; have l_B2 := B2.lt; have c_B3 := B3.cell; have f_B3 := B3.frozen; have l_B3 := B3.lt; have c_B4 := B4.cell; have f_B4 := B4.frozen; have l_B4 := B4.lt
  refine wp_region_forced 21 (Ext _) (Stable.ext _) (Ext.drew (Ext.refl _)) (by kernel_rfl) (by kernel_rfl) ?_
  simp only [List.take_succ_cons, List.take_zero, List.drop_succ_cons, List.drop_zero]
  (repeat' (first | (refine bl_off (by rfl) ?_; simp only [Act.put, List.setIfInBounds_toArray, List.set_cons_zero, List.set_cons_succ]) | (apply bl_op; rfl; (intro w1 h1; obtain ⟨hc, hf, hz⟩ := bcell h1; go_simp; (try go_bits); (first | exact ⟨rfl, Ext.refl _⟩ | (apply gives_call; first | (go_at_call 131; exact HC.out _ _ _ _ _)) | (go_invoke; go_simp; apply gives_call; first | (go_at_call 131; exact HC.out _ _ _ _ _)))); simp only [Act.put, List.setIfInBounds_toArray, List.set_cons_zero, List.set_cons_succ]) | (refine bl_split rfl rfl (fun hx => ?_) (fun hx => ?_) <;> simp only [hx])))
  refine bl_nil ?_
  intro W2 hW2
  have D4 := B4.ext hW2
  have E2 := E1.trans hW2
  clear c_B2 f_B2 l_B2 c_B3 f_B3 l_B3 c_B4 f_B4 l_B4
  clear B2 B3 B4 hW2 E1
  have f4 := D4.frozen
  have c4 := D4.cell
  have l4 := D4.lt
  (try dsimp only); repeat' (first | go_values | go_skip | go_guarded | go_step | go_upon | go_in | go_at_K)
  refine name_world _ ?_
  intro W9 hW9
  have Q8 : Blk W9 (b2 + 1 + 1) 38 #[.int .i64 (min xl zxl), .int .i64 (max xh zxh), .int .i64 (min yl zyl), .int .i64 (max yh zyh), .int .i64 (min ul zul), .int .i64 (max uh zuh), .int .i64 (min vl zvl), .int .i64 (max vh zvh)] := by rw [hW9]; exact blk_set2 (blk_set2 (blk_set2 (blk_set2 D4 rfl) rfl) rfl) rfl
  have QE : Ext w W9 := by rw [hW9]; exact ext_set2 (ext_set2 (ext_set2 (ext_set2 E2 (by omega)) (by omega)) (by omega)) (by omega)
  clear hW9
  have c_Q8 := Q8.cell; have f_Q8 := Q8.frozen; have l_Q8 := Q8.lt
  (try simp only [Exit.inBlock, Exit.then]); apply bodyPost_ret; (focus (simp only [results, Tryz.results93]; go_simp; try rfl)); rfl
  exact ⟨rfl, QE⟩
set_option maxRecDepth 20000 in
set_option maxHeartbeats 1000000 in
theorem rHull_no (A : Option Addr) (n c : Nat) (l : List Bx) (w : World) (hl : Bxs w A n l) (hE : setErr l ≠ 0) (h0 : 0 < n) :
    Calls Tryz.prog 34 #[.slice A n c] w fun e w' => e = .returned (.tuple #[.agg #[.int .i64 0, .int .i64 0, .int .i64 0, .int .i64 0, .int .i64 0, .int .i64 0, .int .i64 0, .int .i64 0], .bool false]) ∧ Ext w w' := by
  have hn := hl.le
  have HC := Lib.hid fun W (hW : Ext w W) => rCheckSet_c A n c l W (Bxs.ext hW hl)
  obtain ⟨E, hEe⟩ : ∃ E, setErr l = E := ⟨_, rfl⟩
  rw [hEe] at HC hE
  have hne : (E != 0) = true := by simpa using hE
  have hnz : ((n : Int) == 0) = false := by simp; omega
  clear hE hl hEe
  go_enter Tryz.func34, Tryz.ntmps34
  go_wp2_with fail
  refine (HC.out _ (by (repeat' (first | exact Ext.refl _ | assumption | apply Ext.alloc | apply Ext.drew | refine Ext.set ?_ (by dsimp only; omega) _ | refine Ext.trans ?_ (by assumption))))).mono ?_
  rintro e w1 ⟨rfl, h1⟩
  have G2 : Blk w1 w.heap.size 38 #[.int .i64 0, .int .i64 0, .int .i64 0, .int .i64 0, .int .i64 0, .int .i64 0, .int .i64 0, .int .i64 0] := (Blk.newAt rfl).ext h1
  have GE : Ext w w1 := by (repeat' (first | exact Ext.refl _ | assumption | apply Ext.alloc | apply Ext.drew | refine Ext.set ?_ (by dsimp only; omega) _ | refine Ext.trans ?_ (by assumption)))
  clear h1
  have f_G2 := G2.frozen
  have l_G2 := G2.lt
  have c_G2 := G2.cell
  (try dsimp only); repeat' (first | go_values | go_skip | go_guarded | go_step | go_upon | go_in | go_at_K)
  refine name_world _ ?_
  intro W9 hW9
  have Q8 : Blk W9 (w.heap.size) 38 #[.int .i64 0, .int .i64 0, .int .i64 0, .int .i64 0, .int .i64 0, .int .i64 0, .int .i64 0, .int .i64 0] := by rw [hW9]; exact blk_set2 (blk_set2 (blk_set2 (blk_set2 G2 rfl) rfl) rfl) rfl
  have QE : Ext w W9 := by rw [hW9]; exact ext_set2 (ext_set2 (ext_set2 (ext_set2 GE (by omega)) (by omega)) (by omega)) (by omega)
  clear hW9
  have c_Q8 := Q8.cell; have f_Q8 := Q8.frozen; have l_Q8 := Q8.lt
  (try simp only [Exit.inBlock, Exit.then]); apply bodyPost_ret; (focus (simp only [results, Tryz.results34]; go_simp; try rfl)); rfl
  exact ⟨rfl, QE⟩
set_option maxRecDepth 20000 in
set_option maxHeartbeats 1000000 in
theorem rHull_zero (A : Option Addr) (c : Nat) (w : World) :
    Calls Tryz.prog 34 #[.slice A 0 c] w fun e w' => e = .returned (.tuple #[.agg #[.int .i64 0, .int .i64 0, .int .i64 0, .int .i64 0, .int .i64 0, .int .i64 0, .int .i64 0, .int .i64 0], .bool false]) ∧ Ext w w' := by
  go_enter Tryz.func34, Tryz.ntmps34
  go_wp2_with fail
  (try simp only [Exit.inBlock, Exit.then]); apply bodyPost_ret; (focus (simp only [results, Tryz.results34]; go_simp; try rfl)); rfl
  exact ⟨rfl, by (repeat' (first | exact Ext.refl _ | assumption | apply Ext.alloc | apply Ext.drew | refine Ext.set ?_ (by dsimp only; omega) _ | refine Ext.trans ?_ (by assumption)))⟩
set_option maxRecDepth 20000 in
set_option maxHeartbeats 4000000 in
theorem rHull_yes (A : Option Addr) (n c : Nat) (x : Bx) (r : List Bx) (w : World) (hl : Bxs w A n (x :: r)) (hE : setErr (x :: r) = 0) :
    Calls Tryz.prog 34 #[.slice A n c] w fun e w' => e = .returned (.tuple #[bxV (r.foldl hullB x), .bool true]) ∧ Ext w w' := by
  have hn := hl.le
  have hln := Lib.hid hl.len
  have HL := Lib.hid hl
  have HC := Lib.hid fun W (hW : Ext w W) => rCheckSet_c A n c (x :: r) W (Bxs.ext hW hl)
  rw [hE] at HC
  have hn1 : 1 ≤ n := by have := hl.len; simp at this; omega
  have hnz : ((n : Int) == 0) = false := by simp; omega
  obtain ⟨b, off, hA, hc0⟩ := hl.at_ (by simp)
  subst hA
  have hx := hc0 0 (by simp)
  rw [Nat.zero_mul, Nat.add_zero] at hx
  obtain ⟨L, hL⟩ : ∃ L, x :: r = L := ⟨_, rfl⟩
  have Hx : Hid (bxAt w x b off) := hx
  obtain ⟨T, hT⟩ : ∃ T, r.foldl hullB x = T := ⟨_, rfl⟩
  rw [hT]
  have hT1 : (L.drop 1).foldl hullB x = T := by rw [← hL]; exact hT
  rw [hL] at HL hln
  have HT := Lib.hid hT1
  have hbl : b < w.heap.size := World.block_lt_of_cell? w _ hx.1
  clear hT hE hl hc0 hx hT1 hL
  obtain ⟨hx0, hx1, hx2, hx3, hx4, hx5, hx6, hx7⟩ := Hx.out
  obtain ⟨⟨xl, xh⟩, ⟨yl, yh⟩, ⟨ul, uh⟩, vl, vh⟩ := x
  dsimp only at hx0 hx1 hx2 hx3 hx4 hx5 hx6 hx7
  go_enter Tryz.func34, Tryz.ntmps34
  go_wp2_with fail
  refine (HC.out _ (by (repeat' (first | exact Ext.refl _ | assumption | apply Ext.alloc | apply Ext.drew | refine Ext.set ?_ (by dsimp only; omega) _ | refine Ext.trans ?_ (by assumption))))).mono ?_
  rintro e w1 ⟨rfl, h1⟩
  have G2 : Blk w1 w.heap.size 38 #[.int .i64 0, .int .i64 0, .int .i64 0, .int .i64 0, .int .i64 0, .int .i64 0, .int .i64 0, .int .i64 0] := (Blk.newAt rfl).ext h1
  obtain ⟨hc_w1, hf_w1, hz_w1⟩ := bcell h1; (repeat (first | rw [World.size_alloc] at hz_w1 | rw [World.size_drew] at hz_w1 | rw [World.size_setCell] at hz_w1)); (try (have : w.heap.size < w1.heap.size := (by omega))); (try (have : w.heap.size + 1 < w1.heap.size := (by omega))); (try (have : w.heap.size + 1 + 1 < w1.heap.size := (by omega))); (try (have : w.heap.size + 1 + 1 + 1 < w1.heap.size := (by omega))); (try (have : w.heap.size + 1 + 1 + 1 + 1 < w1.heap.size := (by omega)))
  go_wp2_with fail
  refine name_world _ ?_
  intro W1 hW1
  obtain ⟨b4, h4⟩ : ∃ b, b = w1.heap.size := ⟨_, rfl⟩
  have B4 : Blk W1 b4 38 #[.int .i64 xl, .int .i64 xh, .int .i64 yl, .int .i64 yh, .int .i64 ul, .int .i64 uh, .int .i64 vl, .int .i64 vh] := by rw [hW1]; exact Blk.newAt h4
  have o1 : w.heap.size < b4 := by omega
  have B2 : Blk W1 w.heap.size 38 #[.int .i64 0, .int .i64 0, .int .i64 0, .int .i64 0, .int .i64 0, .int .i64 0, .int .i64 0, .int .i64 0] := by rw [hW1]; exact G2.alloc _
  have E1 : Ext w W1 := by rw [hW1]; (repeat' (first | exact Ext.refl _ | assumption | apply Ext.alloc | apply Ext.drew | refine Ext.set ?_ (by dsimp only; omega) _ | refine Ext.trans ?_ (by assumption)))
  rw [← h4]
  clear hW1 h4 G2 h1 hc_w1 hf_w1 hz_w1 hx0 hx1 hx2 hx3 hx4 hx5 hx6 hx7
  go_loopw [5] (fun i wr => ∃ (k : Nat) (o : Bx), 1 ≤ k ∧ k ≤ n ∧ i = .int .i64 k ∧ Hid ((L.drop k).foldl hullB o = T) ∧ Hid (Blk wr b4 38 #[.int .i64 o.x.lo, .int .i64 o.x.hi, .int .i64 o.y.lo, .int .i64 o.y.hi, .int .i64 o.u.lo, .int .i64 o.u.hi, .int .i64 o.v.lo, .int .i64 o.v.hi]) ∧ Hid (Blk wr w.heap.size 38 #[.int .i64 0, .int .i64 0, .int .i64 0, .int .i64 0, .int .i64 0, .int .i64 0, .int .i64 0, .int .i64 0]) ∧ Ext w wr) (fun i _ => n - (intOf i).toNat)
  case atStart => exact ⟨1, ⟨⟨xl, xh⟩, ⟨yl, yh⟩, ⟨ul, uh⟩, vl, vh⟩, Nat.le_refl _, hn1, rfl, HT.out, B4, B2, E1⟩
  case round =>
    clear B4 B2 E1
    obtain ⟨k, o, hk1, hk, rfl, HI, B4, B2, hb⟩ := hrel
    have c4 := B4.out.cell
    have f4 := B4.out.frozen
    have l4 := B4.out.lt
    have l2 := B2.out.lt
    by_cases hlt : k < n
    · obtain ⟨b', off', y, hA, HD, hym, hy⟩ := (HL.out).one hlt
      injection hA with hA
      injection hA with e1 e2 e3
      subst e1 e2
      obtain ⟨hy0, hy1, hy2, hy3, hy4, hy5, hy6, hy7⟩ := bxAt.ext hb hy
      have hbl2 : b < wr.heap.size := World.block_lt_of_cell? wr _ hy0
      have HH := Lib.hid fun W => rBoth_c o y W
      have hi := HI.out
      rw [HD.out, List.foldl_cons] at hi
      generalize hullB o y = N at *
      have Hi := Lib.hid hi
      clear hi hym hy
      obtain ⟨⟨zxl, zxh⟩, ⟨zyl, zyh⟩, ⟨zul, zuh⟩, zvl, zvh⟩ := y
      obtain ⟨⟨oxl, oxh⟩, ⟨oyl, oyh⟩, ⟨oul, ouh⟩, ovl, ovh⟩ := o
      obtain ⟨⟨nxl, nxh⟩, ⟨nyl, nyh⟩, ⟨nul, nuh⟩, nvl, nvh⟩ := N
      dsimp only at hy0 hy1 hy2 hy3 hy4 hy5 hy6 hy7 HH B4 c4
      go_wp2_with fail
      refine wp_region_forced 6 (Ext _) (Stable.ext _) (Ext.drew (Ext.refl _)) (by kernel_rfl) (by kernel_rfl) ?_
      simp only [List.take_succ_cons, List.take_zero, List.drop_succ_cons, List.drop_zero]
      (repeat' (first | (refine bl_off (by rfl) ?_; simp only [Act.put, List.setIfInBounds_toArray, List.set_cons_zero, List.set_cons_succ]) | (apply bl_op; rfl; (intro w1 h1; obtain ⟨hc, hf, hz⟩ := bcell h1; go_simp; (try go_bits); (first | exact ⟨rfl, Ext.refl _⟩ | (apply gives_call; first | (go_at_call 93; exact HH.out _)) | (go_invoke; go_simp; apply gives_call; first | (go_at_call 93; exact HH.out _)))); simp only [Act.put, List.setIfInBounds_toArray, List.set_cons_zero, List.set_cons_succ]) | (refine bl_split rfl rfl (fun hx => ?_) (fun hx => ?_) <;> simp only [hx])))
      refine bl_nil ?_
      intro w3 e3
      have D4 := Lib.hid (B4.out.ext e3)
      have D2 := Lib.hid (B2.out.ext e3)
      have DE := hb.trans e3
      clear e3 c4 f4 l4 B4 B2 hy0 hy1 hy2 hy3 hy4 hy5 hy6 hy7
      have f4 := D4.out.frozen
      have c4 := D4.out.cell
      have l4 := D4.out.lt
      go_wp2_with fail
      go_roundw
      case rel => exact ⟨k + 1, ⟨⟨nxl, nxh⟩, ⟨nyl, nyh⟩, ⟨nul, nuh⟩, nvl, nvh⟩, by omega, by omega, by go_num, Hi, Lib.hid (blk_set2 (blk_set2 (blk_set2 (blk_set2 D4.out rfl) rfl) rfl) rfl), Lib.hid (blk_far2 (blk_far2 (blk_far2 (blk_far2 D2.out (by omega)) (by omega)) (by omega)) (by omega)), ext_set2 (ext_set2 (ext_set2 (ext_set2 DE (by omega)) (by omega)) (by omega)) (by omega)⟩
      case measure => simp [intOf]; omega
    · have hkm : k = n := by omega
      have hi := HI.out
      rw [hkm, hln.out, List.drop_length] at hi
      have hoT : o = T := hi
      subst hoT
      clear hi HI HT
      have c2 := B2.out.cell
      have f2 := B2.out.frozen
      obtain ⟨⟨oxl, oxh⟩, ⟨oyl, oyh⟩, ⟨oul, ouh⟩, ovl, ovh⟩ := o
      dsimp only at c4
      (try dsimp only); repeat' (first | go_values | go_skip | go_guarded | go_step | go_upon | go_in | go_at_K)
      refine name_world _ ?_
      intro W9 hW9
      have Q8 : Blk W9 (w.heap.size) 38 #[.int .i64 oxl, .int .i64 oxh, .int .i64 oyl, .int .i64 oyh, .int .i64 oul, .int .i64 ouh, .int .i64 ovl, .int .i64 ovh] := by rw [hW9]; exact blk_set2 (blk_set2 (blk_set2 (blk_set2 B2.out rfl) rfl) rfl) rfl
      have QE : Ext w W9 := by rw [hW9]; exact ext_set2 (ext_set2 (ext_set2 (ext_set2 hb (by omega)) (by omega)) (by omega)) (by omega)
      clear hW9
      have c_Q8 := Q8.cell; have f_Q8 := Q8.frozen; have l_Q8 := Q8.lt
      (try simp only [Exit.inBlock, Exit.then]); apply bodyPost_ret; (focus (simp only [results, Tryz.results34]; go_simp; try rfl)); rfl
      exact ⟨rfl, QE⟩
theorem rHull_c (A : Option Addr) (n c : Nat) (l : List Bx) (w : World) (hl : Bxs w A n l) :
    Calls Tryz.prog 34 #[.slice A n c] w fun e w' => e = .returned (.tuple #[bxV (hullM l), .bool (hullOk l)]) ∧ Ext w w' := by
  cases l with
  | nil =>
    have h0 := hl.len
    simp at h0
    subst h0
    exact rHull_zero A c w
  | cons x r =>
    by_cases hE : setErr (x :: r) = 0
    · have hok : hullOk (x :: r) = true := by unfold hullOk; rw [hE]; simp
      rw [hullM, hok, if_pos rfl]
      exact rHull_yes A n c x r w hl hE
    · have hok : hullOk (x :: r) = false := by unfold hullOk; simp [hE]
      rw [hullM, hok, if_neg (by decide)]
      exact rHull_no A n c (x :: r) w hl hE (by have := hl.len; simp at this; omega)
end Go.Proofs.YtfniicgoeljmdaaGreat
