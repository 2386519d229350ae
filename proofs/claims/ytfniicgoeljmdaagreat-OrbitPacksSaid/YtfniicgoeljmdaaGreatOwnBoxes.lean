/- States in sets, sets in sets, and the least box that contains boxes: the program. No condition. The least box that contains all boxes of a set: the program. No condition. Sets of boxes that the call itself makes; sets that are equal; copies. No condition. -/
import Derived.Test.YtfniicgoeljmdaaGreatBoxSet
import Derived.Scope
import Derived.LoopN
namespace Go.Proofs.YtfniicgoeljmdaaGreat
open Go.RowKit


set_option maxHeartbeats 400000 in
theorem idxBx_c (A : Option Addr) (n c : Nat) (l : List Bx) (fid : Nat) (cap : Array Value) (p : Bx → Bool) (w : World) (hl : Bxs w A n l)
    (hcall : ∀ (xs : Array Value) (W : World), (callFunc fid xs).run Tryz.prog W = .ok (.enter fid xs) W)
    (hf : ∀ x ∈ l, ∀ W, Ext w W → Calls Tryz.prog fid (#[.agg #[.int .i64 x.x.lo, .int .i64 x.x.hi, .int .i64 x.y.lo, .int .i64 x.y.hi, .int .i64 x.u.lo, .int .i64 x.u.hi, .int .i64 x.v.lo, .int .i64 x.v.hi]] ++ cap) W fun e w' => e = .returned (.bool (p x)) ∧ Ext W w') :
    Calls Tryz.prog 134 #[.slice A n c, .func (.func fid) #[] cap] w fun e w' => e = .returned (.int .i64 (idxFrom p l 0)) ∧ Ext w w' := by
  have hn := hl.le
  have Hf := Lib.hid hf
  clear hf
  go_enter Tryz.func134, Tryz.ntmps134
  go_wp2_with fail
  go_loopw [8] (fun i wr => ∃ k : Nat, k ≤ n ∧ i = .int .i64 k ∧ Hid (idxFrom p (l.drop k) k = idxFrom p l 0) ∧ Ext w wr) (fun i _ => n - (intOf i).toNat)
  case atStart => exact ⟨0, Nat.zero_le _, rfl, rfl, Ext.refl _⟩
  case round =>
    obtain ⟨k, hk, rfl, HI, hb⟩ := hrel
    by_cases hlt : k < n
    · obtain ⟨b, off, x, rfl, HD, hxm, hx⟩ := hl.one hlt
      obtain ⟨hx0, hx1, hx2, hx3, hx4, hx5, hx6, hx7⟩ := bxAt.ext hb hx
      go_wp2_with fail
      refine (Hf.out x hxm _ hb).mono ?_
      rintro e w1 ⟨rfl, h1⟩
      cases hp : p x
      · go_wp2_with fail
        go_roundw
        case rel => exact ⟨k + 1, by omega, by go_num, by have := HI.out; rw [HD.out] at this; simpa [Hid, idxFrom, hp] using this, hb.trans h1⟩
        case measure => simp [intOf]; omega
      · go_wp2_with fail
        go_ret
        exact ⟨ret_i (by have := HI.out; rw [HD.out] at this; simpa [idxFrom, hp] using this), hb.trans h1⟩
    · have : k = l.length := by have := hl.len; omega
      subst this
      go_wp2_with fail
      go_ret
      refine ⟨ret_i ?_, hb⟩
      have := HI.out
      simpa [idxFrom] using this

set_option maxHeartbeats 400000 in
theorem hasBx_c (A : Option Addr) (n c : Nat) (l : List Bx) (fid : Nat) (cap : Array Value) (p : Bx → Bool) (w : World) (hl : Bxs w A n l)
    (hcall : ∀ (xs : Array Value) (W : World), (callFunc fid xs).run Tryz.prog W = .ok (.enter fid xs) W)
    (hf : ∀ x ∈ l, ∀ W, Ext w W → Calls Tryz.prog fid (#[.agg #[.int .i64 x.x.lo, .int .i64 x.x.hi, .int .i64 x.y.lo, .int .i64 x.y.hi, .int .i64 x.u.lo, .int .i64 x.u.hi, .int .i64 x.v.lo, .int .i64 x.v.hi]] ++ cap) W fun e w' => e = .returned (.bool (p x)) ∧ Ext W w') :
    Calls Tryz.prog 98 #[.slice A n c, .func (.func fid) #[] cap] w fun e w' => e = .returned (.bool (hasP p l)) ∧ Ext w w' := by
  have Hf := Lib.hid hf
  clear hf
  go_enter Tryz.func98, Tryz.ntmps98
  go_wp2_with fail
  refine (idxBx_c A n c l fid cap p w hl hcall Hf.out).mono ?_
  rintro e w1 ⟨rfl, h1⟩
  go_wp2_with fail
  go_ret
  exact ⟨ret_b (by simp [hasP]), h1⟩


def inSet (l : List Bx) (s : St) : Bool := l.any fun b => holdsB b s
set_option maxHeartbeats 1000000 in
theorem oIn_c (A : Option Addr) (n c : Nat) (l : List Bx) (s : St) (w : World) (hl : Bxs w A n l) :
    Calls Tryz.prog 42 #[.slice A n c, .agg #[.int .i64 s.x, .int .i64 s.y, .int .i64 s.u, .int .i64 s.v]] w fun e w' => e = .returned (.bool (inSet l s)) ∧ Ext w w' := by
  have HF : Hid (∀ (b : Nat) W, Blk W b 30 #[.int .i64 s.x, .int .i64 s.y, .int .i64 s.u, .int .i64 s.v] → ∀ x : Bx, Calls Tryz.prog 99 (#[.agg #[.int .i64 x.x.lo, .int .i64 x.x.hi, .int .i64 x.y.lo, .int .i64 x.y.hi, .int .i64 x.u.lo, .int .i64 x.u.hi, .int .i64 x.v.lo, .int .i64 x.v.hi]] ++ #[.pointer (some ⟨b, 0, none⟩)]) W fun e w' => e = .returned (.bool (holdsB x s)) ∧ Ext W w') := by
    intro b W hB x
    have HH := Lib.hid fun W => oHolds_c x s W
    generalize holdsB x s = R at *
    obtain ⟨⟨xl, xh⟩, ⟨yl, yh⟩, ⟨ul, uh⟩, vl, vh⟩ := x
    obtain ⟨sx, sy, su, sv⟩ := s
    dsimp only at HH hB ⊢
    have cb := hB.cell
    have lb := hB.lt
    clear hB
    show Calls _ _ #[_, _] _ _
    go_enter Tryz.func99, Tryz.ntmps99
    go_wp2_with fail
    refine (HH.out _).mono ?_
    rintro e w1 ⟨rfl, h1⟩
    obtain ⟨hc_w1, hf_w1, hz_w1⟩ := bcell h1; (try simp only [szA] at hz_w1); (try have := wz0 w w1); (try have := wz1 w w1); (try have := wz2 w w1); (try have := wz3 w w1); (try have := wz4 w w1)
    go_wp2_with fail
    go_ret
    exact ⟨rfl, ext_by⟩
  have HI := Lib.hid fun (b : Nat) W (hB : Blk W b 30 #[.int .i64 s.x, .int .i64 s.y, .int .i64 s.u, .int .i64 s.v]) (hW : Ext w W) =>
    hasBx_c A n c l 99 #[.pointer (some ⟨b, 0, none⟩)] (fun x => holdsB x s) W (Bxs.ext hW hl) Tryz.call99 (fun x _ W2 hW2 => HF.out b W2 (hB.ext hW2) x)
  have hany : hasP (fun x => holdsB x s) l = inSet l s := hasP_eq _ _
  rw [hany] at HI
  generalize inSet l s = R at *
  obtain ⟨sx, sy, su, sv⟩ := s
  dsimp only at HI ⊢
  clear HF hl hany
  go_enter Tryz.func42, Tryz.ntmps42
  go_wp2_with fail
  refine (HI.out _ _ (Blk.newAt rfl) ext_by).mono ?_
  rintro e w1 ⟨rfl, h1⟩
  go_wp2_with fail
  go_ret
  exact ⟨rfl, ext_by⟩
def withinS (a b : List Bx) : Bool := a.all fun x => b.any fun y => insideB x y
set_option maxRecDepth 20000 in
set_option maxHeartbeats 4000000 in
theorem oWithinSet_c (A B : Option Addr) (n m c d : Nat) (l r : List Bx) (w : World) (hl : Bxs w A n l) (hr : Bxs w B m r) :
    Calls Tryz.prog 32 #[.slice A n c, .slice B m d] w fun e w' => e = .returned (.bool (withinS l r)) ∧ Ext w w' := by
  have hn := hl.le
  have hm := hr.le
  have hln := Lib.hid hl.len
  have hrn := Lib.hid hr.len
  go_enter Tryz.func32, Tryz.ntmps32
  go_wp2_with fail
  refine wp_scope_straight ?_
  go_wp2_with fail
  apply wp_label
  go_wp2_with fail
  go_loopw [11] (fun i wr => ∃ k : Nat, k ≤ n ∧ i = .int .i64 k ∧ Hid (withinS (l.drop k) r = withinS l r) ∧ Ext w wr) (fun i _ => n - (intOf i).toNat)
  case atStart => exact ⟨0, Nat.zero_le _, rfl, rfl, Ext.refl _⟩
  case round =>
    obtain ⟨k, hk, rfl, HI, hb⟩ := hrel
    by_cases hlt : k < n
    · obtain ⟨b, off, x, rfl, HD, hxm, hx⟩ := hl.one hlt
      obtain ⟨hx0, hx1, hx2, hx3, hx4, hx5, hx6, hx7⟩ := bxAt.ext hb hx
      have hbl : b < wr.heap.size := World.block_lt_of_cell? wr _ hx0
      have hi := HI.out
      rw [HD.out] at hi
      have hi2 : ((r.any fun y => insideB x y) && withinS (l.drop (k + 1)) r) = withinS l r := hi
      have Hi := Lib.hid hi2
      have HIN := Lib.hid fun y W => oInside_c x y W
      clear hi hi2 hxm hx
      obtain ⟨wo, rfl⟩ : ∃ wo : World, wo = wr := ⟨_, rfl⟩
      obtain ⟨IN, hIN⟩ : ∃ f : Bx → Bool, f = fun y => insideB x y := ⟨_, rfl⟩
      have HIN2 : Hid (∀ (y : Bx) W, Calls Tryz.prog 91 #[.agg #[.int .i64 x.x.lo, .int .i64 x.x.hi, .int .i64 x.y.lo, .int .i64 x.y.hi, .int .i64 x.u.lo, .int .i64 x.u.hi, .int .i64 x.v.lo, .int .i64 x.v.hi], .agg #[.int .i64 y.x.lo, .int .i64 y.x.hi, .int .i64 y.y.lo, .int .i64 y.y.hi, .int .i64 y.u.lo, .int .i64 y.u.hi, .int .i64 y.v.lo, .int .i64 y.v.hi]] W fun e w' => e = .returned (.bool (IN y)) ∧ Ext W w') := by rw [hIN]; exact HIN.out
      have Hi' : Hid ((r.any IN && withinS (l.drop (k + 1)) r) = withinS l r) := by rw [hIN]; exact Hi.out
      clear HIN Hi hIN
      obtain ⟨⟨xl, xh⟩, ⟨yl, yh⟩, ⟨ul, uh⟩, vl, vh⟩ := x
      dsimp only at hx0 hx1 hx2 hx3 hx4 hx5 hx6 hx7 HIN2
      go_wp2_with fail
      refine name_world _ ?_
      intro W1 hW1
      obtain ⟨b6, h6⟩ : ∃ b, b = wo.heap.size := ⟨_, rfl⟩
      have B6 : Blk W1 b6 38 #[.int .i64 xl, .int .i64 xh, .int .i64 yl, .int .i64 yh, .int .i64 ul, .int .i64 uh, .int .i64 vl, .int .i64 vh] := by rw [hW1]; exact Blk.newAt h6
      have E6 : Ext w W1 := by rw [hW1]; exact hb.alloc _
      rw [← h6]
      clear hW1 h6 hx0 hx1 hx2 hx3 hx4 hx5 hx6 hx7 hbl
      go_loopw [17] (fun j wr2 => ∃ q : Nat, q ≤ m ∧ j = .int .i64 q ∧ Hid ((r.drop q).any IN = r.any IN) ∧ Ext W1 wr2) (fun j _ => m - (intOf j).toNat)
      case atStart => exact ⟨0, Nat.zero_le _, rfl, rfl, Ext.refl _⟩
      case round =>
        obtain ⟨q, hq, rfl, HJ, hb2⟩ := hrel
        have c6 := (B6.ext hb2).cell
        have l6 := (B6.ext hb2).lt
        have l61 : b6 < wr.heap.size + 1 := by omega
        by_cases hqm : q < m
        · obtain ⟨b', off', y, rfl, HD2, hym, hy⟩ := hr.one hqm
          obtain ⟨hy0, hy1, hy2, hy3, hy4, hy5, hy6, hy7⟩ := bxAt.ext (E6.trans hb2) hy
          have hbl2 : b' < wr.heap.size := World.block_lt_of_cell? wr _ hy0
          have HC := Lib.hid fun W => HIN2.out y W
          have hj := HJ.out
          rw [HD2.out, List.any_cons] at hj
          have Hj := Lib.hid hj
          clear hj hym hy
          generalize IN y = v at *
          obtain ⟨⟨zxl, zxh⟩, ⟨zyl, zyh⟩, ⟨zul, zuh⟩, zvl, zvh⟩ := y
          dsimp only at hy0 hy1 hy2 hy3 hy4 hy5 hy6 hy7 HC
          cases v
          · go_wp2_with fail
            refine (HC.out _).mono ?_
            rintro e w7 ⟨rfl, h7⟩
            obtain ⟨hc_w7, hf_w7, hz_w7⟩ := bcell h7; (try simp only [szA] at hz_w7); (try have := wz0 w w7); (try have := wz1 w w7); (try have := wz2 w w7); (try have := wz3 w w7); (try have := wz4 w w7)
            go_wp2_with fail
            go_roundw
            case rel => exact ⟨q + 1, by omega, by go_num, Lib.hid (by have := Hj.out; rwa [Bool.false_or] at this), ext_by⟩
            case measure => simp [intOf]; omega
          · have hany : r.any IN = true := by have := Hj.out; rw [Bool.true_or] at this; exact this.symm
            have Hn : Hid (withinS (l.drop (k + 1)) r = withinS l r) := by have := Hi'.out; rwa [hany, Bool.true_and] at this
            clear hany
            go_wp2_with fail
            refine (HC.out _).mono ?_
            rintro e w7 ⟨rfl, h7⟩
            obtain ⟨hc_w7, hf_w7, hz_w7⟩ := bcell h7; (try simp only [szA] at hz_w7); (try have := wz0 w w7); (try have := wz1 w w7); (try have := wz2 w w7); (try have := wz3 w w7); (try have := wz4 w w7)
            go_wp2_with fail
            go_roundw
            case rel => exact ⟨k + 1, by omega, by go_num, Hn, ext_by⟩
            case measure => simp [intOf]; omega
        · have hqm' : q = m := by omega
          have hany : r.any IN = false := by
            have := HJ.out
            rw [hqm', hrn.out, List.drop_length] at this
            exact this.symm
          have Hn : Hid (withinS l r = false) := by have := Hi'.out; rw [hany, Bool.false_and] at this; exact this.symm
          clear hany
          go_wp2_with fail
          simp only [Exit.noGoto]
          go_ret
          exact ⟨ret_b Hn.out.symm, ext_by⟩
    · have hkn : k = n := by omega
      have hi := HI.out
      rw [hkn, hln.out, List.drop_length] at hi
      have Hi := Lib.hid hi
      clear hi
      go_wp2_with fail
      simp only [Exit.noGoto]
      go_ret
      exact ⟨ret_b Hi.out, ext_by⟩
def hullS (a b : Sp) : Sp := ⟨min a.lo b.lo, max a.hi b.hi⟩
def hullB (a b : Bx) : Bx := ⟨hullS a.x b.x, hullS a.y b.y, hullS a.u b.u, hullS a.v b.v⟩
set_option maxHeartbeats 1000000 in
theorem oBox_c (xl xh yl yh ul uh vl vh : Int) (w : World) :
    Calls Tryz.prog 130 #[.agg #[.int .i64 xl, .int .i64 xh, .int .i64 yl, .int .i64 yh, .int .i64 ul, .int .i64 uh, .int .i64 vl, .int .i64 vh]] w fun e w' => e = .returned (.agg #[.int .i64 xl, .int .i64 xh, .int .i64 yl, .int .i64 yh, .int .i64 ul, .int .i64 uh, .int .i64 vl, .int .i64 vh]) ∧ Ext w w' := by
  go_enter Tryz.func130, Tryz.ntmps130
  go_wp2_with fail
  (try simp only [Exit.inBlock, Exit.then]); apply bodyPost_ret; (focus (simp only [results, Tryz.results130]; go_simp; try rfl)); rfl
  exact ⟨rfl, ext_by⟩
set_option maxRecDepth 20000 in
set_option maxHeartbeats 8000000 in
theorem oHullTwo_c (a b : Bx) (w : World) :
    Calls Tryz.prog 92 #[.agg #[.int .i64 a.x.lo, .int .i64 a.x.hi, .int .i64 a.y.lo, .int .i64 a.y.hi, .int .i64 a.u.lo, .int .i64 a.u.hi, .int .i64 a.v.lo, .int .i64 a.v.hi], .agg #[.int .i64 b.x.lo, .int .i64 b.x.hi, .int .i64 b.y.lo, .int .i64 b.y.hi, .int .i64 b.u.lo, .int .i64 b.u.hi, .int .i64 b.v.lo, .int .i64 b.v.hi]] w fun e w' => e = .returned (bxV (hullB a b)) ∧ Ext w w' := by
  obtain ⟨⟨xl, xh⟩, ⟨yl, yh⟩, ⟨ul, uh⟩, vl, vh⟩ := a
  obtain ⟨⟨zxl, zxh⟩, ⟨zyl, zyh⟩, ⟨zul, zuh⟩, zvl, zvh⟩ := b
  unfold hullB hullS
  dsimp only
  go_enter Tryz.func92, Tryz.ntmps92
  go_wp2_with fail
  refine wp_region_gen [0, 1, 2, 3] [4, 5] [6, 7] (Ext _) (Ext _) (Stable.ext _) (fun _ h => h) (Ext.drew (Ext.refl _)) (by kernel_rfl) (by kernel_rfl) ?_; simp only [pick, List.drop_succ_cons, List.drop_zero]; (repeat' (first | (refine bl_off (by rfl) ?_; simp only [putX]) | (apply bl_op; rfl; (intro w1 h1; obtain ⟨hc, hf, hz⟩ := bcell h1; go_simp; (try go_bits); (first | exact ⟨rfl, Ext.refl _⟩ | (apply gives_call; go_at_call 88; exact oOf_c _ _ _ _ _ _ _ _ _) | (go_invoke; go_simp; apply gives_call; go_at_call 88; exact oOf_c _ _ _ _ _ _ _ _ _))); simp only [putX]) | (refine bl_split rfl rfl (fun hx => ?_) (fun hx => ?_) <;> simp only [hx]))); refine bl_nil ?_; refine ag_two (e1 := 119) (e2 := 119) (zs1 := #[.int .i64 0, .int .i64 0, .int .i64 0, .int .i64 0, .int .i64 0, .int .i64 0, .int .i64 0, .int .i64 0]) (zs2 := #[.int .i64 0, .int .i64 0, .int .i64 0, .int .i64 0, .int .i64 0, .int .i64 0, .int .i64 0, .int .i64 0]) (Stable.ext _) (fun _ h => h) (by decide) rfl rfl (fun u v => rfl) (fun v w => ⟨by simp only [opAt]; go_simp, by simp only [opAt]; go_simp⟩) (fun v w => ⟨by simp only [opAt]; go_simp, by simp only [opAt]; go_simp⟩) (fun b5 b6 hb_b5 hb_b6 hne_b5 => ?_); (try simp only [opAt]); (try simp only [Act.put, List.setIfInBounds_toArray]); refine tg_skip (fun w => Ext _ w ∧ Blk w b5 119 #[.int .i64 xl, .int .i64 xh, .int .i64 yl, .int .i64 yh, .int .i64 ul, .int .i64 uh, .int .i64 vl, .int .i64 vh] ∧ Blk w b6 119 #[.int .i64 0, .int .i64 0, .int .i64 0, .int .i64 0, .int .i64 0, .int .i64 0, .int .i64 0, .int .i64 0]) rfl rfl ((Stable.ext _).and ((Stable.blk _ _ _).and (Stable.blk _ _ _))) (fun _ h => h.1) (fun wx hx => ?_) ?_; (focus (obtain ⟨hx, hB1, hB2⟩ := hx; have hcB := hB1.cell; have hfB := hB1.frozen; have hlB := hB1.lt; exact ⟨putC b5 wx 0 [.int .i64 xl, .int .i64 xh, .int .i64 yl, .int .i64 yh, .int .i64 ul, .int .i64 uh, .int .i64 vl, .int .i64 vh], (by simp only [putC, Nat.reduceAdd]; go_simp; try rfl), Ext.putC (by omega) _ 0 hx, (Blk.putAt hB1 rfl), (Blk.putFar (by omega) _ 0 hB2)⟩)); refine tg_skip (fun w => Ext _ w ∧ Blk w b5 119 #[.int .i64 xl, .int .i64 xh, .int .i64 yl, .int .i64 yh, .int .i64 ul, .int .i64 uh, .int .i64 vl, .int .i64 vh] ∧ Blk w b6 119 #[.int .i64 zxl, .int .i64 zxh, .int .i64 zyl, .int .i64 zyh, .int .i64 zul, .int .i64 zuh, .int .i64 zvl, .int .i64 zvh]) rfl rfl ((Stable.ext _).and ((Stable.blk _ _ _).and (Stable.blk _ _ _))) (fun _ h => h.1) (fun wx hx => ?_) ?_; (focus (obtain ⟨hx, hB1, hB2⟩ := hx; have hcB := hB2.cell; have hfB := hB2.frozen; have hlB := hB2.lt; exact ⟨putC b6 wx 0 [.int .i64 zxl, .int .i64 zxh, .int .i64 zyl, .int .i64 zyh, .int .i64 zul, .int .i64 zuh, .int .i64 zvl, .int .i64 zvh], (by simp only [putC, Nat.reduceAdd]; go_simp; try rfl), Ext.putC (by omega) _ 0 hx, (Blk.putFar (by omega) _ 0 hB1), (Blk.putAt hB2 rfl)⟩)); refine tg_nil ?_; rintro w2 ⟨hE_w2, hB_b5, hB_b6⟩
  simp only [Array.getD_eq_getD_getElem?, List.getElem?_toArray, List.getElem?_cons_succ, List.getElem?_cons_zero, Option.getD_some, List.setIfInBounds_toArray, List.set_cons_zero, List.set_cons_succ]
  have HC4 : Hid (Blk w2 (w.heap.size + 1 + 1) 38 #[.int .i64 0, .int .i64 0, .int .i64 0, .int .i64 0, .int .i64 0, .int .i64 0, .int .i64 0, .int .i64 0]) := Lib.hid ((Blk.newAt (by simp)).ext hE_w2)
  have HCE : Hid (Ext w w2) := Lib.hid ext_by
  have HC5 := Lib.hid hB_b5
  have HC6 := Lib.hid hB_b6
  simp only [World.size_alloc] at hb_b5 hb_b6
  have o1 : w.heap.size + 1 + 1 < b5 := by omega
  have o2 : w.heap.size + 1 + 1 < b6 := by omega
  clear hE_w2 hB_b5 hB_b6 hb_b5 hb_b6
  go_wp2_with fail
  refine wp_loop_rounds 5 ?_
  rw [rounds_succ]
  have c5 := HC5.out.cell
  have c6 := HC6.out.cell
  have l5 := HC5.out.lt
  have l6 := HC6.out.lt
  go_wp2_with fail
  refine wp_region_forced 21 (Ext _) (Stable.ext _) (Ext.drew (Ext.refl _)) (by kernel_rfl) (by kernel_rfl) ?_
  simp only [List.take_succ_cons, List.take_zero, List.drop_succ_cons, List.drop_zero]
  (repeat' (first | (refine bl_off (by rfl) ?_; simp only [putX]) | (apply bl_op; rfl; (intro w1 h1; obtain ⟨hc, hf, hz⟩ := bcell h1; go_simp; (try go_bits); (first | exact ⟨rfl, Ext.refl _⟩)); simp only [putX]) | (refine bl_split rfl rfl (fun hx => ?_) (fun hx => ?_) <;> simp only [hx])))
  refine bl_nil ?_
  intro W0 hW
  have HD5 := Lib.hid (HC5.out.ext hW)
  have HD6 := Lib.hid (HC6.out.ext hW)
  have HD4 := Lib.hid (HC4.out.ext hW)
  have HDE := Lib.hid (HCE.out.trans hW)
  clear c5 c6 l5 l6 hW HC5 HC6 HC4 HCE
  have c5 := HD5.out.cell
  have f5 := HD5.out.frozen
  have l5 := HD5.out.lt
  go_wp2_with fail
  refine name_world _ ?_
  intro V0 hV
  have HC5 : Hid (Blk V0 b5 119 #[.int .i64 (min xl zxl), .int .i64 (max xh zxh), .int .i64 yl, .int .i64 yh, .int .i64 ul, .int .i64 uh, .int .i64 vl, .int .i64 vh]) := by rw [hV]; exact blk_set2 HD5.out rfl
  have HC6 : Hid (Blk V0 b6 119 #[.int .i64 zxl, .int .i64 zxh, .int .i64 zyl, .int .i64 zyh, .int .i64 zul, .int .i64 zuh, .int .i64 zvl, .int .i64 zvh]) := by rw [hV]; exact blk_far2 HD6.out (by omega)
  have HC4 : Hid (Blk V0 (w.heap.size + 1 + 1) 38 #[.int .i64 0, .int .i64 0, .int .i64 0, .int .i64 0, .int .i64 0, .int .i64 0, .int .i64 0, .int .i64 0]) := by rw [hV]; exact blk_far2 HD4.out (by omega)
  have HCE : Hid (Ext w V0) := by rw [hV]; exact ext_set2 HDE.out (by omega)
  clear hV HD5 HD6 HD4 HDE c5 f5 l5
  rw [rounds_succ]
  have c5 := HC5.out.cell
  have c6 := HC6.out.cell
  have l5 := HC5.out.lt
  have l6 := HC6.out.lt
  go_wp2_with fail
  refine wp_region_forced 21 (Ext _) (Stable.ext _) (Ext.drew (Ext.refl _)) (by kernel_rfl) (by kernel_rfl) ?_
  simp only [List.take_succ_cons, List.take_zero, List.drop_succ_cons, List.drop_zero]
  (repeat' (first | (refine bl_off (by rfl) ?_; simp only [putX]) | (apply bl_op; rfl; (intro w1 h1; obtain ⟨hc, hf, hz⟩ := bcell h1; go_simp; (try go_bits); (first | exact ⟨rfl, Ext.refl _⟩)); simp only [putX]) | (refine bl_split rfl rfl (fun hx => ?_) (fun hx => ?_) <;> simp only [hx])))
  refine bl_nil ?_
  intro W1 hW
  have HD5 := Lib.hid (HC5.out.ext hW)
  have HD6 := Lib.hid (HC6.out.ext hW)
  have HD4 := Lib.hid (HC4.out.ext hW)
  have HDE := Lib.hid (HCE.out.trans hW)
  clear c5 c6 l5 l6 hW HC5 HC6 HC4 HCE
  have c5 := HD5.out.cell
  have f5 := HD5.out.frozen
  have l5 := HD5.out.lt
  go_wp2_with fail
  refine name_world _ ?_
  intro V1 hV
  have HC5 : Hid (Blk V1 b5 119 #[.int .i64 (min xl zxl), .int .i64 (max xh zxh), .int .i64 (min yl zyl), .int .i64 (max yh zyh), .int .i64 ul, .int .i64 uh, .int .i64 vl, .int .i64 vh]) := by rw [hV]; exact blk_set2 HD5.out rfl
  have HC6 : Hid (Blk V1 b6 119 #[.int .i64 zxl, .int .i64 zxh, .int .i64 zyl, .int .i64 zyh, .int .i64 zul, .int .i64 zuh, .int .i64 zvl, .int .i64 zvh]) := by rw [hV]; exact blk_far2 HD6.out (by omega)
  have HC4 : Hid (Blk V1 (w.heap.size + 1 + 1) 38 #[.int .i64 0, .int .i64 0, .int .i64 0, .int .i64 0, .int .i64 0, .int .i64 0, .int .i64 0, .int .i64 0]) := by rw [hV]; exact blk_far2 HD4.out (by omega)
  have HCE : Hid (Ext w V1) := by rw [hV]; exact ext_set2 HDE.out (by omega)
  clear hV HD5 HD6 HD4 HDE c5 f5 l5
  rw [rounds_succ]
  have c5 := HC5.out.cell
  have c6 := HC6.out.cell
  have l5 := HC5.out.lt
  have l6 := HC6.out.lt
  go_wp2_with fail
  refine wp_region_forced 21 (Ext _) (Stable.ext _) (Ext.drew (Ext.refl _)) (by kernel_rfl) (by kernel_rfl) ?_
  simp only [List.take_succ_cons, List.take_zero, List.drop_succ_cons, List.drop_zero]
  (repeat' (first | (refine bl_off (by rfl) ?_; simp only [putX]) | (apply bl_op; rfl; (intro w1 h1; obtain ⟨hc, hf, hz⟩ := bcell h1; go_simp; (try go_bits); (first | exact ⟨rfl, Ext.refl _⟩)); simp only [putX]) | (refine bl_split rfl rfl (fun hx => ?_) (fun hx => ?_) <;> simp only [hx])))
  refine bl_nil ?_
  intro W2 hW
  have HD5 := Lib.hid (HC5.out.ext hW)
  have HD6 := Lib.hid (HC6.out.ext hW)
  have HD4 := Lib.hid (HC4.out.ext hW)
  have HDE := Lib.hid (HCE.out.trans hW)
  clear c5 c6 l5 l6 hW HC5 HC6 HC4 HCE
  have c5 := HD5.out.cell
  have f5 := HD5.out.frozen
  have l5 := HD5.out.lt
  go_wp2_with fail
  refine name_world _ ?_
  intro V2 hV
  have HC5 : Hid (Blk V2 b5 119 #[.int .i64 (min xl zxl), .int .i64 (max xh zxh), .int .i64 (min yl zyl), .int .i64 (max yh zyh), .int .i64 (min ul zul), .int .i64 (max uh zuh), .int .i64 vl, .int .i64 vh]) := by rw [hV]; exact blk_set2 HD5.out rfl
  have HC6 : Hid (Blk V2 b6 119 #[.int .i64 zxl, .int .i64 zxh, .int .i64 zyl, .int .i64 zyh, .int .i64 zul, .int .i64 zuh, .int .i64 zvl, .int .i64 zvh]) := by rw [hV]; exact blk_far2 HD6.out (by omega)
  have HC4 : Hid (Blk V2 (w.heap.size + 1 + 1) 38 #[.int .i64 0, .int .i64 0, .int .i64 0, .int .i64 0, .int .i64 0, .int .i64 0, .int .i64 0, .int .i64 0]) := by rw [hV]; exact blk_far2 HD4.out (by omega)
  have HCE : Hid (Ext w V2) := by rw [hV]; exact ext_set2 HDE.out (by omega)
  clear hV HD5 HD6 HD4 HDE c5 f5 l5
  rw [rounds_succ]
  have c5 := HC5.out.cell
  have c6 := HC6.out.cell
  have l5 := HC5.out.lt
  have l6 := HC6.out.lt
  go_wp2_with fail
  refine wp_region_forced 21 (Ext _) (Stable.ext _) (Ext.drew (Ext.refl _)) (by kernel_rfl) (by kernel_rfl) ?_
  simp only [List.take_succ_cons, List.take_zero, List.drop_succ_cons, List.drop_zero]
  (repeat' (first | (refine bl_off (by rfl) ?_; simp only [putX]) | (apply bl_op; rfl; (intro w1 h1; obtain ⟨hc, hf, hz⟩ := bcell h1; go_simp; (try go_bits); (first | exact ⟨rfl, Ext.refl _⟩)); simp only [putX]) | (refine bl_split rfl rfl (fun hx => ?_) (fun hx => ?_) <;> simp only [hx])))
  refine bl_nil ?_
  intro W3 hW
  have HD5 := Lib.hid (HC5.out.ext hW)
  have HD6 := Lib.hid (HC6.out.ext hW)
  have HD4 := Lib.hid (HC4.out.ext hW)
  have HDE := Lib.hid (HCE.out.trans hW)
  clear c5 c6 l5 l6 hW HC5 HC6 HC4 HCE
  have c5 := HD5.out.cell
  have f5 := HD5.out.frozen
  have l5 := HD5.out.lt
  go_wp2_with fail
  refine name_world _ ?_
  intro V3 hV
  have HC5 : Hid (Blk V3 b5 119 #[.int .i64 (min xl zxl), .int .i64 (max xh zxh), .int .i64 (min yl zyl), .int .i64 (max yh zyh), .int .i64 (min ul zul), .int .i64 (max uh zuh), .int .i64 (min vl zvl), .int .i64 (max vh zvh)]) := by rw [hV]; exact blk_set2 HD5.out rfl
  have HC6 : Hid (Blk V3 b6 119 #[.int .i64 zxl, .int .i64 zxh, .int .i64 zyl, .int .i64 zyh, .int .i64 zul, .int .i64 zuh, .int .i64 zvl, .int .i64 zvh]) := by rw [hV]; exact blk_far2 HD6.out (by omega)
  have HC4 : Hid (Blk V3 (w.heap.size + 1 + 1) 38 #[.int .i64 0, .int .i64 0, .int .i64 0, .int .i64 0, .int .i64 0, .int .i64 0, .int .i64 0, .int .i64 0]) := by rw [hV]; exact blk_far2 HD4.out (by omega)
  have HCE : Hid (Ext w V3) := by rw [hV]; exact ext_set2 HDE.out (by omega)
  clear hV HD5 HD6 HD4 HDE c5 f5 l5
  rw [rounds_succ]
  have c5 := HC5.out.cell
  have l5 := HC5.out.lt
  go_wp2_with fail
  refine (oBox_c _ _ _ _ _ _ _ _ _).mono ?_
  rintro e w9 ⟨rfl, h9⟩
  have G4 := HC4.out.ext h9
  have GE := HCE.out.trans h9
  clear h9 c5 l5
  have c_G4 := G4.cell; have f_G4 := G4.frozen; have l_G4 := G4.lt
  go_wp2_with fail
  (try simp only [Exit.inBlock, Exit.then]); apply bodyPost_ret; (focus (simp only [results, Tryz.results92]; go_simp; try rfl)); rfl
  exact ⟨rfl, ext_set2 (ext_set2 (ext_set2 (ext_set2 GE (by omega)) (by omega)) (by omega)) (by omega)⟩
end Go.Proofs.YtfniicgoeljmdaaGreat

namespace Go.Proofs.YtfniicgoeljmdaaGreat
open Go.RowKit

theorem sl_tail {α : Type} {sz : Nat} {R : α → Nat → Nat → Prop} {b off n : Nat} {x : α} {l : List α} (h : SlR sz R (some ⟨b, off, none⟩) (n + 1) (x :: l)) : SlR sz R (some ⟨b, off + sz, none⟩) n l := by
  have h1 := h.len
  have h2 := h.le
  refine ⟨by simpa using h1, by omega, ?_⟩
  obtain ⟨b', off', hA, hc⟩ := h.at_ (by simp)
  injection hA with hA
  injection hA with e1 e2 e3
  subst e1 e2
  refine .inr ⟨b, off + sz, rfl, fun k hk => ?_⟩
  have := hc (k + 1) (by simpa using hk)
  rw [Nat.succ_mul] at this
  rw [show off + sz + k * sz = off + (k * sz + sz) by omega]
  exact this
def zeroB : Bx := ⟨⟨0, 0⟩, ⟨0, 0⟩, ⟨0, 0⟩, ⟨0, 0⟩⟩
def hullL : List Bx → Bx
  | [] => zeroB
  | b :: r => r.foldl hullB b
def hullOk (l : List Bx) : Bool := decide (l ≠ []) && decide (setErr l = 0)
def hullM (l : List Bx) : Bx := if hullOk l then hullL l else zeroB
set_option maxRecDepth 20000 in
set_option maxHeartbeats 1000000 in
theorem oHull_no (A : Option Addr) (n c : Nat) (l : List Bx) (w : World) (hl : Bxs w A n l) (hE : setErr l ≠ 0) (h0 : 0 < n) :
    Calls Tryz.prog 33 #[.slice A n c] w fun e w' => e = .returned (.tuple #[.agg #[.int .i64 0, .int .i64 0, .int .i64 0, .int .i64 0, .int .i64 0, .int .i64 0, .int .i64 0, .int .i64 0], .bool false]) ∧ Ext w w' := by
  have hn := hl.le
  have HC := Lib.hid fun W (hW : Ext w W) => oCheckSet_c A n c l W (Bxs.ext hW hl)
  obtain ⟨E, hEe⟩ : ∃ E, setErr l = E := ⟨_, rfl⟩
  rw [hEe] at HC hE
  have hne : (E != 0) = true := by simpa using hE
  have hnz : ((n : Int) == 0) = false := by simp; omega
  clear hE hl hEe
  go_enter Tryz.func33, Tryz.ntmps33
  go_wp2_with fail
  refine (HC.out _ ext_by).mono ?_
  rintro e w1 ⟨rfl, h1⟩
  have G2 : Blk w1 w.heap.size 38 #[.int .i64 0, .int .i64 0, .int .i64 0, .int .i64 0, .int .i64 0, .int .i64 0, .int .i64 0, .int .i64 0] := (Blk.newAt rfl).ext h1
  have GE : Ext w w1 := ext_by
  clear h1
  have f_G2 := G2.frozen
  have l_G2 := G2.lt
  have c_G2 := G2.cell
  (try dsimp only); repeat' (first | go_values | go_skip | go_guarded | go_step | go_upon | go_in | go_at_K)
  refine name_world _ ?_
  intro W9 hW9
  have Q2 : Blk W9 w.heap.size 38 #[.int .i64 0, .int .i64 0, .int .i64 0, .int .i64 0, .int .i64 0, .int .i64 0, .int .i64 0, .int .i64 0] := by rw [hW9]; exact blk_set2 (blk_set2 (blk_set2 (blk_set2 G2 rfl) rfl) rfl) rfl
  have QE : Ext w W9 := by rw [hW9]; exact ext_set2 (ext_set2 (ext_set2 (ext_set2 GE (by omega)) (by omega)) (by omega)) (by omega)
  clear hW9
  have c_Q2 := Q2.cell; have f_Q2 := Q2.frozen; have l_Q2 := Q2.lt
  (try simp only [Exit.inBlock, Exit.then]); apply bodyPost_ret; (focus (simp only [results, Tryz.results33]; go_simp; try rfl)); rfl
  exact ⟨rfl, QE⟩
set_option maxRecDepth 20000 in
set_option maxHeartbeats 1000000 in
theorem oHull_zero (A : Option Addr) (c : Nat) (w : World) :
    Calls Tryz.prog 33 #[.slice A 0 c] w fun e w' => e = .returned (.tuple #[.agg #[.int .i64 0, .int .i64 0, .int .i64 0, .int .i64 0, .int .i64 0, .int .i64 0, .int .i64 0, .int .i64 0], .bool false]) ∧ Ext w w' := by
  go_enter Tryz.func33, Tryz.ntmps33
  go_wp2_with fail
  (try simp only [Exit.inBlock, Exit.then]); apply bodyPost_ret; (focus (simp only [results, Tryz.results33]; go_simp; try rfl)); rfl
  exact ⟨rfl, ext_by⟩
set_option maxRecDepth 20000 in
set_option maxHeartbeats 4000000 in
theorem oHull_yes (A : Option Addr) (m c : Nat) (x : Bx) (r : List Bx) (w : World) (hl : Bxs w A (m + 1) (x :: r)) (hcap : m + 1 ≤ c) (hE : setErr (x :: r) = 0) :
    Calls Tryz.prog 33 #[.slice A (m + 1) c] w fun e w' => e = .returned (.tuple #[bxV (r.foldl hullB x), .bool true]) ∧ Ext w w' := by
  have hn := hl.le
  have hln := Lib.hid hl.len
  have HC := Lib.hid fun W (hW : Ext w W) => oCheckSet_c A (m + 1) c (x :: r) W (Bxs.ext hW hl)
  rw [hE] at HC
  obtain ⟨b, off, hA, hc0⟩ := hl.at_ (by simp)
  subst hA
  have hx := hc0 0 (by simp)
  rw [Nat.zero_mul, Nat.add_zero] at hx
  have Ht := Lib.hid (sl_tail hl)
  have Hx : Hid (bxAt w x b off) := hx
  obtain ⟨T, hT⟩ : ∃ T, r.foldl hullB x = T := ⟨_, rfl⟩
  rw [hT]
  have HT := Lib.hid hT
  have hbl : b < w.heap.size := World.block_lt_of_cell? w _ hx.1
  clear hT hE hl hc0 hx
  obtain ⟨hx0, hx1, hx2, hx3, hx4, hx5, hx6, hx7⟩ := Hx.out
  obtain ⟨⟨xl, xh⟩, ⟨yl, yh⟩, ⟨ul, uh⟩, vl, vh⟩ := x
  dsimp only at hx0 hx1 hx2 hx3 hx4 hx5 hx6 hx7
  have hlen : m = r.length := by have := hln.out; simpa using this
  have HLE := Lib.hid hlen
  clear hln
  rcases (show (c = 1 ∧ m = 0) ∨ 2 ≤ c by omega) with ⟨rfl, rfl⟩ | hc2
  · have hr : r = [] := List.eq_nil_of_length_eq_zero (by omega)
    subst hr
    have hT := HT.out
    rw [List.foldl_nil] at hT
    subst hT
    clear hlen HT HLE
    go_enter Tryz.func33, Tryz.ntmps33
    go_wp2_with fail
    refine (HC.out _ ext_by).mono ?_
    rintro e w1 ⟨rfl, h1⟩
    obtain ⟨hc_w1, hf_w1, hz_w1⟩ := bcell h1; (try simp only [szA] at hz_w1); (try have := wz0 w w1); (try have := wz1 w w1); (try have := wz2 w w1); (try have := wz3 w w1); (try have := wz4 w w1)
    go_wp2_with fail
    have G2 : Blk w1 w.heap.size 38 #[.int .i64 0, .int .i64 0, .int .i64 0, .int .i64 0, .int .i64 0, .int .i64 0, .int .i64 0, .int .i64 0] := (Blk.newAt rfl).ext h1
    refine name_world _ ?_
    intro W1 hW1
    obtain ⟨b4, h4⟩ : ∃ b, b = w1.heap.size := ⟨_, rfl⟩
    have B4 : Blk W1 b4 38 #[.int .i64 xl, .int .i64 xh, .int .i64 yl, .int .i64 yh, .int .i64 ul, .int .i64 uh, .int .i64 vl, .int .i64 vh] := by rw [hW1]; exact Blk.newAt h4
    have B2 : Blk W1 w.heap.size 38 #[.int .i64 0, .int .i64 0, .int .i64 0, .int .i64 0, .int .i64 0, .int .i64 0, .int .i64 0, .int .i64 0] := by rw [hW1]; exact G2.alloc _
    have E1 : Ext w W1 := by rw [hW1]; exact ext_by
    rw [← h4]
    have o1 : w.heap.size < b4 := by omega
    clear hW1 h4 G2 h1 hc_w1 hf_w1 hz_w1 hx0 hx1 hx2 hx3 hx4 hx5 hx6 hx7
    go_loopw [22] (fun i wr => i = .int .i64 0 ∧ wr = W1) (fun _ _ => 0)
    case atStart => exact ⟨rfl, rfl⟩
    case round =>
      obtain ⟨rfl, rfl⟩ := hrel
      have c4 := B4.cell
      have c2 := B2.cell
      have f2 := B2.frozen
      have l4 := B4.lt
      have l2 := B2.lt
      (try dsimp only); repeat' (first | go_values | go_skip | go_guarded | go_step | go_upon | go_in | go_at_K)
      refine name_world _ ?_
      intro W9 hW9
      have Q2 : Blk W9 w.heap.size 38 #[.int .i64 xl, .int .i64 xh, .int .i64 yl, .int .i64 yh, .int .i64 ul, .int .i64 uh, .int .i64 vl, .int .i64 vh] := by rw [hW9]; exact blk_set2 (blk_set2 (blk_set2 (blk_set2 B2 rfl) rfl) rfl) rfl
      have QE : Ext w W9 := by rw [hW9]; exact ext_set2 (ext_set2 (ext_set2 (ext_set2 E1 (by omega)) (by omega)) (by omega)) (by omega)
      clear hW9
      have c_Q2 := Q2.cell; have f_Q2 := Q2.frozen; have l_Q2 := Q2.lt
      (try simp only [Exit.inBlock, Exit.then]); apply bodyPost_ret; (focus (simp only [results, Tryz.results33]; go_simp; try rfl)); rfl
      exact ⟨rfl, QE⟩
  · clear hlen
    have hmz : ((m : Int) + 1 == 0) = false := by simp; omega
    have hz1 : ¬ c = 1 := by omega
    have hz2 : (c == 1) = false := by simp; omega
    have hz3 : ¬ c - 1 = 0 := by omega
    have hz4 : (c - 1 == 0) = false := by simp; omega
    go_enter Tryz.func33, Tryz.ntmps33
    go_wp2_with fail
    refine (HC.out _ ext_by).mono ?_
    rintro e w1 ⟨rfl, h1⟩
    have G2 : Blk w1 w.heap.size 38 #[.int .i64 0, .int .i64 0, .int .i64 0, .int .i64 0, .int .i64 0, .int .i64 0, .int .i64 0, .int .i64 0] := (Blk.newAt rfl).ext h1
    obtain ⟨hc_w1, hf_w1, hz_w1⟩ := bcell h1; (try simp only [szA] at hz_w1); (try have := wz0 w w1); (try have := wz1 w w1); (try have := wz2 w w1); (try have := wz3 w w1); (try have := wz4 w w1)
    go_wp2_with fail
    refine name_world _ ?_
    intro W1 hW1
    obtain ⟨b4, h4⟩ : ∃ b, b = w1.heap.size := ⟨_, rfl⟩
    have B4 : Blk W1 b4 38 #[.int .i64 xl, .int .i64 xh, .int .i64 yl, .int .i64 yh, .int .i64 ul, .int .i64 uh, .int .i64 vl, .int .i64 vh] := by rw [hW1]; exact Blk.newAt h4
    have B2 : Blk W1 w.heap.size 38 #[.int .i64 0, .int .i64 0, .int .i64 0, .int .i64 0, .int .i64 0, .int .i64 0, .int .i64 0, .int .i64 0] := by rw [hW1]; exact G2.alloc _
    have E1 : Ext w W1 := by rw [hW1]; exact ext_by
    rw [← h4]
    have o1 : w.heap.size < b4 := by omega
    clear hW1 h4 G2 h1 hc_w1 hf_w1 hz_w1 hx0 hx1 hx2 hx3 hx4 hx5 hx6 hx7
    go_loopw [22] (fun i wr => ∃ (k : Nat) (o : Bx), k ≤ m ∧ i = .int .i64 k ∧ Hid ((r.drop k).foldl hullB o = T) ∧ Hid (Blk wr b4 38 #[.int .i64 o.x.lo, .int .i64 o.x.hi, .int .i64 o.y.lo, .int .i64 o.y.hi, .int .i64 o.u.lo, .int .i64 o.u.hi, .int .i64 o.v.lo, .int .i64 o.v.hi]) ∧ Hid (Blk wr w.heap.size 38 #[.int .i64 0, .int .i64 0, .int .i64 0, .int .i64 0, .int .i64 0, .int .i64 0, .int .i64 0, .int .i64 0]) ∧ Ext w wr) (fun i _ => m - (intOf i).toNat)
    case atStart => exact ⟨0, ⟨⟨xl, xh⟩, ⟨yl, yh⟩, ⟨ul, uh⟩, vl, vh⟩, Nat.zero_le _, rfl, HT.out, B4, B2, E1⟩
    case round =>
      clear B4 B2 E1
      obtain ⟨k, o, hk, rfl, HI, B4, B2, hb⟩ := hrel
      have c4 := B4.out.cell
      have f4 := B4.out.frozen
      have l4 := B4.out.lt
      have l2 := B2.out.lt
      by_cases hlt : k < m
      · obtain ⟨b', off', y, hA, HD, hym, hy⟩ := (Ht.out).one hlt
        injection hA with hA
        injection hA with e1 e2 e3
        subst e1 e2
        obtain ⟨hy0, hy1, hy2, hy3, hy4, hy5, hy6, hy7⟩ := bxAt.ext hb hy
        have hbl2 : b < wr.heap.size := World.block_lt_of_cell? wr _ hy0
        have HH := Lib.hid fun W => oHullTwo_c o y W
        have hi := HI.out
        rw [HD.out, List.foldl_cons] at hi
        generalize hullB o y = N at *
        have Hi := Lib.hid hi
        clear hi hym hy
        obtain ⟨⟨zxl, zxh⟩, ⟨zyl, zyh⟩, ⟨zul, zuh⟩, zvl, zvh⟩ := y
        obtain ⟨⟨oxl, oxh⟩, ⟨oyl, oyh⟩, ⟨oul, ouh⟩, ovl, ovh⟩ := o
        obtain ⟨⟨nxl, nxh⟩, ⟨nyl, nyh⟩, ⟨nul, nuh⟩, nvl, nvh⟩ := N
        dsimp only at hy0 hy1 hy2 hy3 hy4 hy5 hy6 hy7 HH B4 c4
        go_wp2_with fail
        refine (HH.out _).mono ?_
        rintro e w3 ⟨rfl, h3⟩
        have e3 : Ext wr w3 := ext_by
        have D4 := Lib.hid (B4.out.ext e3)
        have D2 := Lib.hid (B2.out.ext e3)
        have DE := hb.trans e3
        clear h3 e3 c4 f4 l4 B4 B2 hy0 hy1 hy2 hy3 hy4 hy5 hy6 hy7
        have f4 := D4.out.frozen
        have c4 := D4.out.cell
        have l4 := D4.out.lt
        go_wp2_with fail
        go_roundw
        case rel => exact ⟨k + 1, ⟨⟨nxl, nxh⟩, ⟨nyl, nyh⟩, ⟨nul, nuh⟩, nvl, nvh⟩, by omega, by go_num, Hi, Lib.hid (blk_set2 (blk_set2 (blk_set2 (blk_set2 D4.out rfl) rfl) rfl) rfl), Lib.hid (blk_far2 (blk_far2 (blk_far2 (blk_far2 D2.out (by omega)) (by omega)) (by omega)) (by omega)), ext_set2 (ext_set2 (ext_set2 (ext_set2 DE (by omega)) (by omega)) (by omega)) (by omega)⟩
        case measure => simp [intOf]; omega
      · have hkm : k = m := by omega
        have hi := HI.out
        rw [hkm, HLE.out, List.drop_length] at hi
        have hoT : o = T := hi
        subst hoT
        clear hi HI HT
        have c2 := B2.out.cell
        have f2 := B2.out.frozen
        obtain ⟨⟨oxl, oxh⟩, ⟨oyl, oyh⟩, ⟨oul, ouh⟩, ovl, ovh⟩ := o
        dsimp only at c4
        (try dsimp only); repeat' (first | go_values | go_skip | go_guarded | go_step | go_upon | go_in | go_at_K)
        refine name_world _ ?_
        intro W9 hW9
        have Q2 : Blk W9 w.heap.size 38 #[.int .i64 oxl, .int .i64 oxh, .int .i64 oyl, .int .i64 oyh, .int .i64 oul, .int .i64 ouh, .int .i64 ovl, .int .i64 ovh] := by rw [hW9]; exact blk_set2 (blk_set2 (blk_set2 (blk_set2 B2.out rfl) rfl) rfl) rfl
        have QE : Ext w W9 := by rw [hW9]; exact ext_set2 (ext_set2 (ext_set2 (ext_set2 hb (by omega)) (by omega)) (by omega)) (by omega)
        clear hW9
        have c_Q2 := Q2.cell; have f_Q2 := Q2.frozen; have l_Q2 := Q2.lt
        (try simp only [Exit.inBlock, Exit.then]); apply bodyPost_ret; (focus (simp only [results, Tryz.results33]; go_simp; try rfl)); rfl
        exact ⟨rfl, QE⟩
theorem oHull_c (A : Option Addr) (n c : Nat) (l : List Bx) (w : World) (hl : Bxs w A n l) (hcap : n ≤ c) :
    Calls Tryz.prog 33 #[.slice A n c] w fun e w' => e = .returned (.tuple #[bxV (hullM l), .bool (hullOk l)]) ∧ Ext w w' := by
  cases l with
  | nil =>
    have h0 := hl.len
    simp at h0
    subst h0
    exact oHull_zero A c w
  | cons x r =>
    obtain ⟨m, rfl⟩ : ∃ m, n = m + 1 := ⟨n - 1, by have := hl.len; simp at this; omega⟩
    by_cases hE : setErr (x :: r) = 0
    · have hok : hullOk (x :: r) = true := by unfold hullOk; rw [hE]; simp
      rw [hullM, hok, if_pos rfl]
      exact oHull_yes A m c x r w hl hcap hE
    · have hok : hullOk (x :: r) = false := by unfold hullOk; simp [hE]
      rw [hullM, hok, if_neg (by decide)]
      exact oHull_no A (m + 1) c (x :: r) w hl hE (by omega)
end Go.Proofs.YtfniicgoeljmdaaGreat

namespace Go.Proofs.YtfniicgoeljmdaaGreat
open Go.RowKit

theorem info_box : (Tryz.prog.info? 38).map (fun i => (i.zero, i.size, i.bytes)) = some (some (.agg #[.int .i64 0, .int .i64 0, .int .i64 0, .int .i64 0, .int .i64 0, .int .i64 0, .int .i64 0, .int .i64 0]), 8, 64) := by kernel_rfl
theorem box_len (x : Bx) : (bxC x).length = 8 := rfl
theorem box_news (w : World) (x : Bx) (b o : Nat) (h : bxAt w x b o) : ∀ i u, (bxC x)[i]? = some u → w.cell? ⟨b, o + i, none⟩ = some u
  | 0, _, hu => by rw [← hu]; exact h.1
  | 1, _, hu => by rw [← hu]; exact h.2.1
  | 2, _, hu => by rw [← hu]; exact h.2.2.1
  | 3, _, hu => by rw [← hu]; exact h.2.2.2.1
  | 4, _, hu => by rw [← hu]; exact h.2.2.2.2.1
  | 5, _, hu => by rw [← hu]; exact h.2.2.2.2.2.1
  | 6, _, hu => by rw [← hu]; exact h.2.2.2.2.2.2.1
  | 7, _, hu => by rw [← hu]; exact h.2.2.2.2.2.2.2
theorem box_one : ∀ x : Bx, ∀ u ∈ bxC x, u.oneCell' = true := by
  intro x u hu
  simp only [bxC, List.mem_cons, List.not_mem_nil, or_false] at hu
  rcases hu with rfl | rfl | rfl | rfl | rfl | rfl | rfl | rfl <;> rfl

def OwnBxs (base : Nat) (w : World) (v : Value) (l : List Bx) : Prop := w.ownsRow base 38 8 v l.length (l.flatMap bxC)
theorem OwnBxs.nil (base : Nat) (w : World) : OwnBxs base w (.slice none 0 0) [] := World.ownsRow_nil _ _ _ _
theorem OwnBxs.ext {base : Nat} {w w' : World} {v : Value} {l : List Bx} (h : OwnBxs base w v l) (e : Ext w w') : OwnBxs base w' v l := own_ext_keep h e
theorem OwnBxs.sl {base : Nat} {w : World} {v : Value} {l : List Bx} (h : OwnBxs base w v l) : ∃ A c, v = .slice A l.length c ∧ Bxs w A l.length l := own_sl box_len (bx_read w) h
theorem OwnBxs.mono {base base' : Nat} {w : World} {v : Value} {l : List Bx} (h : OwnBxs base w v l) (hb : base' ≤ base) : OwnBxs base' w v l := own_mono h hb
theorem OwnBxs.ofApp {base : Nat} {w : World} {v : Value} {l r : List Bx} {n : Nat} (hn : n = r.length) (h : w.ownsRow base 38 8 v (l.length + n) (l.flatMap bxC ++ r.flatMap bxC)) : OwnBxs base w v (l ++ r) := by
  subst hn
  unfold OwnBxs
  rw [List.length_append, List.flatMap_append]
  exact h
theorem OwnBxs.cap {base : Nat} {w : World} {v : Value} {l : List Bx} (h : OwnBxs base w v l) : ∃ A c, v = .slice A l.length c ∧ Bxs w A l.length l ∧ l.length ≤ c := by
  obtain ⟨A, c, rfl, hs⟩ := h.sl
  refine ⟨A, c, rfl, hs, ?_⟩
  rcases h.2 with ⟨h1, h2⟩ | ⟨g, cap, cur, h1, _, _, h3, _⟩
  · rw [h2]; exact Nat.zero_le _
  · injection h1 with _ _ h4; omega

set_option maxRecDepth 4000 in
set_option maxHeartbeats 1000000 in
theorem SameBoxes_c (A : Option Addr) (n c : Nat) (B : Option Addr) (m d : Nat) (l : List Bx) (w : World) (hl : Bxs w A n l) (hm : Bxs w B m l) :
    Calls Tryz.prog 27 #[.slice A n c, .slice B m d] w fun e w' => e = .returned (.bool true) ∧ Ext w w' := by
  have hn := hl.le
  obtain rfl : m = n := by rw [hl.len, hm.len]
  go_enter Tryz.func27, Tryz.ntmps27
  go_wp2_with fail
  go_loopw [5] (fun i wr => ∃ k : Nat, k ≤ m ∧ i = .int .i64 k ∧ Ext w wr) (fun i _ => m - (intOf i).toNat)
  case atStart => exact ⟨0, Nat.zero_le _, rfl, Ext.refl _⟩
  case round =>
    obtain ⟨k, hk, rfl, hb⟩ := hrel
    obtain ⟨hcb, hfb, hzb⟩ := bcell hb
    by_cases hlt : k < m
    · obtain ⟨b, off, x, rfl, HD, hxm, hx⟩ := hl.one hlt
      obtain ⟨b', off', y, rfl, HD', hym, hy⟩ := hm.one hlt
      obtain rfl : x = y := by
        have := HD.out.symm.trans HD'.out
        injection this
      obtain ⟨hx0, hx1, hx2, hx3, hx4, hx5, hx6, hx7⟩ := bxAt.ext hb hx
      obtain ⟨hy0, hy1, hy2, hy3, hy4, hy5, hy6, hy7⟩ := bxAt.ext hb hy
      have hbl : b < wr.heap.size := World.block_lt_of_cell? wr _ hx0
      have hbl' : b' < wr.heap.size := World.block_lt_of_cell? wr _ hy0
      clear hl hm hx hy hxm hym HD HD'
      obtain ⟨⟨xl, xh⟩, ⟨yl, yh⟩, ⟨ul, uh⟩, vl, vh⟩ := x
      dsimp only at hx0 hx1 hx2 hx3 hx4 hx5 hx6 hx7 hy0 hy1 hy2 hy3 hy4 hy5 hy6 hy7
      go_wp2_with fail
      refine wp_region_text (by kernel_rfl) (by kernel_rfl) ?_
      (repeat' (first | (refine bl_off (by rfl) ?_; simp only [putX]) | (apply bl_op; rfl; (intro w1 h1; obtain ⟨hc, hf, hz⟩ := bcell h1; go_simp; (try go_bits); (first | exact ⟨rfl, Ext.refl _⟩)); simp only [putX]) | (refine bl_split rfl rfl (fun hx => ?_) (fun hx => ?_) <;> simp only [hx])))
      refine bl_nil ?_
      intro w4 h4
      obtain ⟨hc_w4, hf_w4, hz_w4⟩ := bcell h4; (try simp only [szA] at hz_w4); (try have := wz0 w w4); (try have := wz1 w w4); (try have := wz2 w w4); (try have := wz3 w w4); (try have := wz4 w w4)
      go_wp2_with fail
      go_roundw
      case rel => exact ⟨k + 1, by omega, by go_num, ext_by⟩
      case measure => simp [intOf]; omega
    · have : k = m := by omega
      subst this
      clear hl hm
      go_wp2_with fail
      go_ret
      exact ⟨rfl, ext_by⟩
set_option maxRecDepth 4000 in
set_option maxHeartbeats 1000000 in
theorem OwnBoxes_c (A : Option Addr) (n c : Nat) (l : List Bx) (w : World) (hl : Bxs w A n l) (hb : n ≤ 100000) :
    Calls Tryz.prog 22 #[.slice A n c] w fun e w' => ∃ v, e = .returned v ∧ OwnBxs w.heap.size w' v l ∧ Ext w w' := by
  have HL := Lib.hid fun W (hW : Ext w W) => Bxs.ext hW hl
  have H2 := Lib.hid hl.len
  obtain ⟨ic, hic, hc0, hc1, hc2⟩ := info_parts info_box
  clear hl
  go_enter Tryz.func22, Tryz.ntmps22
  go_wp2_with (at_builtin; go_loud (refine wpList_append_sl rfl (.tmp 3) (.tmp 4) 39 rfl w.heap.size 38 ic _ 8 64 Tryz.underlying39 hic hc0 hc1 hc2 rfl (by decide) _ 0 [] rfl (own_made (by simp) (by omega)) A n c (l.flatMap bxC) rfl (by rw [flat_len box_len, ← H2.out]) (sl_news box_len (box_news _) (HL.out _ ext_by)) (flat_one box_one _) (by unfold maxLen; omega) (by omega) (by simp) ?_))
  intro v3 w3 ho3 hg3 hn3
  have e3 := grown_ext (Ext.alloc0 _ _) hg3 (by intro j hj; simp [Value.ownBlock] at hj; omega)
  have ho : OwnBxs w.heap.size w3 v3 l := by
    unfold OwnBxs
    rw [← H2.out]
    simpa using ho3
  go_wp2_with fail
  go_ret
  exact ⟨_, rfl, ho, ext_by⟩
set_option maxRecDepth 4000 in
set_option maxHeartbeats 1000000 in
theorem CloneBox_c (A : Option Addr) (n c : Nat) (l : List Bx) (w : World) (hl : Bxs w A n l) (hb : n ≤ 100000) :
    Calls Tryz.prog 76 #[.slice A n c] w fun e w' => ∃ v, e = .returned v ∧ OwnBxs w.heap.size w' v l ∧ Ext w w' := by
  have HL := Lib.hid fun W (hW : Ext w W) => Bxs.ext hW hl
  have H2 := Lib.hid hl.len
  have hnil := fun W => Lib.run_eql_slice_nil (P := Tryz.prog) W 39 38 A n c 0 0 Tryz.underlying39
  obtain ⟨ic, hic, hc0, hc1, hc2⟩ := info_parts info_box
  cases A with
  | none =>
    have h0 : n = 0 := by
      rcases hl.2.2 with h | ⟨_, _, h, _⟩
      · exact h
      · cases h
    subst h0
    have hnil : l = [] := List.eq_nil_of_length_eq_zero H2.out.symm
    subst hnil
    clear hl
    go_enter Tryz.func76, Tryz.ntmps76
    go_wp2_with fail
    go_ret
    exact ⟨_, rfl, OwnBxs.nil _ _, ext_by⟩
  | some a =>
    clear hl
    go_enter Tryz.func76, Tryz.ntmps76
    go_wp2_with (at_builtin; go_loud (refine wpList_append_sl rfl (.tmp 5) (.tmp 6) 39 rfl w.heap.size 38 ic _ 8 64 Tryz.underlying39 hic hc0 hc1 hc2 rfl (by decide) _ 0 [] rfl (own_made (by simp) (by omega)) (some a) n c (l.flatMap bxC) rfl (by rw [flat_len box_len, ← H2.out]) (sl_news box_len (box_news _) (HL.out _ ext_by)) (flat_one box_one _) (by unfold maxLen; omega) (by omega) (by simp) ?_))
    intro v3 w3 ho3 hg3 hn3
    have e3 := grown_ext (Ext.alloc0 _ _) hg3 (by intro j hj; simp [Value.ownBlock] at hj; omega)
    have ho : OwnBxs w.heap.size w3 v3 l := by
      unfold OwnBxs
      rw [← H2.out]
      simpa using ho3
    go_wp2_with fail
    go_ret
    exact ⟨_, rfl, ho, ext_by⟩
end Go.Proofs.YtfniicgoeljmdaaGreat
