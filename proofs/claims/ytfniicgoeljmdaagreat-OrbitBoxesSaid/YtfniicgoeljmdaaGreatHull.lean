/- States in sets, sets in sets, and the least box that contains boxes: the program. No condition. -/
import Derived.Test.YtfniicgoeljmdaaGreatBoxSet
import Derived.Scope
import Derived.LoopN
namespace Go.Proofs.YtfniicgoeljmdaaGreat
open Go.RowKit


set_option maxHeartbeats 400000 in
theorem idxBx_c (A : Option Addr) (n c : Nat) (l : List Bx) (fid : Nat) (cap : Array Value) (p : Bx → Bool) (w : World) (hl : Bxs w A n l)
    (hcall : ∀ (xs : Array Value) (W : World), (callFunc fid xs).run Tryz.prog W = .ok (.enter fid xs) W)
    (hf : ∀ x ∈ l, ∀ W, Ext w W → Calls Tryz.prog fid (#[.agg #[.int .i64 x.x.lo, .int .i64 x.x.hi, .int .i64 x.y.lo, .int .i64 x.y.hi, .int .i64 x.u.lo, .int .i64 x.u.hi, .int .i64 x.v.lo, .int .i64 x.v.hi]] ++ cap) W fun e w' => e = .returned (.bool (p x)) ∧ Ext W w') :
    Calls Tryz.prog 134 #[.slice A n c, .func (.func fid) #[] cap] w fun e w' => e = .returned (.int .i64 (idxFrom p l 0)) ∧ Ext w w' := by
  have hn := hl.le
  have Hf := Lib.hid hf
  clear hf
  go_enter Tryz.func134, Tryz.ntmps134
  go_wp2_with fail
  go_loopw [8] (fun i wr => ∃ k : Nat, k ≤ n ∧ i = .int .i64 k ∧ Hid (idxFrom p (l.drop k) k = idxFrom p l 0) ∧ Ext w wr) (fun i _ => n - (intOf i).toNat)
  case atStart => exact ⟨0, Nat.zero_le _, rfl, rfl, Ext.refl _⟩
  case round =>
    obtain ⟨k, hk, rfl, HI, hb⟩ := hrel
    by_cases hlt : k < n
    · obtain ⟨b, off, x, rfl, HD, hxm, hx⟩ := hl.one hlt
      obtain ⟨hx0, hx1, hx2, hx3, hx4, hx5, hx6, hx7⟩ := bxAt.ext hb hx
      go_wp2_with fail
      refine (Hf.out x hxm _ hb).mono ?_
      rintro e w1 ⟨rfl, h1⟩
      cases hp : p x
      · go_wp2_with fail
        go_roundw
        case rel => exact ⟨k + 1, by omega, by go_num, by have := HI.out; rw [HD.out] at this; simpa [Hid, idxFrom, hp] using this, hb.trans h1⟩
        case measure => simp [intOf]; omega
      · go_wp2_with fail
        go_ret
        exact ⟨ret_i (by have := HI.out; rw [HD.out] at this; simpa [idxFrom, hp] using this), hb.trans h1⟩
    · have : k = l.length := by have := hl.len; omega
      subst this
      go_wp2_with fail
      go_ret
      refine ⟨ret_i ?_, hb⟩
      have := HI.out
      simpa [idxFrom] using this

set_option maxHeartbeats 400000 in
theorem hasBx_c (A : Option Addr) (n c : Nat) (l : List Bx) (fid : Nat) (cap : Array Value) (p : Bx → Bool) (w : World) (hl : Bxs w A n l)
    (hcall : ∀ (xs : Array Value) (W : World), (callFunc fid xs).run Tryz.prog W = .ok (.enter fid xs) W)
    (hf : ∀ x ∈ l, ∀ W, Ext w W → Calls Tryz.prog fid (#[.agg #[.int .i64 x.x.lo, .int .i64 x.x.hi, .int .i64 x.y.lo, .int .i64 x.y.hi, .int .i64 x.u.lo, .int .i64 x.u.hi, .int .i64 x.v.lo, .int .i64 x.v.hi]] ++ cap) W fun e w' => e = .returned (.bool (p x)) ∧ Ext W w') :
    Calls Tryz.prog 98 #[.slice A n c, .func (.func fid) #[] cap] w fun e w' => e = .returned (.bool (hasP p l)) ∧ Ext w w' := by
  have Hf := Lib.hid hf
  clear hf
  go_enter Tryz.func98, Tryz.ntmps98
  go_wp2_with fail
  refine (idxBx_c A n c l fid cap p w hl hcall Hf.out).mono ?_
  rintro e w1 ⟨rfl, h1⟩
  go_wp2_with fail
  go_ret
  exact ⟨ret_b (by simp [hasP]), h1⟩


def inSet (l : List Bx) (s : St) : Bool := l.any fun b => holdsB b s
set_option maxHeartbeats 1000000 in
theorem oIn_c (A : Option Addr) (n c : Nat) (l : List Bx) (s : St) (w : World) (hl : Bxs w A n l) :
    Calls Tryz.prog 42 #[.slice A n c, .agg #[.int .i64 s.x, .int .i64 s.y, .int .i64 s.u, .int .i64 s.v]] w fun e w' => e = .returned (.bool (inSet l s)) ∧ Ext w w' := by
  have HF : Hid (∀ (b : Nat) W, Blk W b 30 #[.int .i64 s.x, .int .i64 s.y, .int .i64 s.u, .int .i64 s.v] → ∀ x : Bx, Calls Tryz.prog 99 (#[.agg #[.int .i64 x.x.lo, .int .i64 x.x.hi, .int .i64 x.y.lo, .int .i64 x.y.hi, .int .i64 x.u.lo, .int .i64 x.u.hi, .int .i64 x.v.lo, .int .i64 x.v.hi]] ++ #[.pointer (some ⟨b, 0, none⟩)]) W fun e w' => e = .returned (.bool (holdsB x s)) ∧ Ext W w') := by
    intro b W hB x
    have HH := Lib.hid fun W => oHolds_c x s W
    generalize holdsB x s = R at *
    obtain ⟨⟨xl, xh⟩, ⟨yl, yh⟩, ⟨ul, uh⟩, vl, vh⟩ := x
    obtain ⟨sx, sy, su, sv⟩ := s
    dsimp only at HH hB ⊢
    have cb := hB.cell
    have lb := hB.lt
    clear hB
    show Calls _ _ #[_, _] _ _
    go_enter Tryz.func99, Tryz.ntmps99
    go_wp2_with fail
    refine (HH.out _).mono ?_
    rintro e w1 ⟨rfl, h1⟩
    obtain ⟨hc_w1, hf_w1, hz_w1⟩ := bcell h1; (repeat (first | rw [World.size_alloc] at hz_w1 | rw [World.size_drew] at hz_w1 | rw [World.size_setCell] at hz_w1)); (try (have : w.heap.size < w1.heap.size := (by omega))); (try (have : w.heap.size + 1 < w1.heap.size := (by omega))); (try (have : w.heap.size + 1 + 1 < w1.heap.size := (by omega))); (try (have : w.heap.size + 1 + 1 + 1 < w1.heap.size := (by omega))); (try (have : w.heap.size + 1 + 1 + 1 + 1 < w1.heap.size := (by omega)))
    go_wp2_with fail
    go_ret
    exact ⟨rfl, by (repeat' (first | exact Ext.refl _ | assumption | apply Ext.alloc | apply Ext.drew | refine Ext.set ?_ (by dsimp only; omega) _ | refine Ext.trans ?_ (by assumption)))⟩
  have HI := Lib.hid fun (b : Nat) W (hB : Blk W b 30 #[.int .i64 s.x, .int .i64 s.y, .int .i64 s.u, .int .i64 s.v]) (hW : Ext w W) =>
    hasBx_c A n c l 99 #[.pointer (some ⟨b, 0, none⟩)] (fun x => holdsB x s) W (Bxs.ext hW hl) Tryz.call99 (fun x _ W2 hW2 => HF.out b W2 (hB.ext hW2) x)
  have hany : hasP (fun x => holdsB x s) l = inSet l s := hasP_eq _ _
  rw [hany] at HI
  generalize inSet l s = R at *
  obtain ⟨sx, sy, su, sv⟩ := s
  dsimp only at HI ⊢
  clear HF hl hany
  go_enter Tryz.func42, Tryz.ntmps42
  go_wp2_with fail
  refine (HI.out _ _ (Blk.newAt rfl) (by (repeat' (first | exact Ext.refl _ | assumption | apply Ext.alloc | apply Ext.drew | refine Ext.set ?_ (by dsimp only; omega) _ | refine Ext.trans ?_ (by assumption))))).mono ?_
  rintro e w1 ⟨rfl, h1⟩
  go_wp2_with fail
  go_ret
  exact ⟨rfl, by (repeat' (first | exact Ext.refl _ | assumption | apply Ext.alloc | apply Ext.drew | refine Ext.set ?_ (by dsimp only; omega) _ | refine Ext.trans ?_ (by assumption)))⟩
def withinS (a b : List Bx) : Bool := a.all fun x => b.any fun y => insideB x y
set_option maxRecDepth 20000 in
set_option maxHeartbeats 4000000 in
theorem oWithinSet_c (A B : Option Addr) (n m c d : Nat) (l r : List Bx) (w : World) (hl : Bxs w A n l) (hr : Bxs w B m r) :
    Calls Tryz.prog 32 #[.slice A n c, .slice B m d] w fun e w' => e = .returned (.bool (withinS l r)) ∧ Ext w w' := by
  have hn := hl.le
  have hm := hr.le
  have hln := Lib.hid hl.len
  have hrn := Lib.hid hr.len
  go_enter Tryz.func32, Tryz.ntmps32
  go_wp2_with fail
  refine wp_scope_straight ?_
  go_wp2_with fail
  apply wp_label
  go_wp2_with fail
  go_loopw [11] (fun i wr => ∃ k : Nat, k ≤ n ∧ i = .int .i64 k ∧ Hid (withinS (l.drop k) r = withinS l r) ∧ Ext w wr) (fun i _ => n - (intOf i).toNat)
  case atStart => exact ⟨0, Nat.zero_le _, rfl, rfl, Ext.refl _⟩
  case round =>
    obtain ⟨k, hk, rfl, HI, hb⟩ := hrel
    by_cases hlt : k < n
    · obtain ⟨b, off, x, rfl, HD, hxm, hx⟩ := hl.one hlt
      obtain ⟨hx0, hx1, hx2, hx3, hx4, hx5, hx6, hx7⟩ := bxAt.ext hb hx
      have hbl : b < wr.heap.size := World.block_lt_of_cell? wr _ hx0
      have hi := HI.out
      rw [HD.out] at hi
      have hi2 : ((r.any fun y => insideB x y) && withinS (l.drop (k + 1)) r) = withinS l r := hi
      have Hi := Lib.hid hi2
      have HIN := Lib.hid fun y W => oInside_c x y W
      clear hi hi2 hxm hx
      obtain ⟨wo, rfl⟩ : ∃ wo : World, wo = wr := ⟨_, rfl⟩
      obtain ⟨IN, hIN⟩ : ∃ f : Bx → Bool, f = fun y => insideB x y := ⟨_, rfl⟩
      have HIN2 : Hid (∀ (y : Bx) W, Calls Tryz.prog 91 #[.agg #[.int .i64 x.x.lo, .int .i64 x.x.hi, .int .i64 x.y.lo, .int .i64 x.y.hi, .int .i64 x.u.lo, .int .i64 x.u.hi, .int .i64 x.v.lo, .int .i64 x.v.hi], .agg #[.int .i64 y.x.lo, .int .i64 y.x.hi, .int .i64 y.y.lo, .int .i64 y.y.hi, .int .i64 y.u.lo, .int .i64 y.u.hi, .int .i64 y.v.lo, .int .i64 y.v.hi]] W fun e w' => e = .returned (.bool (IN y)) ∧ Ext W w') := by rw [hIN]; exact HIN.out
      have Hi' : Hid ((r.any IN && withinS (l.drop (k + 1)) r) = withinS l r) := by rw [hIN]; exact Hi.out
      clear HIN Hi hIN
      obtain ⟨⟨xl, xh⟩, ⟨yl, yh⟩, ⟨ul, uh⟩, vl, vh⟩ := x
      dsimp only at hx0 hx1 hx2 hx3 hx4 hx5 hx6 hx7 HIN2
      go_wp2_with fail
      refine name_world _ ?_
      intro W1 hW1
      obtain ⟨b6, h6⟩ : ∃ b, b = wo.heap.size := ⟨_, rfl⟩
      have B6 : Blk W1 b6 38 #[.int .i64 xl, .int .i64 xh, .int .i64 yl, .int .i64 yh, .int .i64 ul, .int .i64 uh, .int .i64 vl, .int .i64 vh] := by rw [hW1]; exact Blk.newAt h6
      have E6 : Ext w W1 := by rw [hW1]; exact hb.alloc _
      rw [← h6]
      clear hW1 h6 hx0 hx1 hx2 hx3 hx4 hx5 hx6 hx7 hbl
      go_loopw [17] (fun j wr2 => ∃ q : Nat, q ≤ m ∧ j = .int .i64 q ∧ Hid ((r.drop q).any IN = r.any IN) ∧ Ext W1 wr2) (fun j _ => m - (intOf j).toNat)
      case atStart => exact ⟨0, Nat.zero_le _, rfl, rfl, Ext.refl _⟩
      case round =>
        obtain ⟨q, hq, rfl, HJ, hb2⟩ := hrel
        have c6 := (B6.ext hb2).cell
        have l6 := (B6.ext hb2).lt
        have l61 : b6 < wr.heap.size + 1 := by omega
        by_cases hqm : q < m
        · obtain ⟨b', off', y, rfl, HD2, hym, hy⟩ := hr.one hqm
          obtain ⟨hy0, hy1, hy2, hy3, hy4, hy5, hy6, hy7⟩ := bxAt.ext (E6.trans hb2) hy
          have hbl2 : b' < wr.heap.size := World.block_lt_of_cell? wr _ hy0
          have HC := Lib.hid fun W => HIN2.out y W
          have hj := HJ.out
          rw [HD2.out, List.any_cons] at hj
          have Hj := Lib.hid hj
          clear hj hym hy
          generalize IN y = v at *
          obtain ⟨⟨zxl, zxh⟩, ⟨zyl, zyh⟩, ⟨zul, zuh⟩, zvl, zvh⟩ := y
          dsimp only at hy0 hy1 hy2 hy3 hy4 hy5 hy6 hy7 HC
          cases v
          · go_wp2_with fail
            refine (HC.out _).mono ?_
            rintro e w7 ⟨rfl, h7⟩
            obtain ⟨hc_w7, hf_w7, hz_w7⟩ := bcell h7; (repeat (first | rw [World.size_alloc] at hz_w7 | rw [World.size_drew] at hz_w7 | rw [World.size_setCell] at hz_w7)); (try (have : w.heap.size < w7.heap.size := (by omega))); (try (have : w.heap.size + 1 < w7.heap.size := (by omega))); (try (have : w.heap.size + 1 + 1 < w7.heap.size := (by omega))); (try (have : w.heap.size + 1 + 1 + 1 < w7.heap.size := (by omega))); (try (have : w.heap.size + 1 + 1 + 1 + 1 < w7.heap.size := (by omega)))
            go_wp2_with fail
            go_roundw
            case rel => exact ⟨q + 1, by omega, by go_num, Lib.hid (by have := Hj.out; rwa [Bool.false_or] at this), by (repeat' (first | exact Ext.refl _ | assumption | apply Ext.alloc | apply Ext.drew | refine Ext.set ?_ (by dsimp only; omega) _ | refine Ext.trans ?_ (by assumption)))⟩
            case measure => simp [intOf]; omega
          · have hany : r.any IN = true := by have := Hj.out; rw [Bool.true_or] at this; exact this.symm
            have Hn : Hid (withinS (l.drop (k + 1)) r = withinS l r) := by have := Hi'.out; rwa [hany, Bool.true_and] at this
            clear hany
            go_wp2_with fail
            refine (HC.out _).mono ?_
            rintro e w7 ⟨rfl, h7⟩
            obtain ⟨hc_w7, hf_w7, hz_w7⟩ := bcell h7; (repeat (first | rw [World.size_alloc] at hz_w7 | rw [World.size_drew] at hz_w7 | rw [World.size_setCell] at hz_w7)); (try (have : w.heap.size < w7.heap.size := (by omega))); (try (have : w.heap.size + 1 < w7.heap.size := (by omega))); (try (have : w.heap.size + 1 + 1 < w7.heap.size := (by omega))); (try (have : w.heap.size + 1 + 1 + 1 < w7.heap.size := (by omega))); (try (have : w.heap.size + 1 + 1 + 1 + 1 < w7.heap.size := (by omega)))
            go_wp2_with fail
            go_roundw
            case rel => exact ⟨k + 1, by omega, by go_num, Hn, by (repeat' (first | exact Ext.refl _ | assumption | apply Ext.alloc | apply Ext.drew | refine Ext.set ?_ (by dsimp only; omega) _ | refine Ext.trans ?_ (by assumption)))⟩
            case measure => simp [intOf]; omega
        · have hqm' : q = m := by omega
          have hany : r.any IN = false := by
            have := HJ.out
            rw [hqm', hrn.out, List.drop_length] at this
            exact this.symm
          have Hn : Hid (withinS l r = false) := by have := Hi'.out; rw [hany, Bool.false_and] at this; exact this.symm
          clear hany
          go_wp2_with fail
          simp only [Exit.noGoto]
          go_ret
          exact ⟨ret_b Hn.out.symm, by (repeat' (first | exact Ext.refl _ | assumption | apply Ext.alloc | apply Ext.drew | refine Ext.set ?_ (by dsimp only; omega) _ | refine Ext.trans ?_ (by assumption)))⟩
    · have hkn : k = n := by omega
      have hi := HI.out
      rw [hkn, hln.out, List.drop_length] at hi
      have Hi := Lib.hid hi
      clear hi
      go_wp2_with fail
      simp only [Exit.noGoto]
      go_ret
      exact ⟨ret_b Hi.out, by (repeat' (first | exact Ext.refl _ | assumption | apply Ext.alloc | apply Ext.drew | refine Ext.set ?_ (by dsimp only; omega) _ | refine Ext.trans ?_ (by assumption)))⟩
def hullS (a b : Sp) : Sp := ⟨min a.lo b.lo, max a.hi b.hi⟩
def hullB (a b : Bx) : Bx := ⟨hullS a.x b.x, hullS a.y b.y, hullS a.u b.u, hullS a.v b.v⟩
set_option maxHeartbeats 1000000 in
theorem oBox_c (xl xh yl yh ul uh vl vh : Int) (w : World) :
    Calls Tryz.prog 130 #[.agg #[.int .i64 xl, .int .i64 xh, .int .i64 yl, .int .i64 yh, .int .i64 ul, .int .i64 uh, .int .i64 vl, .int .i64 vh]] w fun e w' => e = .returned (.agg #[.int .i64 xl, .int .i64 xh, .int .i64 yl, .int .i64 yh, .int .i64 ul, .int .i64 uh, .int .i64 vl, .int .i64 vh]) ∧ Ext w w' := by
  go_enter Tryz.func130, Tryz.ntmps130
  go_wp2_with fail
  (try simp only [Exit.inBlock, Exit.then]); apply bodyPost_ret; (focus (simp only [results, Tryz.results130]; go_simp; try rfl)); rfl
  exact ⟨rfl, by (repeat' (first | exact Ext.refl _ | assumption | apply Ext.alloc | apply Ext.drew | refine Ext.set ?_ (by dsimp only; omega) _ | refine Ext.trans ?_ (by assumption)))⟩
set_option maxRecDepth 20000 in
set_option maxHeartbeats 8000000 in
theorem oHullTwo_c (a b : Bx) (w : World) :
    Calls Tryz.prog 92 #[.agg #[.int .i64 a.x.lo, .int .i64 a.x.hi, .int .i64 a.y.lo, .int .i64 a.y.hi, .int .i64 a.u.lo, .int .i64 a.u.hi, .int .i64 a.v.lo, .int .i64 a.v.hi], .agg #[.int .i64 b.x.lo, .int .i64 b.x.hi, .int .i64 b.y.lo, .int .i64 b.y.hi, .int .i64 b.u.lo, .int .i64 b.u.hi, .int .i64 b.v.lo, .int .i64 b.v.hi]] w fun e w' => e = .returned (bxV (hullB a b)) ∧ Ext w w' := by
  obtain ⟨⟨xl, xh⟩, ⟨yl, yh⟩, ⟨ul, uh⟩, vl, vh⟩ := a
  obtain ⟨⟨zxl, zxh⟩, ⟨zyl, zyh⟩, ⟨zul, zuh⟩, zvl, zvh⟩ := b
  unfold hullB hullS
  dsimp only
  go_enter Tryz.func92, Tryz.ntmps92
  go_wp2_with fail
  refine wp_region_gen [0, 1, 2, 3] [4, 5] [6, 7] (Ext _) (Ext _) (Stable.ext _) (fun _ h => h) (Ext.drew (Ext.refl _)) (by kernel_rfl) (by kernel_rfl) ?_; simp only [pick, List.drop_succ_cons, List.drop_zero]; (repeat' (first | (refine bl_off (by rfl) ?_; simp only [Act.put, List.setIfInBounds_toArray, List.set_cons_zero, List.set_cons_succ]) | (apply bl_op; rfl; (intro w1 h1; obtain ⟨hc, hf, hz⟩ := bcell h1; go_simp; (try go_bits); (first | exact ⟨rfl, Ext.refl _⟩ | (apply gives_call; go_at_call 88; exact oOf_c _ _ _ _ _ _ _ _ _) | (go_invoke; go_simp; apply gives_call; go_at_call 88; exact oOf_c _ _ _ _ _ _ _ _ _))); simp only [Act.put, List.setIfInBounds_toArray, List.set_cons_zero, List.set_cons_succ]) | (refine bl_split rfl rfl (fun hx => ?_) (fun hx => ?_) <;> simp only [hx]))); refine bl_nil ?_; refine ag_two (e1 := 119) (e2 := 119) (zs1 := #[.int .i64 0, .int .i64 0, .int .i64 0, .int .i64 0, .int .i64 0, .int .i64 0, .int .i64 0, .int .i64 0]) (zs2 := #[.int .i64 0, .int .i64 0, .int .i64 0, .int .i64 0, .int .i64 0, .int .i64 0, .int .i64 0, .int .i64 0]) (Stable.ext _) (fun _ h => h) (by decide) rfl rfl (fun u v => rfl) (fun v w => ⟨by simp only [opAt]; go_simp, by simp only [opAt]; go_simp⟩) (fun v w => ⟨by simp only [opAt]; go_simp, by simp only [opAt]; go_simp⟩) (fun b5 b6 hb_b5 hb_b6 hne_b5 => ?_); (try simp only [opAt]); (try simp only [Act.put, List.setIfInBounds_toArray]); refine tg_skip (fun w => Ext _ w ∧ Blk w b5 119 #[.int .i64 xl, .int .i64 xh, .int .i64 yl, .int .i64 yh, .int .i64 ul, .int .i64 uh, .int .i64 vl, .int .i64 vh] ∧ Blk w b6 119 #[.int .i64 0, .int .i64 0, .int .i64 0, .int .i64 0, .int .i64 0, .int .i64 0, .int .i64 0, .int .i64 0]) rfl rfl ((Stable.ext _).and ((Stable.blk _ _ _).and (Stable.blk _ _ _))) (fun _ h => h.1) (fun wx hx => ?_) ?_; (focus (obtain ⟨hx, hB1, hB2⟩ := hx; have hcB := hB1.cell; have hfB := hB1.frozen; have hlB := hB1.lt; refine ⟨_, (by go_simp; rfl), ?_⟩; have q0 : Blk (wx.setCell ⟨b5, 0, none⟩ (.int .i64 xl)) b5 119 #[.int .i64 xl, .int .i64 0, .int .i64 0, .int .i64 0, .int .i64 0, .int .i64 0, .int .i64 0, .int .i64 0] := hB1.set_ 0 _; have p0 : Ext _ (wx.setCell ⟨b5, 0, none⟩ (.int .i64 xl)) := Ext.set hx (by dsimp only; omega) _; have o0 := Blk.far (p := ⟨b5, 0, none⟩) hB2 (by dsimp only; omega) (.int .i64 xl); have q1 : Blk ((wx.setCell ⟨b5, 0, none⟩ (.int .i64 xl)).setCell ⟨b5, 1, none⟩ (.int .i64 xh)) b5 119 #[.int .i64 xl, .int .i64 xh, .int .i64 0, .int .i64 0, .int .i64 0, .int .i64 0, .int .i64 0, .int .i64 0] := q0.set_ 1 _; have p1 : Ext _ ((wx.setCell ⟨b5, 0, none⟩ (.int .i64 xl)).setCell ⟨b5, 1, none⟩ (.int .i64 xh)) := Ext.set p0 (by dsimp only; omega) _; have o1 := Blk.far (p := ⟨b5, 1, none⟩) o0 (by dsimp only; omega) (.int .i64 xh); have q2 : Blk (((wx.setCell ⟨b5, 0, none⟩ (.int .i64 xl)).setCell ⟨b5, 1, none⟩ (.int .i64 xh)).setCell ⟨b5, 2, none⟩ (.int .i64 yl)) b5 119 #[.int .i64 xl, .int .i64 xh, .int .i64 yl, .int .i64 0, .int .i64 0, .int .i64 0, .int .i64 0, .int .i64 0] := q1.set_ 2 _; have p2 : Ext _ (((wx.setCell ⟨b5, 0, none⟩ (.int .i64 xl)).setCell ⟨b5, 1, none⟩ (.int .i64 xh)).setCell ⟨b5, 2, none⟩ (.int .i64 yl)) := Ext.set p1 (by dsimp only; omega) _; have o2 := Blk.far (p := ⟨b5, 2, none⟩) o1 (by dsimp only; omega) (.int .i64 yl); have q3 : Blk ((((wx.setCell ⟨b5, 0, none⟩ (.int .i64 xl)).setCell ⟨b5, 1, none⟩ (.int .i64 xh)).setCell ⟨b5, 2, none⟩ (.int .i64 yl)).setCell ⟨b5, 3, none⟩ (.int .i64 yh)) b5 119 #[.int .i64 xl, .int .i64 xh, .int .i64 yl, .int .i64 yh, .int .i64 0, .int .i64 0, .int .i64 0, .int .i64 0] := q2.set_ 3 _; have p3 : Ext _ ((((wx.setCell ⟨b5, 0, none⟩ (.int .i64 xl)).setCell ⟨b5, 1, none⟩ (.int .i64 xh)).setCell ⟨b5, 2, none⟩ (.int .i64 yl)).setCell ⟨b5, 3, none⟩ (.int .i64 yh)) := Ext.set p2 (by dsimp only; omega) _; have o3 := Blk.far (p := ⟨b5, 3, none⟩) o2 (by dsimp only; omega) (.int .i64 yh); have q4 : Blk (((((wx.setCell ⟨b5, 0, none⟩ (.int .i64 xl)).setCell ⟨b5, 1, none⟩ (.int .i64 xh)).setCell ⟨b5, 2, none⟩ (.int .i64 yl)).setCell ⟨b5, 3, none⟩ (.int .i64 yh)).setCell ⟨b5, 4, none⟩ (.int .i64 ul)) b5 119 #[.int .i64 xl, .int .i64 xh, .int .i64 yl, .int .i64 yh, .int .i64 ul, .int .i64 0, .int .i64 0, .int .i64 0] := q3.set_ 4 _; have p4 : Ext _ (((((wx.setCell ⟨b5, 0, none⟩ (.int .i64 xl)).setCell ⟨b5, 1, none⟩ (.int .i64 xh)).setCell ⟨b5, 2, none⟩ (.int .i64 yl)).setCell ⟨b5, 3, none⟩ (.int .i64 yh)).setCell ⟨b5, 4, none⟩ (.int .i64 ul)) := Ext.set p3 (by dsimp only; omega) _; have o4 := Blk.far (p := ⟨b5, 4, none⟩) o3 (by dsimp only; omega) (.int .i64 ul); have q5 : Blk ((((((wx.setCell ⟨b5, 0, none⟩ (.int .i64 xl)).setCell ⟨b5, 1, none⟩ (.int .i64 xh)).setCell ⟨b5, 2, none⟩ (.int .i64 yl)).setCell ⟨b5, 3, none⟩ (.int .i64 yh)).setCell ⟨b5, 4, none⟩ (.int .i64 ul)).setCell ⟨b5, 5, none⟩ (.int .i64 uh)) b5 119 #[.int .i64 xl, .int .i64 xh, .int .i64 yl, .int .i64 yh, .int .i64 ul, .int .i64 uh, .int .i64 0, .int .i64 0] := q4.set_ 5 _; have p5 : Ext _ ((((((wx.setCell ⟨b5, 0, none⟩ (.int .i64 xl)).setCell ⟨b5, 1, none⟩ (.int .i64 xh)).setCell ⟨b5, 2, none⟩ (.int .i64 yl)).setCell ⟨b5, 3, none⟩ (.int .i64 yh)).setCell ⟨b5, 4, none⟩ (.int .i64 ul)).setCell ⟨b5, 5, none⟩ (.int .i64 uh)) := Ext.set p4 (by dsimp only; omega) _; have o5 := Blk.far (p := ⟨b5, 5, none⟩) o4 (by dsimp only; omega) (.int .i64 uh); have q6 : Blk (((((((wx.setCell ⟨b5, 0, none⟩ (.int .i64 xl)).setCell ⟨b5, 1, none⟩ (.int .i64 xh)).setCell ⟨b5, 2, none⟩ (.int .i64 yl)).setCell ⟨b5, 3, none⟩ (.int .i64 yh)).setCell ⟨b5, 4, none⟩ (.int .i64 ul)).setCell ⟨b5, 5, none⟩ (.int .i64 uh)).setCell ⟨b5, 6, none⟩ (.int .i64 vl)) b5 119 #[.int .i64 xl, .int .i64 xh, .int .i64 yl, .int .i64 yh, .int .i64 ul, .int .i64 uh, .int .i64 vl, .int .i64 0] := q5.set_ 6 _; have p6 : Ext _ (((((((wx.setCell ⟨b5, 0, none⟩ (.int .i64 xl)).setCell ⟨b5, 1, none⟩ (.int .i64 xh)).setCell ⟨b5, 2, none⟩ (.int .i64 yl)).setCell ⟨b5, 3, none⟩ (.int .i64 yh)).setCell ⟨b5, 4, none⟩ (.int .i64 ul)).setCell ⟨b5, 5, none⟩ (.int .i64 uh)).setCell ⟨b5, 6, none⟩ (.int .i64 vl)) := Ext.set p5 (by dsimp only; omega) _; have o6 := Blk.far (p := ⟨b5, 6, none⟩) o5 (by dsimp only; omega) (.int .i64 vl); have q7 : Blk ((((((((wx.setCell ⟨b5, 0, none⟩ (.int .i64 xl)).setCell ⟨b5, 1, none⟩ (.int .i64 xh)).setCell ⟨b5, 2, none⟩ (.int .i64 yl)).setCell ⟨b5, 3, none⟩ (.int .i64 yh)).setCell ⟨b5, 4, none⟩ (.int .i64 ul)).setCell ⟨b5, 5, none⟩ (.int .i64 uh)).setCell ⟨b5, 6, none⟩ (.int .i64 vl)).setCell ⟨b5, 7, none⟩ (.int .i64 vh)) b5 119 #[.int .i64 xl, .int .i64 xh, .int .i64 yl, .int .i64 yh, .int .i64 ul, .int .i64 uh, .int .i64 vl, .int .i64 vh] := q6.set_ 7 _; have p7 : Ext _ ((((((((wx.setCell ⟨b5, 0, none⟩ (.int .i64 xl)).setCell ⟨b5, 1, none⟩ (.int .i64 xh)).setCell ⟨b5, 2, none⟩ (.int .i64 yl)).setCell ⟨b5, 3, none⟩ (.int .i64 yh)).setCell ⟨b5, 4, none⟩ (.int .i64 ul)).setCell ⟨b5, 5, none⟩ (.int .i64 uh)).setCell ⟨b5, 6, none⟩ (.int .i64 vl)).setCell ⟨b5, 7, none⟩ (.int .i64 vh)) := Ext.set p6 (by dsimp only; omega) _; have o7 := Blk.far (p := ⟨b5, 7, none⟩) o6 (by dsimp only; omega) (.int .i64 vh); exact ⟨p7, q7, o7⟩)); refine tg_skip (fun w => Ext _ w ∧ Blk w b5 119 #[.int .i64 xl, .int .i64 xh, .int .i64 yl, .int .i64 yh, .int .i64 ul, .int .i64 uh, .int .i64 vl, .int .i64 vh] ∧ Blk w b6 119 #[.int .i64 zxl, .int .i64 zxh, .int .i64 zyl, .int .i64 zyh, .int .i64 zul, .int .i64 zuh, .int .i64 zvl, .int .i64 zvh]) rfl rfl ((Stable.ext _).and ((Stable.blk _ _ _).and (Stable.blk _ _ _))) (fun _ h => h.1) (fun wx hx => ?_) ?_; (focus (obtain ⟨hx, hB1, hB2⟩ := hx; have hcB := hB2.cell; have hfB := hB2.frozen; have hlB := hB2.lt; refine ⟨_, (by go_simp; rfl), ?_⟩; have q0 : Blk (wx.setCell ⟨b6, 0, none⟩ (.int .i64 zxl)) b6 119 #[.int .i64 zxl, .int .i64 0, .int .i64 0, .int .i64 0, .int .i64 0, .int .i64 0, .int .i64 0, .int .i64 0] := hB2.set_ 0 _; have p0 : Ext _ (wx.setCell ⟨b6, 0, none⟩ (.int .i64 zxl)) := Ext.set hx (by dsimp only; omega) _; have o0 := Blk.far (p := ⟨b6, 0, none⟩) hB1 (by dsimp only; omega) (.int .i64 zxl); have q1 : Blk ((wx.setCell ⟨b6, 0, none⟩ (.int .i64 zxl)).setCell ⟨b6, 1, none⟩ (.int .i64 zxh)) b6 119 #[.int .i64 zxl, .int .i64 zxh, .int .i64 0, .int .i64 0, .int .i64 0, .int .i64 0, .int .i64 0, .int .i64 0] := q0.set_ 1 _; have p1 : Ext _ ((wx.setCell ⟨b6, 0, none⟩ (.int .i64 zxl)).setCell ⟨b6, 1, none⟩ (.int .i64 zxh)) := Ext.set p0 (by dsimp only; omega) _; have o1 := Blk.far (p := ⟨b6, 1, none⟩) o0 (by dsimp only; omega) (.int .i64 zxh); have q2 : Blk (((wx.setCell ⟨b6, 0, none⟩ (.int .i64 zxl)).setCell ⟨b6, 1, none⟩ (.int .i64 zxh)).setCell ⟨b6, 2, none⟩ (.int .i64 zyl)) b6 119 #[.int .i64 zxl, .int .i64 zxh, .int .i64 zyl, .int .i64 0, .int .i64 0, .int .i64 0, .int .i64 0, .int .i64 0] := q1.set_ 2 _; have p2 : Ext _ (((wx.setCell ⟨b6, 0, none⟩ (.int .i64 zxl)).setCell ⟨b6, 1, none⟩ (.int .i64 zxh)).setCell ⟨b6, 2, none⟩ (.int .i64 zyl)) := Ext.set p1 (by dsimp only; omega) _; have o2 := Blk.far (p := ⟨b6, 2, none⟩) o1 (by dsimp only; omega) (.int .i64 zyl); have q3 : Blk ((((wx.setCell ⟨b6, 0, none⟩ (.int .i64 zxl)).setCell ⟨b6, 1, none⟩ (.int .i64 zxh)).setCell ⟨b6, 2, none⟩ (.int .i64 zyl)).setCell ⟨b6, 3, none⟩ (.int .i64 zyh)) b6 119 #[.int .i64 zxl, .int .i64 zxh, .int .i64 zyl, .int .i64 zyh, .int .i64 0, .int .i64 0, .int .i64 0, .int .i64 0] := q2.set_ 3 _; have p3 : Ext _ ((((wx.setCell ⟨b6, 0, none⟩ (.int .i64 zxl)).setCell ⟨b6, 1, none⟩ (.int .i64 zxh)).setCell ⟨b6, 2, none⟩ (.int .i64 zyl)).setCell ⟨b6, 3, none⟩ (.int .i64 zyh)) := Ext.set p2 (by dsimp only; omega) _; have o3 := Blk.far (p := ⟨b6, 3, none⟩) o2 (by dsimp only; omega) (.int .i64 zyh); have q4 : Blk (((((wx.setCell ⟨b6, 0, none⟩ (.int .i64 zxl)).setCell ⟨b6, 1, none⟩ (.int .i64 zxh)).setCell ⟨b6, 2, none⟩ (.int .i64 zyl)).setCell ⟨b6, 3, none⟩ (.int .i64 zyh)).setCell ⟨b6, 4, none⟩ (.int .i64 zul)) b6 119 #[.int .i64 zxl, .int .i64 zxh, .int .i64 zyl, .int .i64 zyh, .int .i64 zul, .int .i64 0, .int .i64 0, .int .i64 0] := q3.set_ 4 _; have p4 : Ext _ (((((wx.setCell ⟨b6, 0, none⟩ (.int .i64 zxl)).setCell ⟨b6, 1, none⟩ (.int .i64 zxh)).setCell ⟨b6, 2, none⟩ (.int .i64 zyl)).setCell ⟨b6, 3, none⟩ (.int .i64 zyh)).setCell ⟨b6, 4, none⟩ (.int .i64 zul)) := Ext.set p3 (by dsimp only; omega) _; have o4 := Blk.far (p := ⟨b6, 4, none⟩) o3 (by dsimp only; omega) (.int .i64 zul); have q5 : Blk ((((((wx.setCell ⟨b6, 0, none⟩ (.int .i64 zxl)).setCell ⟨b6, 1, none⟩ (.int .i64 zxh)).setCell ⟨b6, 2, none⟩ (.int .i64 zyl)).setCell ⟨b6, 3, none⟩ (.int .i64 zyh)).setCell ⟨b6, 4, none⟩ (.int .i64 zul)).setCell ⟨b6, 5, none⟩ (.int .i64 zuh)) b6 119 #[.int .i64 zxl, .int .i64 zxh, .int .i64 zyl, .int .i64 zyh, .int .i64 zul, .int .i64 zuh, .int .i64 0, .int .i64 0] := q4.set_ 5 _; have p5 : Ext _ ((((((wx.setCell ⟨b6, 0, none⟩ (.int .i64 zxl)).setCell ⟨b6, 1, none⟩ (.int .i64 zxh)).setCell ⟨b6, 2, none⟩ (.int .i64 zyl)).setCell ⟨b6, 3, none⟩ (.int .i64 zyh)).setCell ⟨b6, 4, none⟩ (.int .i64 zul)).setCell ⟨b6, 5, none⟩ (.int .i64 zuh)) := Ext.set p4 (by dsimp only; omega) _; have o5 := Blk.far (p := ⟨b6, 5, none⟩) o4 (by dsimp only; omega) (.int .i64 zuh); have q6 : Blk (((((((wx.setCell ⟨b6, 0, none⟩ (.int .i64 zxl)).setCell ⟨b6, 1, none⟩ (.int .i64 zxh)).setCell ⟨b6, 2, none⟩ (.int .i64 zyl)).setCell ⟨b6, 3, none⟩ (.int .i64 zyh)).setCell ⟨b6, 4, none⟩ (.int .i64 zul)).setCell ⟨b6, 5, none⟩ (.int .i64 zuh)).setCell ⟨b6, 6, none⟩ (.int .i64 zvl)) b6 119 #[.int .i64 zxl, .int .i64 zxh, .int .i64 zyl, .int .i64 zyh, .int .i64 zul, .int .i64 zuh, .int .i64 zvl, .int .i64 0] := q5.set_ 6 _; have p6 : Ext _ (((((((wx.setCell ⟨b6, 0, none⟩ (.int .i64 zxl)).setCell ⟨b6, 1, none⟩ (.int .i64 zxh)).setCell ⟨b6, 2, none⟩ (.int .i64 zyl)).setCell ⟨b6, 3, none⟩ (.int .i64 zyh)).setCell ⟨b6, 4, none⟩ (.int .i64 zul)).setCell ⟨b6, 5, none⟩ (.int .i64 zuh)).setCell ⟨b6, 6, none⟩ (.int .i64 zvl)) := Ext.set p5 (by dsimp only; omega) _; have o6 := Blk.far (p := ⟨b6, 6, none⟩) o5 (by dsimp only; omega) (.int .i64 zvl); have q7 : Blk ((((((((wx.setCell ⟨b6, 0, none⟩ (.int .i64 zxl)).setCell ⟨b6, 1, none⟩ (.int .i64 zxh)).setCell ⟨b6, 2, none⟩ (.int .i64 zyl)).setCell ⟨b6, 3, none⟩ (.int .i64 zyh)).setCell ⟨b6, 4, none⟩ (.int .i64 zul)).setCell ⟨b6, 5, none⟩ (.int .i64 zuh)).setCell ⟨b6, 6, none⟩ (.int .i64 zvl)).setCell ⟨b6, 7, none⟩ (.int .i64 zvh)) b6 119 #[.int .i64 zxl, .int .i64 zxh, .int .i64 zyl, .int .i64 zyh, .int .i64 zul, .int .i64 zuh, .int .i64 zvl, .int .i64 zvh] := q6.set_ 7 _; have p7 : Ext _ ((((((((wx.setCell ⟨b6, 0, none⟩ (.int .i64 zxl)).setCell ⟨b6, 1, none⟩ (.int .i64 zxh)).setCell ⟨b6, 2, none⟩ (.int .i64 zyl)).setCell ⟨b6, 3, none⟩ (.int .i64 zyh)).setCell ⟨b6, 4, none⟩ (.int .i64 zul)).setCell ⟨b6, 5, none⟩ (.int .i64 zuh)).setCell ⟨b6, 6, none⟩ (.int .i64 zvl)).setCell ⟨b6, 7, none⟩ (.int .i64 zvh)) := Ext.set p6 (by dsimp only; omega) _; have o7 := Blk.far (p := ⟨b6, 7, none⟩) o6 (by dsimp only; omega) (.int .i64 zvh); exact ⟨p7, o7, q7⟩)); refine tg_nil ?_; rintro w2 ⟨hE_w2, hB_b5, hB_b6⟩
  simp only [Array.getD_eq_getD_getElem?, List.getElem?_toArray, List.getElem?_cons_succ, List.getElem?_cons_zero, Option.getD_some, List.setIfInBounds_toArray, List.set_cons_zero, List.set_cons_succ]
  have HC4 : Hid (Blk w2 (w.heap.size + 1 + 1) 38 #[.int .i64 0, .int .i64 0, .int .i64 0, .int .i64 0, .int .i64 0, .int .i64 0, .int .i64 0, .int .i64 0]) := Lib.hid ((Blk.newAt (by simp)).ext hE_w2)
  have HCE : Hid (Ext w w2) := Lib.hid (by (repeat' (first | exact Ext.refl _ | assumption | apply Ext.alloc | apply Ext.drew | refine Ext.set ?_ (by dsimp only; omega) _ | refine Ext.trans ?_ (by assumption))))
  have HC5 := Lib.hid hB_b5
  have HC6 := Lib.hid hB_b6
  simp only [World.size_alloc] at hb_b5 hb_b6
  have o1 : w.heap.size + 1 + 1 < b5 := by omega
  have o2 : w.heap.size + 1 + 1 < b6 := by omega
  clear hE_w2 hB_b5 hB_b6 hb_b5 hb_b6
  go_wp2_with fail
  refine wp_loop_rounds 5 ?_
  rw [rounds_succ]
  have c5 := HC5.out.cell
  have c6 := HC6.out.cell
  have l5 := HC5.out.lt
  have l6 := HC6.out.lt
  go_wp2_with fail
  refine wp_region_forced 21 (Ext _) (Stable.ext _) (Ext.drew (Ext.refl _)) (by kernel_rfl) (by kernel_rfl) ?_
  simp only [List.take_succ_cons, List.take_zero, List.drop_succ_cons, List.drop_zero]
  (repeat' (first | (refine bl_off (by rfl) ?_; simp only [Act.put, List.setIfInBounds_toArray, List.set_cons_zero, List.set_cons_succ]) | (apply bl_op; rfl; (intro w1 h1; obtain ⟨hc, hf, hz⟩ := bcell h1; go_simp; (try go_bits); (first | exact ⟨rfl, Ext.refl _⟩)); simp only [Act.put, List.setIfInBounds_toArray, List.set_cons_zero, List.set_cons_succ]) | (refine bl_split rfl rfl (fun hx => ?_) (fun hx => ?_) <;> simp only [hx])))
  refine bl_nil ?_
  intro W0 hW
  have HD5 := Lib.hid (HC5.out.ext hW)
  have HD6 := Lib.hid (HC6.out.ext hW)
  have HD4 := Lib.hid (HC4.out.ext hW)
  have HDE := Lib.hid (HCE.out.trans hW)
  clear c5 c6 l5 l6 hW HC5 HC6 HC4 HCE
  have c5 := HD5.out.cell
  have f5 := HD5.out.frozen
  have l5 := HD5.out.lt
  go_wp2_with fail
  refine name_world _ ?_
  intro V0 hV
  have HC5 : Hid (Blk V0 b5 119 #[.int .i64 (min xl zxl), .int .i64 (max xh zxh), .int .i64 yl, .int .i64 yh, .int .i64 ul, .int .i64 uh, .int .i64 vl, .int .i64 vh]) := by rw [hV]; exact blk_set2 HD5.out rfl
  have HC6 : Hid (Blk V0 b6 119 #[.int .i64 zxl, .int .i64 zxh, .int .i64 zyl, .int .i64 zyh, .int .i64 zul, .int .i64 zuh, .int .i64 zvl, .int .i64 zvh]) := by rw [hV]; exact blk_far2 HD6.out (by omega)
  have HC4 : Hid (Blk V0 (w.heap.size + 1 + 1) 38 #[.int .i64 0, .int .i64 0, .int .i64 0, .int .i64 0, .int .i64 0, .int .i64 0, .int .i64 0, .int .i64 0]) := by rw [hV]; exact blk_far2 HD4.out (by omega)
  have HCE : Hid (Ext w V0) := by rw [hV]; exact ext_set2 HDE.out (by omega)
  clear hV HD5 HD6 HD4 HDE c5 f5 l5
  rw [rounds_succ]
  have c5 := HC5.out.cell
  have c6 := HC6.out.cell
  have l5 := HC5.out.lt
  have l6 := HC6.out.lt
  go_wp2_with fail
  refine wp_region_forced 21 (Ext _) (Stable.ext _) (Ext.drew (Ext.refl _)) (by kernel_rfl) (by kernel_rfl) ?_
  simp only [List.take_succ_cons, List.take_zero, List.drop_succ_cons, List.drop_zero]
  (repeat' (first | (refine bl_off (by rfl) ?_; simp only [Act.put, List.setIfInBounds_toArray, List.set_cons_zero, List.set_cons_succ]) | (apply bl_op; rfl; (intro w1 h1; obtain ⟨hc, hf, hz⟩ := bcell h1; go_simp; (try go_bits); (first | exact ⟨rfl, Ext.refl _⟩)); simp only [Act.put, List.setIfInBounds_toArray, List.set_cons_zero, List.set_cons_succ]) | (refine bl_split rfl rfl (fun hx => ?_) (fun hx => ?_) <;> simp only [hx])))
  refine bl_nil ?_
  intro W1 hW
  have HD5 := Lib.hid (HC5.out.ext hW)
  have HD6 := Lib.hid (HC6.out.ext hW)
  have HD4 := Lib.hid (HC4.out.ext hW)
  have HDE := Lib.hid (HCE.out.trans hW)
  clear c5 c6 l5 l6 hW HC5 HC6 HC4 HCE
  have c5 := HD5.out.cell
  have f5 := HD5.out.frozen
  have l5 := HD5.out.lt
  go_wp2_with fail
  refine name_world _ ?_
  intro V1 hV
  have HC5 : Hid (Blk V1 b5 119 #[.int .i64 (min xl zxl), .int .i64 (max xh zxh), .int .i64 (min yl zyl), .int .i64 (max yh zyh), .int .i64 ul, .int .i64 uh, .int .i64 vl, .int .i64 vh]) := by rw [hV]; exact blk_set2 HD5.out rfl
  have HC6 : Hid (Blk V1 b6 119 #[.int .i64 zxl, .int .i64 zxh, .int .i64 zyl, .int .i64 zyh, .int .i64 zul, .int .i64 zuh, .int .i64 zvl, .int .i64 zvh]) := by rw [hV]; exact blk_far2 HD6.out (by omega)
  have HC4 : Hid (Blk V1 (w.heap.size + 1 + 1) 38 #[.int .i64 0, .int .i64 0, .int .i64 0, .int .i64 0, .int .i64 0, .int .i64 0, .int .i64 0, .int .i64 0]) := by rw [hV]; exact blk_far2 HD4.out (by omega)
  have HCE : Hid (Ext w V1) := by rw [hV]; exact ext_set2 HDE.out (by omega)
  clear hV HD5 HD6 HD4 HDE c5 f5 l5
  rw [rounds_succ]
  have c5 := HC5.out.cell
  have c6 := HC6.out.cell
  have l5 := HC5.out.lt
  have l6 := HC6.out.lt
  go_wp2_with fail
  refine wp_region_forced 21 (Ext _) (Stable.ext _) (Ext.drew (Ext.refl _)) (by kernel_rfl) (by kernel_rfl) ?_
  simp only [List.take_succ_cons, List.take_zero, List.drop_succ_cons, List.drop_zero]
  (repeat' (first | (refine bl_off (by rfl) ?_; simp only [Act.put, List.setIfInBounds_toArray, List.set_cons_zero, List.set_cons_succ]) | (apply bl_op; rfl; (intro w1 h1; obtain ⟨hc, hf, hz⟩ := bcell h1; go_simp; (try go_bits); (first | exact ⟨rfl, Ext.refl _⟩)); simp only [Act.put, List.setIfInBounds_toArray, List.set_cons_zero, List.set_cons_succ]) | (refine bl_split rfl rfl (fun hx => ?_) (fun hx => ?_) <;> simp only [hx])))
  refine bl_nil ?_
  intro W2 hW
  have HD5 := Lib.hid (HC5.out.ext hW)
  have HD6 := Lib.hid (HC6.out.ext hW)
  have HD4 := Lib.hid (HC4.out.ext hW)
  have HDE := Lib.hid (HCE.out.trans hW)
  clear c5 c6 l5 l6 hW HC5 HC6 HC4 HCE
  have c5 := HD5.out.cell
  have f5 := HD5.out.frozen
  have l5 := HD5.out.lt
  go_wp2_with fail
  refine name_world _ ?_
  intro V2 hV
  have HC5 : Hid (Blk V2 b5 119 #[.int .i64 (min xl zxl), .int .i64 (max xh zxh), .int .i64 (min yl zyl), .int .i64 (max yh zyh), .int .i64 (min ul zul), .int .i64 (max uh zuh), .int .i64 vl, .int .i64 vh]) := by rw [hV]; exact blk_set2 HD5.out rfl
  have HC6 : Hid (Blk V2 b6 119 #[.int .i64 zxl, .int .i64 zxh, .int .i64 zyl, .int .i64 zyh, .int .i64 zul, .int .i64 zuh, .int .i64 zvl, .int .i64 zvh]) := by rw [hV]; exact blk_far2 HD6.out (by omega)
  have HC4 : Hid (Blk V2 (w.heap.size + 1 + 1) 38 #[.int .i64 0, .int .i64 0, .int .i64 0, .int .i64 0, .int .i64 0, .int .i64 0, .int .i64 0, .int .i64 0]) := by rw [hV]; exact blk_far2 HD4.out (by omega)
  have HCE : Hid (Ext w V2) := by rw [hV]; exact ext_set2 HDE.out (by omega)
  clear hV HD5 HD6 HD4 HDE c5 f5 l5
  rw [rounds_succ]
  have c5 := HC5.out.cell
  have c6 := HC6.out.cell
  have l5 := HC5.out.lt
  have l6 := HC6.out.lt
  go_wp2_with fail
  refine wp_region_forced 21 (Ext _) (Stable.ext _) (Ext.drew (Ext.refl _)) (by kernel_rfl) (by kernel_rfl) ?_
  simp only [List.take_succ_cons, List.take_zero, List.drop_succ_cons, List.drop_zero]
  (repeat' (first | (refine bl_off (by rfl) ?_; simp only [Act.put, List.setIfInBounds_toArray, List.set_cons_zero, List.set_cons_succ]) | (apply bl_op; rfl; (intro w1 h1; obtain ⟨hc, hf, hz⟩ := bcell h1; go_simp; (try go_bits); (first | exact ⟨rfl, Ext.refl _⟩)); simp only [Act.put, List.setIfInBounds_toArray, List.set_cons_zero, List.set_cons_succ]) | (refine bl_split rfl rfl (fun hx => ?_) (fun hx => ?_) <;> simp only [hx])))
  refine bl_nil ?_
  intro W3 hW
  have HD5 := Lib.hid (HC5.out.ext hW)
  have HD6 := Lib.hid (HC6.out.ext hW)
  have HD4 := Lib.hid (HC4.out.ext hW)
  have HDE := Lib.hid (HCE.out.trans hW)
  clear c5 c6 l5 l6 hW HC5 HC6 HC4 HCE
  have c5 := HD5.out.cell
  have f5 := HD5.out.frozen
  have l5 := HD5.out.lt
  go_wp2_with fail
  refine name_world _ ?_
  intro V3 hV
  have HC5 : Hid (Blk V3 b5 119 #[.int .i64 (min xl zxl), .int .i64 (max xh zxh), .int .i64 (min yl zyl), .int .i64 (max yh zyh), .int .i64 (min ul zul), .int .i64 (max uh zuh), .int .i64 (min vl zvl), .int .i64 (max vh zvh)]) := by rw [hV]; exact blk_set2 HD5.out rfl
  have HC6 : Hid (Blk V3 b6 119 #[.int .i64 zxl, .int .i64 zxh, .int .i64 zyl, .int .i64 zyh, .int .i64 zul, .int .i64 zuh, .int .i64 zvl, .int .i64 zvh]) := by rw [hV]; exact blk_far2 HD6.out (by omega)
  have HC4 : Hid (Blk V3 (w.heap.size + 1 + 1) 38 #[.int .i64 0, .int .i64 0, .int .i64 0, .int .i64 0, .int .i64 0, .int .i64 0, .int .i64 0, .int .i64 0]) := by rw [hV]; exact blk_far2 HD4.out (by omega)
  have HCE : Hid (Ext w V3) := by rw [hV]; exact ext_set2 HDE.out (by omega)
  clear hV HD5 HD6 HD4 HDE c5 f5 l5
  rw [rounds_succ]
  have c5 := HC5.out.cell
  have l5 := HC5.out.lt
  go_wp2_with fail
  refine (oBox_c _ _ _ _ _ _ _ _ _).mono ?_
  rintro e w9 ⟨rfl, h9⟩
  have G4 := HC4.out.ext h9
  have GE := HCE.out.trans h9
  clear h9 c5 l5
  have c_G4 := G4.cell; have f_G4 := G4.frozen; have l_G4 := G4.lt
  go_wp2_with fail
  (try simp only [Exit.inBlock, Exit.then]); apply bodyPost_ret; (focus (simp only [results, Tryz.results92]; go_simp; try rfl)); rfl
  exact ⟨rfl, ext_set2 (ext_set2 (ext_set2 (ext_set2 GE (by omega)) (by omega)) (by omega)) (by omega)⟩
end Go.Proofs.YtfniicgoeljmdaaGreat
