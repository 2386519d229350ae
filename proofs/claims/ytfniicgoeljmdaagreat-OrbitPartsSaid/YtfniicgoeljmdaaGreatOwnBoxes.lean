/- States in sets, sets in sets, and the least box that contains boxes: the program. No condition. The least box that contains all boxes of a set: the program. No condition. Sets of boxes that the call itself makes; sets that are equal; copies. No condition. -/
import Derived.Test.YtfniicgoeljmdaaGreatBoxSet
import Derived.Scope
import Derived.LoopN
namespace Go.Proofs.YtfniicgoeljmdaaGreat
open Go.RowKit


def withinS (a b : List Bx) : Bool := a.all fun x => b.any fun y => insideB x y
set_option maxRecDepth 20000 in
set_option maxHeartbeats 4000000 in
theorem oWithinSet_c (A B : Option Addr) (n m c d : Nat) (l r : List Bx) (w : World) (hl : Bxs w A n l) (hr : Bxs w B m r) :
    Calls Tryz.prog 32 #[.slice A n c, .slice B m d] w fun e w' => e = .returned (.bool (withinS l r)) ∧ Ext w w' := by
  have hn := hl.le
  have hm := hr.le
  have hln := Lib.hid hl.len
  have hrn := Lib.hid hr.len
  go_enter Tryz.func32, Tryz.ntmps32
  go_wp2_with fail
  refine wp_scope_straight ?_
  go_wp2_with fail
  apply wp_label
  go_wp2_with fail
  go_loopw [11] (fun i wr => ∃ k : Nat, k ≤ n ∧ i = .int .i64 k ∧ Hid (withinS (l.drop k) r = withinS l r) ∧ Ext w wr) (fun i _ => n - (intOf i).toNat)
  case atStart => exact ⟨0, Nat.zero_le _, rfl, rfl, Ext.refl _⟩
  case round =>
    obtain ⟨k, hk, rfl, HI, hb⟩ := hrel
    by_cases hlt : k < n
    · obtain ⟨b, off, x, rfl, HD, hxm, hx⟩ := hl.one hlt
      obtain ⟨hx0, hx1, hx2, hx3, hx4, hx5, hx6, hx7⟩ := bxAt.ext hb hx
      have hbl : b < wr.heap.size := World.block_lt_of_cell? wr _ hx0
      have hi := HI.out
      rw [HD.out] at hi
      have hi2 : ((r.any fun y => insideB x y) && withinS (l.drop (k + 1)) r) = withinS l r := hi
      have Hi := Lib.hid hi2
      have HIN := Lib.hid fun y W => oInside_c x y W
      clear hi hi2 hxm hx
      obtain ⟨wo, rfl⟩ : ∃ wo : World, wo = wr := ⟨_, rfl⟩
      obtain ⟨IN, hIN⟩ : ∃ f : Bx → Bool, f = fun y => insideB x y := ⟨_, rfl⟩
      have HIN2 : Hid (∀ (y : Bx) W, Calls Tryz.prog 91 #[.agg #[.int .i64 x.x.lo, .int .i64 x.x.hi, .int .i64 x.y.lo, .int .i64 x.y.hi, .int .i64 x.u.lo, .int .i64 x.u.hi, .int .i64 x.v.lo, .int .i64 x.v.hi], .agg #[.int .i64 y.x.lo, .int .i64 y.x.hi, .int .i64 y.y.lo, .int .i64 y.y.hi, .int .i64 y.u.lo, .int .i64 y.u.hi, .int .i64 y.v.lo, .int .i64 y.v.hi]] W fun e w' => e = .returned (.bool (IN y)) ∧ Ext W w') := by rw [hIN]; exact HIN.out
      have Hi' : Hid ((r.any IN && withinS (l.drop (k + 1)) r) = withinS l r) := by rw [hIN]; exact Hi.out
      clear HIN Hi hIN
      obtain ⟨⟨xl, xh⟩, ⟨yl, yh⟩, ⟨ul, uh⟩, vl, vh⟩ := x
      dsimp only at hx0 hx1 hx2 hx3 hx4 hx5 hx6 hx7 HIN2
      go_wp2_with fail
      refine name_world _ ?_
      intro W1 hW1
      obtain ⟨b6, h6⟩ : ∃ b, b = wo.heap.size := ⟨_, rfl⟩
      have B6 : Blk W1 b6 38 #[.int .i64 xl, .int .i64 xh, .int .i64 yl, .int .i64 yh, .int .i64 ul, .int .i64 uh, .int .i64 vl, .int .i64 vh] := by rw [hW1]; exact Blk.newAt h6
      have E6 : Ext w W1 := by rw [hW1]; exact hb.alloc _
      rw [← h6]
      clear hW1 h6 hx0 hx1 hx2 hx3 hx4 hx5 hx6 hx7 hbl
      go_loopw [17] (fun j wr2 => ∃ q : Nat, q ≤ m ∧ j = .int .i64 q ∧ Hid ((r.drop q).any IN = r.any IN) ∧ Ext W1 wr2) (fun j _ => m - (intOf j).toNat)
      case atStart => exact ⟨0, Nat.zero_le _, rfl, rfl, Ext.refl _⟩
      case round =>
        obtain ⟨q, hq, rfl, HJ, hb2⟩ := hrel
        have c6 := (B6.ext hb2).cell
        have l6 := (B6.ext hb2).lt
        have l61 : b6 < wr.heap.size + 1 := by omega
        by_cases hqm : q < m
        · obtain ⟨b', off', y, rfl, HD2, hym, hy⟩ := hr.one hqm
          obtain ⟨hy0, hy1, hy2, hy3, hy4, hy5, hy6, hy7⟩ := bxAt.ext (E6.trans hb2) hy
          have hbl2 : b' < wr.heap.size := World.block_lt_of_cell? wr _ hy0
          have HC := Lib.hid fun W => HIN2.out y W
          have hj := HJ.out
          rw [HD2.out, List.any_cons] at hj
          have Hj := Lib.hid hj
          clear hj hym hy
          generalize IN y = v at *
          obtain ⟨⟨zxl, zxh⟩, ⟨zyl, zyh⟩, ⟨zul, zuh⟩, zvl, zvh⟩ := y
          dsimp only at hy0 hy1 hy2 hy3 hy4 hy5 hy6 hy7 HC
          cases v
          · go_wp2_with fail
            refine (HC.out _).mono ?_
            rintro e w7 ⟨rfl, h7⟩
            obtain ⟨hc_w7, hf_w7, hz_w7⟩ := bcell h7; (repeat (first | rw [World.size_alloc] at hz_w7 | rw [World.size_drew] at hz_w7 | rw [World.size_setCell] at hz_w7)); (try (have : w.heap.size < w7.heap.size := (by omega))); (try (have : w.heap.size + 1 < w7.heap.size := (by omega))); (try (have : w.heap.size + 1 + 1 < w7.heap.size := (by omega))); (try (have : w.heap.size + 1 + 1 + 1 < w7.heap.size := (by omega))); (try (have : w.heap.size + 1 + 1 + 1 + 1 < w7.heap.size := (by omega)))
            go_wp2_with fail
            go_roundw
            case rel => exact ⟨q + 1, by omega, by go_num, Lib.hid (by have := Hj.out; rwa [Bool.false_or] at this), by (repeat' (first | exact Ext.refl _ | assumption | apply Ext.alloc | apply Ext.drew | refine Ext.set ?_ (by dsimp only; omega) _ | refine Ext.trans ?_ (by assumption)))⟩
            case measure => simp [intOf]; omega
          · have hany : r.any IN = true := by have := Hj.out; rw [Bool.true_or] at this; exact this.symm
            have Hn : Hid (withinS (l.drop (k + 1)) r = withinS l r) := by have := Hi'.out; rwa [hany, Bool.true_and] at this
            clear hany
            go_wp2_with fail
            refine (HC.out _).mono ?_
            rintro e w7 ⟨rfl, h7⟩
            obtain ⟨hc_w7, hf_w7, hz_w7⟩ := bcell h7; (repeat (first | rw [World.size_alloc] at hz_w7 | rw [World.size_drew] at hz_w7 | rw [World.size_setCell] at hz_w7)); (try (have : w.heap.size < w7.heap.size := (by omega))); (try (have : w.heap.size + 1 < w7.heap.size := (by omega))); (try (have : w.heap.size + 1 + 1 < w7.heap.size := (by omega))); (try (have : w.heap.size + 1 + 1 + 1 < w7.heap.size := (by omega))); (try (have : w.heap.size + 1 + 1 + 1 + 1 < w7.heap.size := (by omega)))
            go_wp2_with fail
            go_roundw
            case rel => exact ⟨k + 1, by omega, by go_num, Hn, by (repeat' (first | exact Ext.refl _ | assumption | apply Ext.alloc | apply Ext.drew | refine Ext.set ?_ (by dsimp only; omega) _ | refine Ext.trans ?_ (by assumption)))⟩
            case measure => simp [intOf]; omega
        · have hqm' : q = m := by omega
          have hany : r.any IN = false := by
            have := HJ.out
            rw [hqm', hrn.out, List.drop_length] at this
            exact this.symm
          have Hn : Hid (withinS l r = false) := by have := Hi'.out; rw [hany, Bool.false_and] at this; exact this.symm
          clear hany
          go_wp2_with fail
          simp only [Exit.noGoto]
          go_ret
          exact ⟨ret_b Hn.out.symm, by (repeat' (first | exact Ext.refl _ | assumption | apply Ext.alloc | apply Ext.drew | refine Ext.set ?_ (by dsimp only; omega) _ | refine Ext.trans ?_ (by assumption)))⟩
    · have hkn : k = n := by omega
      have hi := HI.out
      rw [hkn, hln.out, List.drop_length] at hi
      have Hi := Lib.hid hi
      clear hi
      go_wp2_with fail
      simp only [Exit.noGoto]
      go_ret
      exact ⟨ret_b Hi.out, by (repeat' (first | exact Ext.refl _ | assumption | apply Ext.alloc | apply Ext.drew | refine Ext.set ?_ (by dsimp only; omega) _ | refine Ext.trans ?_ (by assumption)))⟩
set_option maxHeartbeats 1000000 in
theorem oBox_c (xl xh yl yh ul uh vl vh : Int) (w : World) :
    Calls Tryz.prog 130 #[.agg #[.int .i64 xl, .int .i64 xh, .int .i64 yl, .int .i64 yh, .int .i64 ul, .int .i64 uh, .int .i64 vl, .int .i64 vh]] w fun e w' => e = .returned (.agg #[.int .i64 xl, .int .i64 xh, .int .i64 yl, .int .i64 yh, .int .i64 ul, .int .i64 uh, .int .i64 vl, .int .i64 vh]) ∧ Ext w w' := by
  go_enter Tryz.func130, Tryz.ntmps130
  go_wp2_with fail
  (try simp only [Exit.inBlock, Exit.then]); apply bodyPost_ret; (focus (simp only [results, Tryz.results130]; go_simp; try rfl)); rfl
  exact ⟨rfl, by (repeat' (first | exact Ext.refl _ | assumption | apply Ext.alloc | apply Ext.drew | refine Ext.set ?_ (by dsimp only; omega) _ | refine Ext.trans ?_ (by assumption)))⟩
end Go.Proofs.YtfniicgoeljmdaaGreat

namespace Go.Proofs.YtfniicgoeljmdaaGreat
open Go.RowKit

def zeroB : Bx := ⟨⟨0, 0⟩, ⟨0, 0⟩, ⟨0, 0⟩, ⟨0, 0⟩⟩
end Go.Proofs.YtfniicgoeljmdaaGreat

namespace Go.Proofs.YtfniicgoeljmdaaGreat
open Go.RowKit

theorem info_box : (Tryz.prog.info? 38).map (fun i => (i.zero, i.size, i.bytes)) = some (some (.agg #[.int .i64 0, .int .i64 0, .int .i64 0, .int .i64 0, .int .i64 0, .int .i64 0, .int .i64 0, .int .i64 0]), 8, 64) := by kernel_rfl
theorem box_len (x : Bx) : (bxC x).length = 8 := rfl
theorem box_news (w : World) (x : Bx) (b o : Nat) (h : bxAt w x b o) : ∀ i u, (bxC x)[i]? = some u → w.cell? ⟨b, o + i, none⟩ = some u
  | 0, _, hu => by rw [← hu]; exact h.1
  | 1, _, hu => by rw [← hu]; exact h.2.1
  | 2, _, hu => by rw [← hu]; exact h.2.2.1
  | 3, _, hu => by rw [← hu]; exact h.2.2.2.1
  | 4, _, hu => by rw [← hu]; exact h.2.2.2.2.1
  | 5, _, hu => by rw [← hu]; exact h.2.2.2.2.2.1
  | 6, _, hu => by rw [← hu]; exact h.2.2.2.2.2.2.1
  | 7, _, hu => by rw [← hu]; exact h.2.2.2.2.2.2.2
theorem box_one : ∀ x : Bx, ∀ u ∈ bxC x, u.oneCell' = true := by
  intro x u hu
  simp only [bxC, List.mem_cons, List.not_mem_nil, or_false] at hu
  rcases hu with rfl | rfl | rfl | rfl | rfl | rfl | rfl | rfl <;> rfl

def OwnBxs (base : Nat) (w : World) (v : Value) (l : List Bx) : Prop := w.ownsRow base 38 8 v l.length (l.flatMap bxC)
theorem OwnBxs.nil (base : Nat) (w : World) : OwnBxs base w (.slice none 0 0) [] := World.ownsRow_nil _ _ _ _
theorem OwnBxs.ext {base : Nat} {w w' : World} {v : Value} {l : List Bx} (h : OwnBxs base w v l) (e : Ext w w') : OwnBxs base w' v l := own_ext_keep h e
theorem OwnBxs.sl {base : Nat} {w : World} {v : Value} {l : List Bx} (h : OwnBxs base w v l) : ∃ A c, v = .slice A l.length c ∧ Bxs w A l.length l := own_sl box_len (bx_read w) h
theorem OwnBxs.mono {base base' : Nat} {w : World} {v : Value} {l : List Bx} (h : OwnBxs base w v l) (hb : base' ≤ base) : OwnBxs base' w v l := own_mono h hb
theorem OwnBxs.ofApp {base : Nat} {w : World} {v : Value} {l r : List Bx} {n : Nat} (hn : n = r.length) (h : w.ownsRow base 38 8 v (l.length + n) (l.flatMap bxC ++ r.flatMap bxC)) : OwnBxs base w v (l ++ r) := by
  subst hn
  unfold OwnBxs
  rw [List.length_append, List.flatMap_append]
  exact h
theorem OwnBxs.cap {base : Nat} {w : World} {v : Value} {l : List Bx} (h : OwnBxs base w v l) : ∃ A c, v = .slice A l.length c ∧ Bxs w A l.length l ∧ l.length ≤ c := by
  obtain ⟨A, c, rfl, hs⟩ := h.sl
  refine ⟨A, c, rfl, hs, ?_⟩
  rcases h.2 with ⟨h1, h2⟩ | ⟨g, cap, cur, h1, _, _, h3, _⟩
  · rw [h2]; exact Nat.zero_le _
  · injection h1 with _ _ h4; omega

set_option maxRecDepth 4000 in
set_option maxHeartbeats 1000000 in
theorem CloneBox_c (A : Option Addr) (n c : Nat) (l : List Bx) (w : World) (hl : Bxs w A n l) (hb : n ≤ 100000) :
    Calls Tryz.prog 76 #[.slice A n c] w fun e w' => ∃ v, e = .returned v ∧ OwnBxs w.heap.size w' v l ∧ Ext w w' := by
  have HL := Lib.hid fun W (hW : Ext w W) => Bxs.ext hW hl
  have H2 := Lib.hid hl.len
  have hnil := fun W => Lib.run_eql_slice_nil (P := Tryz.prog) W 39 38 A n c 0 0 Tryz.underlying39
  obtain ⟨ic, hic, hc0, hc1, hc2⟩ := info_parts info_box
  cases A with
  | none =>
    have h0 : n = 0 := by
      rcases hl.2.2 with h | ⟨_, _, h, _⟩
      · exact h
      · cases h
    subst h0
    have hnil : l = [] := List.eq_nil_of_length_eq_zero H2.out.symm
    subst hnil
    clear hl
    go_enter Tryz.func76, Tryz.ntmps76
    go_wp2_with fail
    go_ret
    exact ⟨_, rfl, OwnBxs.nil _ _, by (repeat' (first | exact Ext.refl _ | assumption | apply Ext.alloc | apply Ext.drew | refine Ext.set ?_ (by dsimp only; omega) _ | refine Ext.trans ?_ (by assumption)))⟩
  | some a =>
    clear hl
    go_enter Tryz.func76, Tryz.ntmps76
    go_wp2_with (at_builtin; go_loud (refine wpList_append_sl rfl (.tmp 5) (.tmp 6) 39 rfl w.heap.size 38 ic _ 8 64 Tryz.underlying39 hic hc0 hc1 hc2 rfl (by decide) _ 0 [] rfl (own_made (by simp) (by omega)) (some a) n c (l.flatMap bxC) rfl (by rw [flat_len box_len, ← H2.out]) (sl_news box_len (box_news _) (HL.out _ (by (repeat' (first | exact Ext.refl _ | assumption | apply Ext.alloc | apply Ext.drew | refine Ext.set ?_ (by dsimp only; omega) _ | refine Ext.trans ?_ (by assumption)))))) (flat_one box_one _) (by unfold maxLen; omega) (by omega) (by simp) ?_))
    intro v3 w3 ho3 hg3 hn3
    have e3 := grown_ext (Ext.alloc0 _ _) hg3 (by intro j hj; simp [Value.ownBlock] at hj; omega)
    have ho : OwnBxs w.heap.size w3 v3 l := by
      unfold OwnBxs
      rw [← H2.out]
      simpa using ho3
    go_wp2_with fail
    go_ret
    exact ⟨_, rfl, ho, by (repeat' (first | exact Ext.refl _ | assumption | apply Ext.alloc | apply Ext.drew | refine Ext.set ?_ (by dsimp only; omega) _ | refine Ext.trans ?_ (by assumption)))⟩
end Go.Proofs.YtfniicgoeljmdaaGreat
