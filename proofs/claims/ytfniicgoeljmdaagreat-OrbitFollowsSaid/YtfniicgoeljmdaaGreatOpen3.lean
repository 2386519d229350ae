/- States in sets, sets in sets, and the least box that contains boxes: the program. No condition. The least box that contains all boxes of a set: the program. No condition. Sets of boxes that the call itself makes; sets that are equal; copies. No condition. States and boxes that are valid: the reference. No condition. Boxes, drifts, slices of boxes among the arguments: what they read as. No condition. -/
import Derived.Test.YtfniicgoeljmdaaGreatRefScaled
import Derived.Scope
import Derived.LoopN
import Derived.Test.YtfniicgoeljmdaaGreatBig
import Derived.Test.YtfniicgoeljmdaaGreatOpen2
namespace Go.Proofs.YtfniicgoeljmdaaGreat
open Go.RowKit


set_option maxHeartbeats 400000 in
theorem idxBx_c (A : Option Addr) (n c : Nat) (l : List Bx) (fid : Nat) (cap : Array Value) (p : Bx → Bool) (w : World) (hl : Bxs w A n l)
    (hcall : ∀ (xs : Array Value) (W : World), (callFunc fid xs).run Tryz.prog W = .ok (.enter fid xs) W)
    (hf : ∀ x ∈ l, ∀ W, Ext w W → Calls Tryz.prog fid (#[.agg #[.int .i64 x.x.lo, .int .i64 x.x.hi, .int .i64 x.y.lo, .int .i64 x.y.hi, .int .i64 x.u.lo, .int .i64 x.u.hi, .int .i64 x.v.lo, .int .i64 x.v.hi]] ++ cap) W fun e w' => e = .returned (.bool (p x)) ∧ Ext W w') :
    Calls Tryz.prog 134 #[.slice A n c, .func (.func fid) #[] cap] w fun e w' => e = .returned (.int .i64 (idxFrom p l 0)) ∧ Ext w w' := by
  have hn := hl.le
  have Hf := Lib.hid hf
  clear hf
  go_enter Tryz.func134, Tryz.ntmps134
  go_wp2_with fail
  go_loopw [8] (fun i wr => ∃ k : Nat, k ≤ n ∧ i = .int .i64 k ∧ Hid (idxFrom p (l.drop k) k = idxFrom p l 0) ∧ Ext w wr) (fun i _ => n - (intOf i).toNat)
  case atStart => exact ⟨0, Nat.zero_le _, rfl, rfl, Ext.refl _⟩
  case round =>
    obtain ⟨k, hk, rfl, HI, hb⟩ := hrel
    by_cases hlt : k < n
    · obtain ⟨b, off, x, rfl, HD, hxm, hx⟩ := hl.one hlt
      obtain ⟨hx0, hx1, hx2, hx3, hx4, hx5, hx6, hx7⟩ := bxAt.ext hb hx
      go_wp2_with fail
      refine (Hf.out x hxm _ hb).mono ?_
      rintro e w1 ⟨rfl, h1⟩
      cases hp : p x
      · go_wp2_with fail
        go_roundw
        case rel => exact ⟨k + 1, by omega, by go_num, by have := HI.out; rw [HD.out] at this; simpa [Hid, idxFrom, hp] using this, hb.trans h1⟩
        case measure => simp [intOf]; omega
      · go_wp2_with fail
        go_ret
        exact ⟨ret_i (by have := HI.out; rw [HD.out] at this; simpa [idxFrom, hp] using this), hb.trans h1⟩
    · have : k = l.length := by have := hl.len; omega
      subst this
      go_wp2_with fail
      go_ret
      refine ⟨ret_i ?_, hb⟩
      have := HI.out
      simpa [idxFrom] using this

set_option maxHeartbeats 1000000 in
theorem oBox_c (xl xh yl yh ul uh vl vh : Int) (w : World) :
    Calls Tryz.prog 130 #[.agg #[.int .i64 xl, .int .i64 xh, .int .i64 yl, .int .i64 yh, .int .i64 ul, .int .i64 uh, .int .i64 vl, .int .i64 vh]] w fun e w' => e = .returned (.agg #[.int .i64 xl, .int .i64 xh, .int .i64 yl, .int .i64 yh, .int .i64 ul, .int .i64 uh, .int .i64 vl, .int .i64 vh]) ∧ Ext w w' := by
  go_enter Tryz.func130, Tryz.ntmps130
  go_wp2_with fail
  (try simp only [Exit.inBlock, Exit.then]); apply bodyPost_ret; (focus (simp only [results, Tryz.results130]; go_simp; try rfl)); rfl
  exact ⟨rfl, by (repeat' (first | exact Ext.refl _ | assumption | apply Ext.alloc | apply Ext.drew | refine Ext.set ?_ (by dsimp only; omega) _ | refine Ext.trans ?_ (by assumption)))⟩
end Go.Proofs.YtfniicgoeljmdaaGreat

namespace Go.Proofs.YtfniicgoeljmdaaGreat
open Go.RowKit

def zeroB : Bx := ⟨⟨0, 0⟩, ⟨0, 0⟩, ⟨0, 0⟩, ⟨0, 0⟩⟩
end Go.Proofs.YtfniicgoeljmdaaGreat

namespace Go.Proofs.YtfniicgoeljmdaaGreat
open Go.RowKit

theorem info_box : (Tryz.prog.info? 38).map (fun i => (i.zero, i.size, i.bytes)) = some (some (.agg #[.int .i64 0, .int .i64 0, .int .i64 0, .int .i64 0, .int .i64 0, .int .i64 0, .int .i64 0, .int .i64 0]), 8, 64) := by kernel_rfl
theorem box_len (x : Bx) : (bxC x).length = 8 := rfl
theorem box_news (w : World) (x : Bx) (b o : Nat) (h : bxAt w x b o) : ∀ i u, (bxC x)[i]? = some u → w.cell? ⟨b, o + i, none⟩ = some u
  | 0, _, hu => by rw [← hu]; exact h.1
  | 1, _, hu => by rw [← hu]; exact h.2.1
  | 2, _, hu => by rw [← hu]; exact h.2.2.1
  | 3, _, hu => by rw [← hu]; exact h.2.2.2.1
  | 4, _, hu => by rw [← hu]; exact h.2.2.2.2.1
  | 5, _, hu => by rw [← hu]; exact h.2.2.2.2.2.1
  | 6, _, hu => by rw [← hu]; exact h.2.2.2.2.2.2.1
  | 7, _, hu => by rw [← hu]; exact h.2.2.2.2.2.2.2
theorem box_one : ∀ x : Bx, ∀ u ∈ bxC x, u.oneCell' = true := by
  intro x u hu
  simp only [bxC, List.mem_cons, List.not_mem_nil, or_false] at hu
  rcases hu with rfl | rfl | rfl | rfl | rfl | rfl | rfl | rfl <;> rfl

def OwnBxs (base : Nat) (w : World) (v : Value) (l : List Bx) : Prop := w.ownsRow base 38 8 v l.length (l.flatMap bxC)
theorem OwnBxs.nil (base : Nat) (w : World) : OwnBxs base w (.slice none 0 0) [] := World.ownsRow_nil _ _ _ _
theorem OwnBxs.ext {base : Nat} {w w' : World} {v : Value} {l : List Bx} (h : OwnBxs base w v l) (e : Ext w w') : OwnBxs base w' v l := own_ext_keep h e
theorem OwnBxs.sl {base : Nat} {w : World} {v : Value} {l : List Bx} (h : OwnBxs base w v l) : ∃ A c, v = .slice A l.length c ∧ Bxs w A l.length l := own_sl box_len (bx_read w) h
theorem OwnBxs.mono {base base' : Nat} {w : World} {v : Value} {l : List Bx} (h : OwnBxs base w v l) (hb : base' ≤ base) : OwnBxs base' w v l := own_mono h hb
theorem OwnBxs.ofApp {base : Nat} {w : World} {v : Value} {l r : List Bx} {n : Nat} (hn : n = r.length) (h : w.ownsRow base 38 8 v (l.length + n) (l.flatMap bxC ++ r.flatMap bxC)) : OwnBxs base w v (l ++ r) := by
  subst hn
  unfold OwnBxs
  rw [List.length_append, List.flatMap_append]
  exact h
theorem OwnBxs.cap {base : Nat} {w : World} {v : Value} {l : List Bx} (h : OwnBxs base w v l) : ∃ A c, v = .slice A l.length c ∧ Bxs w A l.length l ∧ l.length ≤ c := by
  obtain ⟨A, c, rfl, hs⟩ := h.sl
  refine ⟨A, c, rfl, hs, ?_⟩
  rcases h.2 with ⟨h1, h2⟩ | ⟨g, cap, cur, h1, _, _, h3, _⟩
  · rw [h2]; exact Nat.zero_le _
  · injection h1 with _ _ h4; omega

set_option maxRecDepth 4000 in
set_option maxHeartbeats 1000000 in
theorem SameBoxes_c (A : Option Addr) (n c : Nat) (B : Option Addr) (m d : Nat) (l : List Bx) (w : World) (hl : Bxs w A n l) (hm : Bxs w B m l) :
    Calls Tryz.prog 27 #[.slice A n c, .slice B m d] w fun e w' => e = .returned (.bool true) ∧ Ext w w' := by
  have hn := hl.le
  obtain rfl : m = n := by rw [hl.len, hm.len]
  go_enter Tryz.func27, Tryz.ntmps27
  go_wp2_with fail
  go_loopw [5] (fun i wr => ∃ k : Nat, k ≤ m ∧ i = .int .i64 k ∧ Ext w wr) (fun i _ => m - (intOf i).toNat)
  case atStart => exact ⟨0, Nat.zero_le _, rfl, Ext.refl _⟩
  case round =>
    obtain ⟨k, hk, rfl, hb⟩ := hrel
    obtain ⟨hcb, hfb, hzb⟩ := bcell hb
    by_cases hlt : k < m
    · obtain ⟨b, off, x, rfl, HD, hxm, hx⟩ := hl.one hlt
      obtain ⟨b', off', y, rfl, HD', hym, hy⟩ := hm.one hlt
      obtain rfl : x = y := by
        have := HD.out.symm.trans HD'.out
        injection this
      obtain ⟨hx0, hx1, hx2, hx3, hx4, hx5, hx6, hx7⟩ := bxAt.ext hb hx
      obtain ⟨hy0, hy1, hy2, hy3, hy4, hy5, hy6, hy7⟩ := bxAt.ext hb hy
      have hbl : b < wr.heap.size := World.block_lt_of_cell? wr _ hx0
      have hbl' : b' < wr.heap.size := World.block_lt_of_cell? wr _ hy0
      clear hl hm hx hy hxm hym HD HD'
      obtain ⟨⟨xl, xh⟩, ⟨yl, yh⟩, ⟨ul, uh⟩, vl, vh⟩ := x
      dsimp only at hx0 hx1 hx2 hx3 hx4 hx5 hx6 hx7 hy0 hy1 hy2 hy3 hy4 hy5 hy6 hy7
      go_wp2_with fail
      refine wp_region_text (by kernel_rfl) (by kernel_rfl) ?_
      (repeat' (first | (refine bl_off (by rfl) ?_; simp only [Act.put, List.setIfInBounds_toArray, List.set_cons_zero, List.set_cons_succ]) | (apply bl_op; rfl; (intro w1 h1; obtain ⟨hc, hf, hz⟩ := bcell h1; go_simp; (try go_bits); (first | exact ⟨rfl, Ext.refl _⟩)); simp only [Act.put, List.setIfInBounds_toArray, List.set_cons_zero, List.set_cons_succ]) | (refine bl_split rfl rfl (fun hx => ?_) (fun hx => ?_) <;> simp only [hx])))
      refine bl_nil ?_
      intro w4 h4
      obtain ⟨hc_w4, hf_w4, hz_w4⟩ := bcell h4; (repeat (first | rw [World.size_alloc] at hz_w4 | rw [World.size_drew] at hz_w4 | rw [World.size_setCell] at hz_w4)); (try (have : w.heap.size < w4.heap.size := (by omega))); (try (have : w.heap.size + 1 < w4.heap.size := (by omega))); (try (have : w.heap.size + 1 + 1 < w4.heap.size := (by omega))); (try (have : w.heap.size + 1 + 1 + 1 < w4.heap.size := (by omega))); (try (have : w.heap.size + 1 + 1 + 1 + 1 < w4.heap.size := (by omega)))
      go_wp2_with fail
      go_roundw
      case rel => exact ⟨k + 1, by omega, by go_num, by (repeat' (first | exact Ext.refl _ | assumption | apply Ext.alloc | apply Ext.drew | refine Ext.set ?_ (by dsimp only; omega) _ | refine Ext.trans ?_ (by assumption)))⟩
      case measure => simp [intOf]; omega
    · have : k = m := by omega
      subst this
      clear hl hm
      go_wp2_with fail
      go_ret
      exact ⟨rfl, by (repeat' (first | exact Ext.refl _ | assumption | apply Ext.alloc | apply Ext.drew | refine Ext.set ?_ (by dsimp only; omega) _ | refine Ext.trans ?_ (by assumption)))⟩
set_option maxRecDepth 4000 in
set_option maxHeartbeats 1000000 in
theorem OwnBoxes_c (A : Option Addr) (n c : Nat) (l : List Bx) (w : World) (hl : Bxs w A n l) (hb : n ≤ 100000) :
    Calls Tryz.prog 22 #[.slice A n c] w fun e w' => ∃ v, e = .returned v ∧ OwnBxs w.heap.size w' v l ∧ Ext w w' := by
  have HL := Lib.hid fun W (hW : Ext w W) => Bxs.ext hW hl
  have H2 := Lib.hid hl.len
  obtain ⟨ic, hic, hc0, hc1, hc2⟩ := info_parts info_box
  clear hl
  go_enter Tryz.func22, Tryz.ntmps22
  go_wp2_with (at_builtin; go_loud (refine wpList_append_sl rfl (.tmp 3) (.tmp 4) 39 rfl w.heap.size 38 ic _ 8 64 Tryz.underlying39 hic hc0 hc1 hc2 rfl (by decide) _ 0 [] rfl (own_made (by simp) (by omega)) A n c (l.flatMap bxC) rfl (by rw [flat_len box_len, ← H2.out]) (sl_news box_len (box_news _) (HL.out _ (by (repeat' (first | exact Ext.refl _ | assumption | apply Ext.alloc | apply Ext.drew | refine Ext.set ?_ (by dsimp only; omega) _ | refine Ext.trans ?_ (by assumption)))))) (flat_one box_one _) (by unfold maxLen; omega) (by omega) (by simp) ?_))
  intro v3 w3 ho3 hg3 hn3
  have e3 := grown_ext (Ext.alloc0 _ _) hg3 (by intro j hj; simp [Value.ownBlock] at hj; omega)
  have ho : OwnBxs w.heap.size w3 v3 l := by
    unfold OwnBxs
    rw [← H2.out]
    simpa using ho3
  go_wp2_with fail
  go_ret
  exact ⟨_, rfl, ho, by (repeat' (first | exact Ext.refl _ | assumption | apply Ext.alloc | apply Ext.drew | refine Ext.set ?_ (by dsimp only; omega) _ | refine Ext.trans ?_ (by assumption)))⟩
set_option maxRecDepth 4000 in
set_option maxHeartbeats 1000000 in
theorem CloneBox_c (A : Option Addr) (n c : Nat) (l : List Bx) (w : World) (hl : Bxs w A n l) (hb : n ≤ 100000) :
    Calls Tryz.prog 76 #[.slice A n c] w fun e w' => ∃ v, e = .returned v ∧ OwnBxs w.heap.size w' v l ∧ Ext w w' := by
  have HL := Lib.hid fun W (hW : Ext w W) => Bxs.ext hW hl
  have H2 := Lib.hid hl.len
  have hnil := fun W => Lib.run_eql_slice_nil (P := Tryz.prog) W 39 38 A n c 0 0 Tryz.underlying39
  obtain ⟨ic, hic, hc0, hc1, hc2⟩ := info_parts info_box
  cases A with
  | none =>
    have h0 : n = 0 := by
      rcases hl.2.2 with h | ⟨_, _, h, _⟩
      · exact h
      · cases h
    subst h0
    have hnil : l = [] := List.eq_nil_of_length_eq_zero H2.out.symm
    subst hnil
    clear hl
    go_enter Tryz.func76, Tryz.ntmps76
    go_wp2_with fail
    go_ret
    exact ⟨_, rfl, OwnBxs.nil _ _, by (repeat' (first | exact Ext.refl _ | assumption | apply Ext.alloc | apply Ext.drew | refine Ext.set ?_ (by dsimp only; omega) _ | refine Ext.trans ?_ (by assumption)))⟩
  | some a =>
    clear hl
    go_enter Tryz.func76, Tryz.ntmps76
    go_wp2_with (at_builtin; go_loud (refine wpList_append_sl rfl (.tmp 5) (.tmp 6) 39 rfl w.heap.size 38 ic _ 8 64 Tryz.underlying39 hic hc0 hc1 hc2 rfl (by decide) _ 0 [] rfl (own_made (by simp) (by omega)) (some a) n c (l.flatMap bxC) rfl (by rw [flat_len box_len, ← H2.out]) (sl_news box_len (box_news _) (HL.out _ (by (repeat' (first | exact Ext.refl _ | assumption | apply Ext.alloc | apply Ext.drew | refine Ext.set ?_ (by dsimp only; omega) _ | refine Ext.trans ?_ (by assumption)))))) (flat_one box_one _) (by unfold maxLen; omega) (by omega) (by simp) ?_))
    intro v3 w3 ho3 hg3 hn3
    have e3 := grown_ext (Ext.alloc0 _ _) hg3 (by intro j hj; simp [Value.ownBlock] at hj; omega)
    have ho : OwnBxs w.heap.size w3 v3 l := by
      unfold OwnBxs
      rw [← H2.out]
      simpa using ho3
    go_wp2_with fail
    go_ret
    exact ⟨_, rfl, ho, by (repeat' (first | exact Ext.refl _ | assumption | apply Ext.alloc | apply Ext.drew | refine Ext.set ?_ (by dsimp only; omega) _ | refine Ext.trans ?_ (by assumption)))⟩
end Go.Proofs.YtfniicgoeljmdaaGreat

namespace Go.Proofs.YtfniicgoeljmdaaGreat
open Go.RowKit

set_option maxHeartbeats 400000 in
theorem rBetween_c (a b c : Int) (w : World) :
    Calls Tryz.prog 71 #[.int .i64 a, .int .i64 b, .int .i64 c] w fun e w' => e = .returned (.bool (within a b c)) ∧ Ext w w' := by
  go_enter Tryz.func71, Tryz.ntmps71
  go_wp2
  all_goals go_ret
  all_goals exact ⟨ret_b (by simp [within, *] <;> omega), Ext.refl _⟩
theorem stErr_gOK (s : St) : stErr s = if gOK s then 0 else 2 := by
  unfold stErr gOK near
  dsimp only
  simp only [Bool.and_assoc]
set_option maxHeartbeats 400000 in
theorem rCheckState_c (x y u v : Int) (w : World) :
    Calls Tryz.prog 36 #[.agg #[.int .i64 x, .int .i64 y, .int .i64 u, .int .i64 v]] w fun e w' => e = .returned (.int .i64 (stErr ⟨x, y, u, v⟩)) ∧ Ext w w' := by
  have H := Lib.hid fun W => Guess_c x y u v W
  rw [stErr_gOK]
  generalize gOK ⟨x, y, u, v⟩ = B at *
  go_enter Tryz.func36, Tryz.ntmps36
  go_wp2_with fail
  refine (H.out _).mono ?_
  rintro e w1 ⟨rfl, h1⟩
  cases B
  · go_wp2_with fail
    go_ret
    exact ⟨rfl, by (repeat' (first | exact Ext.refl _ | assumption | apply Ext.alloc | apply Ext.drew | refine Ext.set ?_ (by dsimp only; omega) _ | refine Ext.trans ?_ (by assumption)))⟩
  · go_wp2_with fail
    go_ret
    exact ⟨rfl, by (repeat' (first | exact Ext.refl _ | assumption | apply Ext.alloc | apply Ext.drew | refine Ext.set ?_ (by dsimp only; omega) _ | refine Ext.trans ?_ (by assumption)))⟩
theorem rLow_c (xl xh yl yh ul uh vl vh : Int) (w : World) :
    Calls Tryz.prog 96 #[.agg #[.int .i64 xl, .int .i64 xh, .int .i64 yl, .int .i64 yh, .int .i64 ul, .int .i64 uh, .int .i64 vl, .int .i64 vh]] w fun e w' => e = .returned (.agg #[.int .i64 xl, .int .i64 yl, .int .i64 ul, .int .i64 vl]) ∧ Ext w w' := by
  go_enter Tryz.func96, Tryz.ntmps96
  go_wp2_with fail
  (try simp only [Exit.inBlock, Exit.then]); apply bodyPost_ret; (focus (simp only [results, Tryz.results96]; go_simp; try rfl)); rfl
  exact ⟨rfl, by (repeat' (first | exact Ext.refl _ | assumption | apply Ext.alloc | apply Ext.drew | refine Ext.set ?_ (by dsimp only; omega) _ | refine Ext.trans ?_ (by assumption)))⟩
theorem rHigh_c (xl xh yl yh ul uh vl vh : Int) (w : World) :
    Calls Tryz.prog 97 #[.agg #[.int .i64 xl, .int .i64 xh, .int .i64 yl, .int .i64 yh, .int .i64 ul, .int .i64 uh, .int .i64 vl, .int .i64 vh]] w fun e w' => e = .returned (.agg #[.int .i64 xh, .int .i64 yh, .int .i64 uh, .int .i64 vh]) ∧ Ext w w' := by
  go_enter Tryz.func97, Tryz.ntmps97
  go_wp2_with fail
  (try simp only [Exit.inBlock, Exit.then]); apply bodyPost_ret; (focus (simp only [results, Tryz.results97]; go_simp; try rfl)); rfl
  exact ⟨rfl, by (repeat' (first | exact Ext.refl _ | assumption | apply Ext.alloc | apply Ext.drew | refine Ext.set ?_ (by dsimp only; omega) _ | refine Ext.trans ?_ (by assumption)))⟩
set_option maxHeartbeats 1000000 in
theorem rFull_c (xl xh yl yh ul uh vl vh : Int) (w : World) :
    Calls Tryz.prog 95 #[.agg #[.int .i64 xl, .int .i64 xh, .int .i64 yl, .int .i64 yh, .int .i64 ul, .int .i64 uh, .int .i64 vl, .int .i64 vh]] w fun e w' => e = .returned (.bool (fullB ⟨⟨xl, xh⟩, ⟨yl, yh⟩, ⟨ul, uh⟩, vl, vh⟩)) ∧ Ext w w' := by
  unfold fullB
  dsimp only
  go_enter Tryz.func95, Tryz.ntmps95
  go_wp2_with fail
  all_goals (try simp only [Exit.inBlock, Exit.then]); apply bodyPost_ret; (focus (simp only [results, Tryz.results95]; go_simp; try rfl)); rfl
  all_goals exact ⟨ret_b (by simp [*] <;> omega), by (repeat' (first | exact Ext.refl _ | assumption | apply Ext.alloc | apply Ext.drew | refine Ext.set ?_ (by dsimp only; omega) _ | refine Ext.trans ?_ (by assumption)))⟩
set_option maxRecDepth 20000 in
set_option maxHeartbeats 2000000 in
theorem rCheckBox_c (b : Bx) (w : World) :
    Calls Tryz.prog 38 #[.agg #[.int .i64 b.x.lo, .int .i64 b.x.hi, .int .i64 b.y.lo, .int .i64 b.y.hi, .int .i64 b.u.lo, .int .i64 b.u.hi, .int .i64 b.v.lo, .int .i64 b.v.hi]] w fun e w' => e = .returned (.int .i64 (bxErr b)) ∧ Ext w w' := by
  obtain ⟨⟨xl, xh⟩, ⟨yl, yh⟩, ⟨ul, uh⟩, vl, vh⟩ := b
  have HF := Lib.hid fun W => rFull_c xl xh yl yh ul uh vl vh W
  have HL := Lib.hid fun W => rLow_c xl xh yl yh ul uh vl vh W
  have HH := Lib.hid fun W => rHigh_c xl xh yl yh ul uh vl vh W
  have HS := Lib.hid fun W => rCheckState_c xl yl ul vl W
  have HT := Lib.hid fun W => rCheckState_c xh yh uh vh W
  have s1 := stErr_two ⟨xl, yl, ul, vl⟩
  have s2 := stErr_two ⟨xh, yh, uh, vh⟩
  unfold bxErr lowS highS
  dsimp only
  generalize fullB ⟨⟨xl, xh⟩, ⟨yl, yh⟩, ⟨ul, uh⟩, vl, vh⟩ = F at *
  generalize stErr ⟨xl, yl, ul, vl⟩ = E1 at *
  generalize stErr ⟨xh, yh, uh, vh⟩ = E2 at *
  cases F
  · clear s1 s2 HS HT HL HH
    go_enter Tryz.func38, Tryz.ntmps38
    go_wp2_with fail
    refine (HF.out _).mono ?_
    rintro e w1 ⟨rfl, h1⟩
    obtain ⟨hc_w1, hf_w1, hz_w1⟩ := bcell h1; (repeat (first | rw [World.size_alloc] at hz_w1 | rw [World.size_drew] at hz_w1 | rw [World.size_setCell] at hz_w1)); (try (have : w.heap.size < w1.heap.size := (by omega))); (try (have : w.heap.size + 1 < w1.heap.size := (by omega))); (try (have : w.heap.size + 1 + 1 < w1.heap.size := (by omega))); (try (have : w.heap.size + 1 + 1 + 1 < w1.heap.size := (by omega))); (try (have : w.heap.size + 1 + 1 + 1 + 1 < w1.heap.size := (by omega)))
    go_wp2_with fail
    go_ret
    exact ⟨rfl, by (repeat' (first | exact Ext.refl _ | assumption | apply Ext.alloc | apply Ext.drew | refine Ext.set ?_ (by dsimp only; omega) _ | refine Ext.trans ?_ (by assumption)))⟩
  · rcases s1 with rfl | rfl
    · rcases s2 with rfl | rfl
      · go_enter Tryz.func38, Tryz.ntmps38
        go_wp2_with fail
        refine (HF.out _).mono ?_
        rintro e w1 ⟨rfl, h1⟩
        obtain ⟨hc_w1, hf_w1, hz_w1⟩ := bcell h1; (repeat (first | rw [World.size_alloc] at hz_w1 | rw [World.size_drew] at hz_w1 | rw [World.size_setCell] at hz_w1)); (try (have : w.heap.size < w1.heap.size := (by omega))); (try (have : w.heap.size + 1 < w1.heap.size := (by omega))); (try (have : w.heap.size + 1 + 1 < w1.heap.size := (by omega))); (try (have : w.heap.size + 1 + 1 + 1 < w1.heap.size := (by omega))); (try (have : w.heap.size + 1 + 1 + 1 + 1 < w1.heap.size := (by omega)))
        go_wp2_with fail
        refine (HL.out _).mono ?_
        rintro e w2 ⟨rfl, h2⟩
        obtain ⟨hc_w2, hf_w2, hz_w2⟩ := bcell h2; (repeat (first | rw [World.size_alloc] at hz_w2 | rw [World.size_drew] at hz_w2 | rw [World.size_setCell] at hz_w2)); (try (have : w.heap.size < w2.heap.size := (by omega))); (try (have : w.heap.size + 1 < w2.heap.size := (by omega))); (try (have : w.heap.size + 1 + 1 < w2.heap.size := (by omega))); (try (have : w.heap.size + 1 + 1 + 1 < w2.heap.size := (by omega))); (try (have : w.heap.size + 1 + 1 + 1 + 1 < w2.heap.size := (by omega)))
        go_wp2_with fail
        refine (HS.out _).mono ?_
        rintro e w3 ⟨rfl, h3⟩
        obtain ⟨hc_w3, hf_w3, hz_w3⟩ := bcell h3; (repeat (first | rw [World.size_alloc] at hz_w3 | rw [World.size_drew] at hz_w3 | rw [World.size_setCell] at hz_w3)); (try (have : w.heap.size < w3.heap.size := (by omega))); (try (have : w.heap.size + 1 < w3.heap.size := (by omega))); (try (have : w.heap.size + 1 + 1 < w3.heap.size := (by omega))); (try (have : w.heap.size + 1 + 1 + 1 < w3.heap.size := (by omega))); (try (have : w.heap.size + 1 + 1 + 1 + 1 < w3.heap.size := (by omega)))
        go_wp2_with fail
        refine (HH.out _).mono ?_
        rintro e w4 ⟨rfl, h4⟩
        obtain ⟨hc_w4, hf_w4, hz_w4⟩ := bcell h4; (repeat (first | rw [World.size_alloc] at hz_w4 | rw [World.size_drew] at hz_w4 | rw [World.size_setCell] at hz_w4)); (try (have : w.heap.size < w4.heap.size := (by omega))); (try (have : w.heap.size + 1 < w4.heap.size := (by omega))); (try (have : w.heap.size + 1 + 1 < w4.heap.size := (by omega))); (try (have : w.heap.size + 1 + 1 + 1 < w4.heap.size := (by omega))); (try (have : w.heap.size + 1 + 1 + 1 + 1 < w4.heap.size := (by omega)))
        go_wp2_with fail
        refine (HT.out _).mono ?_
        rintro e w5 ⟨rfl, h5⟩
        obtain ⟨hc_w5, hf_w5, hz_w5⟩ := bcell h5; (repeat (first | rw [World.size_alloc] at hz_w5 | rw [World.size_drew] at hz_w5 | rw [World.size_setCell] at hz_w5)); (try (have : w.heap.size < w5.heap.size := (by omega))); (try (have : w.heap.size + 1 < w5.heap.size := (by omega))); (try (have : w.heap.size + 1 + 1 < w5.heap.size := (by omega))); (try (have : w.heap.size + 1 + 1 + 1 < w5.heap.size := (by omega))); (try (have : w.heap.size + 1 + 1 + 1 + 1 < w5.heap.size := (by omega)))
        go_wp2_with fail
        go_ret
        exact ⟨rfl, by (repeat' (first | exact Ext.refl _ | assumption | apply Ext.alloc | apply Ext.drew | refine Ext.set ?_ (by dsimp only; omega) _ | refine Ext.trans ?_ (by assumption)))⟩
      · go_enter Tryz.func38, Tryz.ntmps38
        go_wp2_with fail
        refine (HF.out _).mono ?_
        rintro e w1 ⟨rfl, h1⟩
        obtain ⟨hc_w1, hf_w1, hz_w1⟩ := bcell h1; (repeat (first | rw [World.size_alloc] at hz_w1 | rw [World.size_drew] at hz_w1 | rw [World.size_setCell] at hz_w1)); (try (have : w.heap.size < w1.heap.size := (by omega))); (try (have : w.heap.size + 1 < w1.heap.size := (by omega))); (try (have : w.heap.size + 1 + 1 < w1.heap.size := (by omega))); (try (have : w.heap.size + 1 + 1 + 1 < w1.heap.size := (by omega))); (try (have : w.heap.size + 1 + 1 + 1 + 1 < w1.heap.size := (by omega)))
        go_wp2_with fail
        refine (HL.out _).mono ?_
        rintro e w2 ⟨rfl, h2⟩
        obtain ⟨hc_w2, hf_w2, hz_w2⟩ := bcell h2; (repeat (first | rw [World.size_alloc] at hz_w2 | rw [World.size_drew] at hz_w2 | rw [World.size_setCell] at hz_w2)); (try (have : w.heap.size < w2.heap.size := (by omega))); (try (have : w.heap.size + 1 < w2.heap.size := (by omega))); (try (have : w.heap.size + 1 + 1 < w2.heap.size := (by omega))); (try (have : w.heap.size + 1 + 1 + 1 < w2.heap.size := (by omega))); (try (have : w.heap.size + 1 + 1 + 1 + 1 < w2.heap.size := (by omega)))
        go_wp2_with fail
        refine (HS.out _).mono ?_
        rintro e w3 ⟨rfl, h3⟩
        obtain ⟨hc_w3, hf_w3, hz_w3⟩ := bcell h3; (repeat (first | rw [World.size_alloc] at hz_w3 | rw [World.size_drew] at hz_w3 | rw [World.size_setCell] at hz_w3)); (try (have : w.heap.size < w3.heap.size := (by omega))); (try (have : w.heap.size + 1 < w3.heap.size := (by omega))); (try (have : w.heap.size + 1 + 1 < w3.heap.size := (by omega))); (try (have : w.heap.size + 1 + 1 + 1 < w3.heap.size := (by omega))); (try (have : w.heap.size + 1 + 1 + 1 + 1 < w3.heap.size := (by omega)))
        go_wp2_with fail
        refine (HH.out _).mono ?_
        rintro e w4 ⟨rfl, h4⟩
        obtain ⟨hc_w4, hf_w4, hz_w4⟩ := bcell h4; (repeat (first | rw [World.size_alloc] at hz_w4 | rw [World.size_drew] at hz_w4 | rw [World.size_setCell] at hz_w4)); (try (have : w.heap.size < w4.heap.size := (by omega))); (try (have : w.heap.size + 1 < w4.heap.size := (by omega))); (try (have : w.heap.size + 1 + 1 < w4.heap.size := (by omega))); (try (have : w.heap.size + 1 + 1 + 1 < w4.heap.size := (by omega))); (try (have : w.heap.size + 1 + 1 + 1 + 1 < w4.heap.size := (by omega)))
        go_wp2_with fail
        refine (HT.out _).mono ?_
        rintro e w5 ⟨rfl, h5⟩
        obtain ⟨hc_w5, hf_w5, hz_w5⟩ := bcell h5; (repeat (first | rw [World.size_alloc] at hz_w5 | rw [World.size_drew] at hz_w5 | rw [World.size_setCell] at hz_w5)); (try (have : w.heap.size < w5.heap.size := (by omega))); (try (have : w.heap.size + 1 < w5.heap.size := (by omega))); (try (have : w.heap.size + 1 + 1 < w5.heap.size := (by omega))); (try (have : w.heap.size + 1 + 1 + 1 < w5.heap.size := (by omega))); (try (have : w.heap.size + 1 + 1 + 1 + 1 < w5.heap.size := (by omega)))
        go_wp2_with fail
        go_ret
        exact ⟨rfl, by (repeat' (first | exact Ext.refl _ | assumption | apply Ext.alloc | apply Ext.drew | refine Ext.set ?_ (by dsimp only; omega) _ | refine Ext.trans ?_ (by assumption)))⟩
    · have hm : max 2 E2 = 2 := by omega
      rw [hm]
      clear s2 hm
      go_enter Tryz.func38, Tryz.ntmps38
      go_wp2_with fail
      refine (HF.out _).mono ?_
      rintro e w1 ⟨rfl, h1⟩
      obtain ⟨hc_w1, hf_w1, hz_w1⟩ := bcell h1; (repeat (first | rw [World.size_alloc] at hz_w1 | rw [World.size_drew] at hz_w1 | rw [World.size_setCell] at hz_w1)); (try (have : w.heap.size < w1.heap.size := (by omega))); (try (have : w.heap.size + 1 < w1.heap.size := (by omega))); (try (have : w.heap.size + 1 + 1 < w1.heap.size := (by omega))); (try (have : w.heap.size + 1 + 1 + 1 < w1.heap.size := (by omega))); (try (have : w.heap.size + 1 + 1 + 1 + 1 < w1.heap.size := (by omega)))
      go_wp2_with fail
      refine (HL.out _).mono ?_
      rintro e w2 ⟨rfl, h2⟩
      obtain ⟨hc_w2, hf_w2, hz_w2⟩ := bcell h2; (repeat (first | rw [World.size_alloc] at hz_w2 | rw [World.size_drew] at hz_w2 | rw [World.size_setCell] at hz_w2)); (try (have : w.heap.size < w2.heap.size := (by omega))); (try (have : w.heap.size + 1 < w2.heap.size := (by omega))); (try (have : w.heap.size + 1 + 1 < w2.heap.size := (by omega))); (try (have : w.heap.size + 1 + 1 + 1 < w2.heap.size := (by omega))); (try (have : w.heap.size + 1 + 1 + 1 + 1 < w2.heap.size := (by omega)))
      go_wp2_with fail
      refine (HS.out _).mono ?_
      rintro e w3 ⟨rfl, h3⟩
      obtain ⟨hc_w3, hf_w3, hz_w3⟩ := bcell h3; (repeat (first | rw [World.size_alloc] at hz_w3 | rw [World.size_drew] at hz_w3 | rw [World.size_setCell] at hz_w3)); (try (have : w.heap.size < w3.heap.size := (by omega))); (try (have : w.heap.size + 1 < w3.heap.size := (by omega))); (try (have : w.heap.size + 1 + 1 < w3.heap.size := (by omega))); (try (have : w.heap.size + 1 + 1 + 1 < w3.heap.size := (by omega))); (try (have : w.heap.size + 1 + 1 + 1 + 1 < w3.heap.size := (by omega)))
      go_wp2_with fail
      go_ret
      exact ⟨rfl, by (repeat' (first | exact Ext.refl _ | assumption | apply Ext.alloc | apply Ext.drew | refine Ext.set ?_ (by dsimp only; omega) _ | refine Ext.trans ?_ (by assumption)))⟩
set_option maxRecDepth 20000 in
set_option maxHeartbeats 2000000 in
theorem rCheckSet_c (A : Option Addr) (n c : Nat) (l : List Bx) (w : World) (hl : Bxs w A n l) :
    Calls Tryz.prog 40 #[.slice A n c] w fun e w' => e = .returned (.int .i64 (setErr l)) ∧ Ext w w' := by
  have hn := hl.le
  have hln := Lib.hid hl.len
  by_cases h512 : 512 < n
  · have hs : setErr l = 8 := by rw [setErr, if_pos (by have := hl.len; omega)]
    rw [hs]
    go_enter Tryz.func40, Tryz.ntmps40
    go_wp2_with fail
    go_ret
    exact ⟨rfl, by (repeat' (first | exact Ext.refl _ | assumption | apply Ext.alloc | apply Ext.drew | refine Ext.set ?_ (by dsimp only; omega) _ | refine Ext.trans ?_ (by assumption)))⟩
  · obtain ⟨T, hT⟩ : ∃ T, setErr l = T := ⟨_, rfl⟩
    rw [hT]
    have hT2 : boxesErr l = T := by rw [← hT, setErr, if_neg (by have := hl.len; omega)]
    have HT := Lib.hid hT2
    clear hT hT2
    go_enter Tryz.func40, Tryz.ntmps40
    go_wp2_with fail
    go_loopw [3] (fun i wr => ∃ k : Nat, k ≤ n ∧ i = .int .i64 k ∧ Hid (boxesErr (l.drop k) = T) ∧ Ext w wr) (fun i _ => n - (intOf i).toNat)
    case atStart => exact ⟨0, Nat.zero_le _, rfl, HT.out, Ext.refl _⟩
    case round =>
      obtain ⟨k, hk, rfl, HI, hb⟩ := hrel
      by_cases hlt : k < n
      · obtain ⟨b, off, x, rfl, HD, hxm, hx⟩ := hl.one hlt
        obtain ⟨hx0, hx1, hx2, hx3, hx4, hx5, hx6, hx7⟩ := bxAt.ext hb hx
        have hbl : b < wr.heap.size := World.block_lt_of_cell? wr _ hx0
        have HC := Lib.hid fun W => rCheckBox_c x W
        have hi := HI.out
        rw [HD.out, boxesErr] at hi
        generalize bxErr x = E at *
        obtain ⟨⟨xl, xh⟩, ⟨yl, yh⟩, ⟨ul, uh⟩, vl, vh⟩ := x
        dsimp only at hx0 hx1 hx2 hx3 hx4 hx5 hx6 hx7 HC
        by_cases hE : E = 0
        · subst hE
          rw [if_pos rfl] at hi
          have Hi := Lib.hid hi
          clear hi
          go_wp2_with fail
          refine (HC.out _).mono ?_
          rintro e w1 ⟨rfl, h1⟩
          obtain ⟨hc_w1, hf_w1, hz_w1⟩ := bcell h1; (repeat (first | rw [World.size_alloc] at hz_w1 | rw [World.size_drew] at hz_w1 | rw [World.size_setCell] at hz_w1)); (try (have : w.heap.size < w1.heap.size := (by omega))); (try (have : w.heap.size + 1 < w1.heap.size := (by omega))); (try (have : w.heap.size + 1 + 1 < w1.heap.size := (by omega))); (try (have : w.heap.size + 1 + 1 + 1 < w1.heap.size := (by omega))); (try (have : w.heap.size + 1 + 1 + 1 + 1 < w1.heap.size := (by omega)))
          go_wp2_with fail
          go_roundw
          case rel => exact ⟨k + 1, by omega, by go_num, Hi, by (repeat' (first | exact Ext.refl _ | assumption | apply Ext.alloc | apply Ext.drew | refine Ext.set ?_ (by dsimp only; omega) _ | refine Ext.trans ?_ (by assumption)))⟩
          case measure => simp [intOf]; omega
        · rw [if_neg hE] at hi
          have Hi := Lib.hid hi
          have hEn : (E != 0) = true := by simpa using hE
          clear hi
          go_wp2_with fail
          refine (HC.out _).mono ?_
          rintro e w1 ⟨rfl, h1⟩
          obtain ⟨hc_w1, hf_w1, hz_w1⟩ := bcell h1; (repeat (first | rw [World.size_alloc] at hz_w1 | rw [World.size_drew] at hz_w1 | rw [World.size_setCell] at hz_w1)); (try (have : w.heap.size < w1.heap.size := (by omega))); (try (have : w.heap.size + 1 < w1.heap.size := (by omega))); (try (have : w.heap.size + 1 + 1 < w1.heap.size := (by omega))); (try (have : w.heap.size + 1 + 1 + 1 < w1.heap.size := (by omega))); (try (have : w.heap.size + 1 + 1 + 1 + 1 < w1.heap.size := (by omega)))
          go_wp2_with fail
          go_ret
          exact ⟨ret_i Hi.out, by (repeat' (first | exact Ext.refl _ | assumption | apply Ext.alloc | apply Ext.drew | refine Ext.set ?_ (by dsimp only; omega) _ | refine Ext.trans ?_ (by assumption)))⟩
      · have hkn : k = n := by omega
        have hi := HI.out
        rw [hkn, hln.out, List.drop_length] at hi
        have Hi := Lib.hid hi
        clear hi
        go_wp2_with fail
        go_ret
        exact ⟨ret_i Hi.out, hb⟩
end Go.Proofs.YtfniicgoeljmdaaGreat

namespace Go.Proofs.YtfniicgoeljmdaaGreat
open Go.RowKit Go.ChangeShapes Go.WideShapes Go.ChangeAt

section
variable {H : Type} {enc : TypeId × Value → H} {w : World} {base : Nat} {spare : Nat → Bool} {held : Bool}
theorem cells_box : Tryz.prog.cellsOf 38 = 8 := by kernel_rfl
theorem cells_drift : Tryz.prog.cellsOf 28 = 5 := by kernel_rfl
theorem len5 {α : Type} {cs : List α} (h : cs.length = 5) : ∃ a0 a1 a2 a3 a4, cs = [a0, a1, a2, a3, a4] := by
  match cs, h with
  | [a0, a1, a2, a3, a4], _ => exact ⟨a0, a1, a2, a3, a4, rfl⟩
theorem len8 {α : Type} {cs : List α} (h : cs.length = 8) : ∃ a0 a1 a2 a3 a4 a5 a6 a7, cs = [a0, a1, a2, a3, a4, a5, a6, a7] := by
  match cs, h with
  | [a0, a1, a2, a3, a4, a5, a6, a7], _ => exact ⟨a0, a1, a2, a3, a4, a5, a6, a7, rfl⟩
theorem open_box {fuel : Nat} {cs : List Value} {x : DataW H × List MemPlace} (h : DataW.trod enc Tryz.prog w base spare held fuel 38 cs = some x) : ∃ b : Bx, cs = [.int .i64 b.x.lo, .int .i64 b.x.hi, .int .i64 b.y.lo, .int .i64 b.y.hi, .int .i64 b.u.lo, .int .i64 b.u.hi, .int .i64 b.v.lo, .int .i64 b.v.hi] := by
  obtain ⟨hl, n, hf⟩ := open_field Tryz.underlying38 h
  obtain ⟨a0, a1, a2, a3, a4, a5, a6, a7, rfl⟩ := len8 (hl.trans cells_box)
  obtain ⟨_, h0⟩ := hf 0 _ 0 _ rfl cells_span
  obtain ⟨p0, e0⟩ := open_span (show DataW.trod enc Tryz.prog w base spare held n 26 [a0, a1] = some _ from h0)
  injection e0 with e0a e0b; injection e0b with e0b; subst e0a e0b
  obtain ⟨_, h1⟩ := hf 1 _ 2 _ rfl cells_span
  obtain ⟨p1, e1⟩ := open_span (show DataW.trod enc Tryz.prog w base spare held n 26 [a2, a3] = some _ from h1)
  injection e1 with e1a e1b; injection e1b with e1b; subst e1a e1b
  obtain ⟨_, h2⟩ := hf 2 _ 4 _ rfl cells_span
  obtain ⟨p2, e2⟩ := open_span (show DataW.trod enc Tryz.prog w base spare held n 26 [a4, a5] = some _ from h2)
  injection e2 with e2a e2b; injection e2b with e2b; subst e2a e2b
  obtain ⟨_, h3⟩ := hf 3 _ 6 _ rfl cells_span
  obtain ⟨p3, e3⟩ := open_span (show DataW.trod enc Tryz.prog w base spare held n 26 [a6, a7] = some _ from h3)
  injection e3 with e3a e3b; injection e3b with e3b; subst e3a e3b
  exact ⟨⟨⟨p0.x, p0.y⟩, ⟨p1.x, p1.y⟩, ⟨p2.x, p2.y⟩, p3.x, p3.y⟩, rfl⟩
theorem open_drift {fuel : Nat} {cs : List Value} {x : DataW H × List MemPlace} (h : DataW.trod enc Tryz.prog w base spare held fuel 28 cs = some x) : ∃ d : Drf, cs = [.int .i64 d.light.lo, .int .i64 d.light.hi, .int .i64 d.heat.lo, .int .i64 d.heat.hi, .int .i64 d.gas] := by
  obtain ⟨hl, n, hf⟩ := open_field Tryz.underlying28 h
  obtain ⟨a0, a1, a2, a3, a4, rfl⟩ := len5 (hl.trans cells_drift)
  obtain ⟨_, h0⟩ := hf 0 _ 0 _ rfl cells_span
  obtain ⟨p0, e0⟩ := open_span (show DataW.trod enc Tryz.prog w base spare held n 26 [a0, a1] = some _ from h0)
  injection e0 with e0a e0b; injection e0b with e0b; subst e0a e0b
  obtain ⟨_, h1⟩ := hf 1 _ 2 _ rfl cells_span
  obtain ⟨p1, e1⟩ := open_span (show DataW.trod enc Tryz.prog w base spare held n 26 [a2, a3] = some _ from h1)
  injection e1 with e1a e1b; injection e1b with e1b; subst e1a e1b
  obtain ⟨_, h2⟩ := hf 2 _ 4 _ rfl cells_int64
  obtain ⟨b2, e2⟩ := open_i64 Tryz.underlying2 (show DataW.trod enc Tryz.prog w base spare held n 2 [a4] = some _ from h2)
  obtain rfl : a4 = .int .i64 b2 := by injection e2
  exact ⟨⟨⟨p0.x, p0.y⟩, ⟨p1.x, p1.y⟩, b2⟩, rfl⟩
end
section
variable {H : Type} {enc : TypeId × Value → H} {w : World} {base : Nat}
instance : Inhabited Bx := ⟨zeroB⟩
theorem elt_box (n b o : Nat) (cs : List Value) (y : DataW H × List MemPlace) (hc : ∀ i, i < 8 → w.cell? ⟨b, o + i, none⟩ = cs[i]?) (_ : cs.length = 8) (h : DataW.trod enc Tryz.prog w base (fun _ => true) true n 38 cs = some y) : ∃ x, bxAt w x b o := by
  obtain ⟨p, rfl⟩ := open_box h
  exact ⟨p, hc 0 (by omega), hc 1 (by omega), hc 2 (by omega), hc 3 (by omega), hc 4 (by omega), hc 5 (by omega), hc 6 (by omega), hc 7 (by omega)⟩
theorem open_cap {t e : TypeId} {fuel : Nat} {A : Option Addr} {n c : Nat} {x : DataW H × List MemPlace} (ht : Tryz.prog.underlying t = some (.slice e)) (h : DataW.trod enc Tryz.prog w base (fun _ => true) true fuel t [.slice A n c] = some x) : n ≤ c := by
  rcases DataW.trod_slice ht h with ⟨h0, _⟩ | ⟨a, len, cap, elems, rest, m, _, h1, _, _, hl, _⟩
  · injection h0 with h0 _
    injection h0 with h1 h2 h3
    omega
  · injection h1 with h0 _
    injection h0 with h1 h2 h3
    omega
theorem open_boxes {fuel : Nat} {cs : List Value} {x : DataW H × List MemPlace} (h : DataW.trod enc Tryz.prog w base (fun _ => true) true fuel 39 cs = some x) : ∃ A n c l, cs = [.slice A n c] ∧ Bxs w A n l ∧ n ≤ c := by
  obtain ⟨A, n, c, l, rfl, hl⟩ := open_sl (by omega) Tryz.underlying39 cells_box elt_box h
  exact ⟨A, n, c, l, rfl, hl, open_cap Tryz.underlying39 h⟩
end
end Go.Proofs.YtfniicgoeljmdaaGreat
