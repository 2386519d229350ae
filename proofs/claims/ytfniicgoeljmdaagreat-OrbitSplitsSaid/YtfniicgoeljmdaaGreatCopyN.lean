/- States in sets, sets in sets, and the least box that contains boxes: the program. No condition. The least box that contains all boxes of a set: the program. No condition. Sets of boxes that the call itself makes; sets that are equal; copies. No condition. copy of elements of several cells. No condition. -/
import Derived.Test.YtfniicgoeljmdaaGreatBox
import Derived.Scope
import Derived.LoopN
import Derived.Laws.CopyRow
import Derived.Laws.CopyOwn
import Derived.Laws.Externs
import Derived.Lib.AppendZerosOnto
import Derived.Lib.Overlaps
namespace Go.Proofs.YtfniicgoeljmdaaGreat
open Go.RowKit


set_option maxHeartbeats 1000000 in
theorem oBox_c (xl xh yl yh ul uh vl vh : Int) (w : World) :
    Calls Tryz.prog 130 #[.agg #[.int .i64 xl, .int .i64 xh, .int .i64 yl, .int .i64 yh, .int .i64 ul, .int .i64 uh, .int .i64 vl, .int .i64 vh]] w fun e w' => e = .returned (.agg #[.int .i64 xl, .int .i64 xh, .int .i64 yl, .int .i64 yh, .int .i64 ul, .int .i64 uh, .int .i64 vl, .int .i64 vh]) ∧ Ext w w' := by
  go_enter Tryz.func130, Tryz.ntmps130
  go_wp2_with fail
  (try simp only [Exit.inBlock, Exit.then]); apply bodyPost_ret; (focus (simp only [results, Tryz.results130]; go_simp; try rfl)); rfl
  exact ⟨rfl, by (repeat' (first | exact Ext.refl _ | assumption | apply Ext.alloc | apply Ext.drew | refine Ext.set ?_ (by dsimp only; omega) _ | refine Ext.trans ?_ (by assumption)))⟩
end Go.Proofs.YtfniicgoeljmdaaGreat

namespace Go.Proofs.YtfniicgoeljmdaaGreat
open Go.RowKit

def zeroB : Bx := ⟨⟨0, 0⟩, ⟨0, 0⟩, ⟨0, 0⟩, ⟨0, 0⟩⟩
end Go.Proofs.YtfniicgoeljmdaaGreat

namespace Go.Proofs.YtfniicgoeljmdaaGreat
open Go.RowKit

theorem info_box : (Tryz.prog.info? 38).map (fun i => (i.zero, i.size, i.bytes)) = some (some (.agg #[.int .i64 0, .int .i64 0, .int .i64 0, .int .i64 0, .int .i64 0, .int .i64 0, .int .i64 0, .int .i64 0]), 8, 64) := by kernel_rfl
theorem box_len (x : Bx) : (bxC x).length = 8 := rfl
theorem box_news (w : World) (x : Bx) (b o : Nat) (h : bxAt w x b o) : ∀ i u, (bxC x)[i]? = some u → w.cell? ⟨b, o + i, none⟩ = some u
  | 0, _, hu => by rw [← hu]; exact h.1
  | 1, _, hu => by rw [← hu]; exact h.2.1
  | 2, _, hu => by rw [← hu]; exact h.2.2.1
  | 3, _, hu => by rw [← hu]; exact h.2.2.2.1
  | 4, _, hu => by rw [← hu]; exact h.2.2.2.2.1
  | 5, _, hu => by rw [← hu]; exact h.2.2.2.2.2.1
  | 6, _, hu => by rw [← hu]; exact h.2.2.2.2.2.2.1
  | 7, _, hu => by rw [← hu]; exact h.2.2.2.2.2.2.2
theorem box_one : ∀ x : Bx, ∀ u ∈ bxC x, u.oneCell' = true := by
  intro x u hu
  simp only [bxC, List.mem_cons, List.not_mem_nil, or_false] at hu
  rcases hu with rfl | rfl | rfl | rfl | rfl | rfl | rfl | rfl <;> rfl

def OwnBxs (base : Nat) (w : World) (v : Value) (l : List Bx) : Prop := w.ownsRow base 38 8 v l.length (l.flatMap bxC)
theorem OwnBxs.nil (base : Nat) (w : World) : OwnBxs base w (.slice none 0 0) [] := World.ownsRow_nil _ _ _ _
theorem OwnBxs.ext {base : Nat} {w w' : World} {v : Value} {l : List Bx} (h : OwnBxs base w v l) (e : Ext w w') : OwnBxs base w' v l := own_ext_keep h e
theorem OwnBxs.sl {base : Nat} {w : World} {v : Value} {l : List Bx} (h : OwnBxs base w v l) : ∃ A c, v = .slice A l.length c ∧ Bxs w A l.length l := own_sl box_len (bx_read w) h
theorem OwnBxs.mono {base base' : Nat} {w : World} {v : Value} {l : List Bx} (h : OwnBxs base w v l) (hb : base' ≤ base) : OwnBxs base' w v l := own_mono h hb
theorem OwnBxs.ofApp {base : Nat} {w : World} {v : Value} {l r : List Bx} {n : Nat} (hn : n = r.length) (h : w.ownsRow base 38 8 v (l.length + n) (l.flatMap bxC ++ r.flatMap bxC)) : OwnBxs base w v (l ++ r) := by
  subst hn
  unfold OwnBxs
  rw [List.length_append, List.flatMap_append]
  exact h
theorem OwnBxs.cap {base : Nat} {w : World} {v : Value} {l : List Bx} (h : OwnBxs base w v l) : ∃ A c, v = .slice A l.length c ∧ Bxs w A l.length l ∧ l.length ≤ c := by
  obtain ⟨A, c, rfl, hs⟩ := h.sl
  refine ⟨A, c, rfl, hs, ?_⟩
  rcases h.2 with ⟨h1, h2⟩ | ⟨g, cap, cur, h1, _, _, h3, _⟩
  · rw [h2]; exact Nat.zero_le _
  · injection h1 with _ _ h4; omega

set_option maxRecDepth 4000 in
set_option maxHeartbeats 1000000 in
theorem SameBoxes_c (A : Option Addr) (n c : Nat) (B : Option Addr) (m d : Nat) (l : List Bx) (w : World) (hl : Bxs w A n l) (hm : Bxs w B m l) :
    Calls Tryz.prog 27 #[.slice A n c, .slice B m d] w fun e w' => e = .returned (.bool true) ∧ Ext w w' := by
  have hn := hl.le
  obtain rfl : m = n := by rw [hl.len, hm.len]
  go_enter Tryz.func27, Tryz.ntmps27
  go_wp2_with fail
  go_loopw [5] (fun i wr => ∃ k : Nat, k ≤ m ∧ i = .int .i64 k ∧ Ext w wr) (fun i _ => m - (intOf i).toNat)
  case atStart => exact ⟨0, Nat.zero_le _, rfl, Ext.refl _⟩
  case round =>
    obtain ⟨k, hk, rfl, hb⟩ := hrel
    obtain ⟨hcb, hfb, hzb⟩ := bcell hb
    by_cases hlt : k < m
    · obtain ⟨b, off, x, rfl, HD, hxm, hx⟩ := hl.one hlt
      obtain ⟨b', off', y, rfl, HD', hym, hy⟩ := hm.one hlt
      obtain rfl : x = y := by
        have := HD.out.symm.trans HD'.out
        injection this
      obtain ⟨hx0, hx1, hx2, hx3, hx4, hx5, hx6, hx7⟩ := bxAt.ext hb hx
      obtain ⟨hy0, hy1, hy2, hy3, hy4, hy5, hy6, hy7⟩ := bxAt.ext hb hy
      have hbl : b < wr.heap.size := World.block_lt_of_cell? wr _ hx0
      have hbl' : b' < wr.heap.size := World.block_lt_of_cell? wr _ hy0
      clear hl hm hx hy hxm hym HD HD'
      obtain ⟨⟨xl, xh⟩, ⟨yl, yh⟩, ⟨ul, uh⟩, vl, vh⟩ := x
      dsimp only at hx0 hx1 hx2 hx3 hx4 hx5 hx6 hx7 hy0 hy1 hy2 hy3 hy4 hy5 hy6 hy7
      go_wp2_with fail
      refine wp_region_text (by kernel_rfl) (by kernel_rfl) ?_
      (repeat' (first | (refine bl_off (by rfl) ?_; simp only [Act.put, List.setIfInBounds_toArray, List.set_cons_zero, List.set_cons_succ]) | (apply bl_op; rfl; (intro w1 h1; obtain ⟨hc, hf, hz⟩ := bcell h1; go_simp; (try go_bits); (first | exact ⟨rfl, Ext.refl _⟩)); simp only [Act.put, List.setIfInBounds_toArray, List.set_cons_zero, List.set_cons_succ]) | (refine bl_split rfl rfl (fun hx => ?_) (fun hx => ?_) <;> simp only [hx])))
      refine bl_nil ?_
      intro w4 h4
      obtain ⟨hc_w4, hf_w4, hz_w4⟩ := bcell h4; (repeat (first | rw [World.size_alloc] at hz_w4 | rw [World.size_drew] at hz_w4 | rw [World.size_setCell] at hz_w4)); (try (have : w.heap.size < w4.heap.size := (by omega))); (try (have : w.heap.size + 1 < w4.heap.size := (by omega))); (try (have : w.heap.size + 1 + 1 < w4.heap.size := (by omega))); (try (have : w.heap.size + 1 + 1 + 1 < w4.heap.size := (by omega))); (try (have : w.heap.size + 1 + 1 + 1 + 1 < w4.heap.size := (by omega)))
      go_wp2_with fail
      go_roundw
      case rel => exact ⟨k + 1, by omega, by go_num, by (repeat' (first | exact Ext.refl _ | assumption | apply Ext.alloc | apply Ext.drew | refine Ext.set ?_ (by dsimp only; omega) _ | refine Ext.trans ?_ (by assumption)))⟩
      case measure => simp [intOf]; omega
    · have : k = m := by omega
      subst this
      clear hl hm
      go_wp2_with fail
      go_ret
      exact ⟨rfl, by (repeat' (first | exact Ext.refl _ | assumption | apply Ext.alloc | apply Ext.drew | refine Ext.set ?_ (by dsimp only; omega) _ | refine Ext.trans ?_ (by assumption)))⟩
set_option maxRecDepth 4000 in
set_option maxHeartbeats 1000000 in
theorem CloneBox_c (A : Option Addr) (n c : Nat) (l : List Bx) (w : World) (hl : Bxs w A n l) (hb : n ≤ 100000) :
    Calls Tryz.prog 76 #[.slice A n c] w fun e w' => ∃ v, e = .returned v ∧ OwnBxs w.heap.size w' v l ∧ Ext w w' := by
  have HL := Lib.hid fun W (hW : Ext w W) => Bxs.ext hW hl
  have H2 := Lib.hid hl.len
  have hnil := fun W => Lib.run_eql_slice_nil (P := Tryz.prog) W 39 38 A n c 0 0 Tryz.underlying39
  obtain ⟨ic, hic, hc0, hc1, hc2⟩ := info_parts info_box
  cases A with
  | none =>
    have h0 : n = 0 := by
      rcases hl.2.2 with h | ⟨_, _, h, _⟩
      · exact h
      · cases h
    subst h0
    have hnil : l = [] := List.eq_nil_of_length_eq_zero H2.out.symm
    subst hnil
    clear hl
    go_enter Tryz.func76, Tryz.ntmps76
    go_wp2_with fail
    go_ret
    exact ⟨_, rfl, OwnBxs.nil _ _, by (repeat' (first | exact Ext.refl _ | assumption | apply Ext.alloc | apply Ext.drew | refine Ext.set ?_ (by dsimp only; omega) _ | refine Ext.trans ?_ (by assumption)))⟩
  | some a =>
    clear hl
    go_enter Tryz.func76, Tryz.ntmps76
    go_wp2_with (at_builtin; go_loud (refine wpList_append_sl rfl (.tmp 5) (.tmp 6) 39 rfl w.heap.size 38 ic _ 8 64 Tryz.underlying39 hic hc0 hc1 hc2 rfl (by decide) _ 0 [] rfl (own_made (by simp) (by omega)) (some a) n c (l.flatMap bxC) rfl (by rw [flat_len box_len, ← H2.out]) (sl_news box_len (box_news _) (HL.out _ (by (repeat' (first | exact Ext.refl _ | assumption | apply Ext.alloc | apply Ext.drew | refine Ext.set ?_ (by dsimp only; omega) _ | refine Ext.trans ?_ (by assumption)))))) (flat_one box_one _) (by unfold maxLen; omega) (by omega) (by simp) ?_))
    intro v3 w3 ho3 hg3 hn3
    have e3 := grown_ext (Ext.alloc0 _ _) hg3 (by intro j hj; simp [Value.ownBlock] at hj; omega)
    have ho : OwnBxs w.heap.size w3 v3 l := by
      unfold OwnBxs
      rw [← H2.out]
      simpa using ho3
    go_wp2_with fail
    go_ret
    exact ⟨_, rfl, ho, by (repeat' (first | exact Ext.refl _ | assumption | apply Ext.alloc | apply Ext.drew | refine Ext.set ?_ (by dsimp only; omega) _ | refine Ext.trans ?_ (by assumption)))⟩
end Go.Proofs.YtfniicgoeljmdaaGreat

namespace Go.Proofs.YtfniicgoeljmdaaGreat
open Go.RowKit

theorem run_copy_n {P : Program} (w : World) (dT sT ty elem : TypeId) (sz g o dLen dCap : Nat) (a : Addr) (sLen sCap m : Nat) (cur : Array Value) (t : TypeId) (cs : List Value)
    (hu : P.underlying dT = some (.slice elem)) (hs : (P.info? elem).map (·.size) = some sz)
    (hg : w.heap[g]? = some (.cells cur t (0, 0))) (hm : m = Nat.min sLen dLen) (hn : cs.length = m * sz)
    (hsrc : ∀ j v, cs[j]? = some v → w.cell? (a.add j) = some v) (hfit : o + cs.length ≤ cur.size) (h1 : ∀ v ∈ cs, v.oneCell' = true) :
    (Builtin.copy_ #[dT, sT] ty #[.slice (some ⟨g, o, none⟩) dLen dCap, .slice (some a) sLen sCap]).run P w =
      .ok (goInt m) (w.setRow g (cur.toList.take o ++ cs ++ cur.toList.drop (o + cs.length)).toArray) := by
  have hl := run_loadCells_list (P := P) w a cs hsrc
  have hst := run_storeCells_at P g o t cs 0 cur w hg (by simpa using hfit) h1
  subst hm
  cases hq : P.info? elem with
  | none => simp [hq] at hs
  | some i =>
    have hi : i.size = sz := by simpa [hq] using hs
    simp [Builtin.copy_, run_underlying hu, Builtin.lenOf, Builtin.firstCells, sizeOf, typeInfo, hq, hi, ← hn, hl, hst]
/-- A row of a block is written: what the block holds then. -/
theorem setRow_blk {w : World} {g : Nat} {t : TypeId} {cur cs : Array Value} (h : Blk w g t cur) : Blk (w.setRow g cs) g t cs := setRow_heap w g cur cs t _ h
section
variable {P : Program}
theorem runs_copy (w : World) {o : Oper} {a : Act} {G : Value → World → Prop} (d s : Operand) (t t' : TypeId)
    (ho : o.op = .call { callee := .builtin .copy, args := #[d, s], argTypes := #[t, t'] }) (v u : Value) (hd : a.eval d = v) (hs : a.eval s = u) {v' : Value} {w' : World}
    (hr : (Builtin.copy_ #[t, t'] o.type #[v, u]).run P w = .ok v' w') (h : G v' w') : RunsTo P G ((execOp a.eval o).run P w) := by
  simp [execOp, ho, resolve, invoke, builtin, hd, hs, hr, Result.andThen, RunsTo]
  exact h
end
theorem flat_take {α : Type} {sz : Nat} {E : α → List Value} (hE : ∀ x, (E x).length = sz) : ∀ (l : List α) (k : Nat), (l.take k).flatMap E = (l.flatMap E).take (k * sz)
  | [], k => by simp
  | a :: r, 0 => by simp
  | a :: r, k + 1 => by
    simp only [List.take_succ_cons, List.flatMap_cons]
    rw [flat_take hE r k, List.take_append, hE, show (k + 1) * sz - sz = k * sz by rw [Nat.succ_mul]; omega, List.take_of_length_le (l := E a) (by rw [hE, Nat.succ_mul]; omega)]
theorem flat_drop {α : Type} {sz : Nat} {E : α → List Value} (hE : ∀ x, (E x).length = sz) : ∀ (l : List α) (k : Nat), (l.drop k).flatMap E = (l.flatMap E).drop (k * sz)
  | [], k => by simp
  | a :: r, 0 => by simp
  | a :: r, k + 1 => by
    simp only [List.drop_succ_cons, List.flatMap_cons]
    rw [flat_drop hE r k, List.drop_append, hE, show (k + 1) * sz - sz = k * sz by rw [Nat.succ_mul]; omega, List.drop_of_length_le (l := E a) (by rw [hE, Nat.succ_mul]; omega)]
    simp
end Go.Proofs.YtfniicgoeljmdaaGreat
