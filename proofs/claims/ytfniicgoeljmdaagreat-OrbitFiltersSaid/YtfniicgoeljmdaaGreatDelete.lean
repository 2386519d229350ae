/- Sets of boxes that the call itself makes; sets that are equal; copies. No condition. copy of elements of several cells. No condition. slices.DeleteFunc at boxes, on a list that the call owns. No condition. -/
import Derived.Test.YtfniicgoeljmdaaGreatHullSet
import Derived.Laws.CopyRow
import Derived.Laws.CopyOwn
import Derived.Laws.Externs
import Derived.Lib.AppendZerosOnto
import Derived.Lib.Overlaps
import Derived.Test.YtfniicgoeljmdaaGreatSight
import Derived.Test.YtfniicgoeljmdaaGreatForcePull
namespace Go.Proofs.YtfniicgoeljmdaaGreat
open Go.RowKit

theorem info_box : (Tryz.prog.info? 38).map (fun i => (i.zero, i.size, i.bytes)) = some (some (.agg #[.int .i64 0, .int .i64 0, .int .i64 0, .int .i64 0, .int .i64 0, .int .i64 0, .int .i64 0, .int .i64 0]), 8, 64) := by kernel_rfl
theorem box_len (x : Bx) : (bxC x).length = 8 := rfl
theorem box_news (w : World) (x : Bx) (b o : Nat) (h : bxAt w x b o) : ∀ i u, (bxC x)[i]? = some u → w.cell? ⟨b, o + i, none⟩ = some u
  | 0, _, hu => by rw [← hu]; exact h.1
  | 1, _, hu => by rw [← hu]; exact h.2.1
  | 2, _, hu => by rw [← hu]; exact h.2.2.1
  | 3, _, hu => by rw [← hu]; exact h.2.2.2.1
  | 4, _, hu => by rw [← hu]; exact h.2.2.2.2.1
  | 5, _, hu => by rw [← hu]; exact h.2.2.2.2.2.1
  | 6, _, hu => by rw [← hu]; exact h.2.2.2.2.2.2.1
  | 7, _, hu => by rw [← hu]; exact h.2.2.2.2.2.2.2
theorem box_one : ∀ x : Bx, ∀ u ∈ bxC x, u.oneCell' = true := by
  intro x u hu
  simp only [bxC, List.mem_cons, List.not_mem_nil, or_false] at hu
  rcases hu with rfl | rfl | rfl | rfl | rfl | rfl | rfl | rfl <;> rfl

def OwnBxs (base : Nat) (w : World) (v : Value) (l : List Bx) : Prop := w.ownsRow base 38 8 v l.length (l.flatMap bxC)
theorem OwnBxs.nil (base : Nat) (w : World) : OwnBxs base w (.slice none 0 0) [] := World.ownsRow_nil _ _ _ _
theorem OwnBxs.ext {base : Nat} {w w' : World} {v : Value} {l : List Bx} (h : OwnBxs base w v l) (e : Ext w w') : OwnBxs base w' v l := own_ext_keep h e
theorem OwnBxs.sl {base : Nat} {w : World} {v : Value} {l : List Bx} (h : OwnBxs base w v l) : ∃ A c, v = .slice A l.length c ∧ Bxs w A l.length l := own_sl box_len (bx_read w) h
theorem OwnBxs.mono {base base' : Nat} {w : World} {v : Value} {l : List Bx} (h : OwnBxs base w v l) (hb : base' ≤ base) : OwnBxs base' w v l := own_mono h hb
theorem OwnBxs.ofApp {base : Nat} {w : World} {v : Value} {l r : List Bx} {n : Nat} (hn : n = r.length) (h : w.ownsRow base 38 8 v (l.length + n) (l.flatMap bxC ++ r.flatMap bxC)) : OwnBxs base w v (l ++ r) := by
  subst hn
  unfold OwnBxs
  rw [List.length_append, List.flatMap_append]
  exact h
theorem OwnBxs.cap {base : Nat} {w : World} {v : Value} {l : List Bx} (h : OwnBxs base w v l) : ∃ A c, v = .slice A l.length c ∧ Bxs w A l.length l ∧ l.length ≤ c := by
  obtain ⟨A, c, rfl, hs⟩ := h.sl
  refine ⟨A, c, rfl, hs, ?_⟩
  rcases h.2 with ⟨h1, h2⟩ | ⟨g, cap, cur, h1, _, _, h3, _⟩
  · rw [h2]; exact Nat.zero_le _
  · injection h1 with _ _ h4; omega

set_option maxRecDepth 4000 in
set_option maxHeartbeats 1000000 in
theorem SameBoxes_c (A : Option Addr) (n c : Nat) (B : Option Addr) (m d : Nat) (l : List Bx) (w : World) (hl : Bxs w A n l) (hm : Bxs w B m l) :
    Calls Tryz.prog 27 #[.slice A n c, .slice B m d] w fun e w' => e = .returned (.bool true) ∧ Ext w w' := by
  have hn := hl.le
  obtain rfl : m = n := by rw [hl.len, hm.len]
  go_enter Tryz.func27, Tryz.ntmps27
  go_wp2_with fail
  go_loopw [5] (fun i wr => ∃ k : Nat, k ≤ m ∧ i = .int .i64 k ∧ Ext w wr) (fun i _ => m - (intOf i).toNat)
  case atStart => exact ⟨0, Nat.zero_le _, rfl, Ext.refl _⟩
  case round =>
    obtain ⟨k, hk, rfl, hb⟩ := hrel
    obtain ⟨hcb, hfb, hzb⟩ := bcell hb
    by_cases hlt : k < m
    · obtain ⟨b, off, x, rfl, HD, hxm, hx⟩ := hl.one hlt
      obtain ⟨b', off', y, rfl, HD', hym, hy⟩ := hm.one hlt
      obtain rfl : x = y := by
        have := HD.out.symm.trans HD'.out
        injection this
      obtain ⟨hx0, hx1, hx2, hx3, hx4, hx5, hx6, hx7⟩ := bxAt.ext hb hx
      obtain ⟨hy0, hy1, hy2, hy3, hy4, hy5, hy6, hy7⟩ := bxAt.ext hb hy
      have hbl : b < wr.heap.size := World.block_lt_of_cell? wr _ hx0
      have hbl' : b' < wr.heap.size := World.block_lt_of_cell? wr _ hy0
      clear hl hm hx hy hxm hym HD HD'
      obtain ⟨⟨xl, xh⟩, ⟨yl, yh⟩, ⟨ul, uh⟩, vl, vh⟩ := x
      dsimp only at hx0 hx1 hx2 hx3 hx4 hx5 hx6 hx7 hy0 hy1 hy2 hy3 hy4 hy5 hy6 hy7
      go_wp2_with fail
      refine wp_region_text (by kernel_rfl) (by kernel_rfl) ?_
      (repeat' (first | (refine bl_off (by rfl) ?_; simp only [Act.put, List.setIfInBounds_toArray, List.set_cons_zero, List.set_cons_succ]) | (apply bl_op; rfl; (intro w1 h1; obtain ⟨hc, hf, hz⟩ := bcell h1; go_simp; (try go_bits); (first | exact ⟨rfl, Ext.refl _⟩)); simp only [Act.put, List.setIfInBounds_toArray, List.set_cons_zero, List.set_cons_succ]) | (refine bl_split rfl rfl (fun hx => ?_) (fun hx => ?_) <;> simp only [hx])))
      refine bl_nil ?_
      intro w4 h4
      obtain ⟨hc_w4, hf_w4, hz_w4⟩ := bcell h4; (repeat (first | rw [World.size_alloc] at hz_w4 | rw [World.size_drew] at hz_w4 | rw [World.size_setCell] at hz_w4)); (try (have : w.heap.size < w4.heap.size := (by omega))); (try (have : w.heap.size + 1 < w4.heap.size := (by omega))); (try (have : w.heap.size + 1 + 1 < w4.heap.size := (by omega))); (try (have : w.heap.size + 1 + 1 + 1 < w4.heap.size := (by omega))); (try (have : w.heap.size + 1 + 1 + 1 + 1 < w4.heap.size := (by omega)))
      go_wp2_with fail
      go_roundw
      case rel => exact ⟨k + 1, by omega, by go_num, by (repeat' (first | exact Ext.refl _ | assumption | apply Ext.alloc | apply Ext.drew | refine Ext.set ?_ (by dsimp only; omega) _ | refine Ext.trans ?_ (by assumption)))⟩
      case measure => simp [intOf]; omega
    · have : k = m := by omega
      subst this
      clear hl hm
      go_wp2_with fail
      go_ret
      exact ⟨rfl, by (repeat' (first | exact Ext.refl _ | assumption | apply Ext.alloc | apply Ext.drew | refine Ext.set ?_ (by dsimp only; omega) _ | refine Ext.trans ?_ (by assumption)))⟩
set_option maxRecDepth 4000 in
set_option maxHeartbeats 1000000 in
theorem OwnBoxes_c (A : Option Addr) (n c : Nat) (l : List Bx) (w : World) (hl : Bxs w A n l) (hb : n ≤ 100000) :
    Calls Tryz.prog 22 #[.slice A n c] w fun e w' => ∃ v, e = .returned v ∧ OwnBxs w.heap.size w' v l ∧ Ext w w' := by
  have HL := Lib.hid fun W (hW : Ext w W) => Bxs.ext hW hl
  have H2 := Lib.hid hl.len
  obtain ⟨ic, hic, hc0, hc1, hc2⟩ := info_parts info_box
  clear hl
  go_enter Tryz.func22, Tryz.ntmps22
  go_wp2_with (at_builtin; go_loud (refine wpList_append_sl rfl (.tmp 3) (.tmp 4) 39 rfl w.heap.size 38 ic _ 8 64 Tryz.underlying39 hic hc0 hc1 hc2 rfl (by decide) _ 0 [] rfl (own_made (by simp) (by omega)) A n c (l.flatMap bxC) rfl (by rw [flat_len box_len, ← H2.out]) (sl_news box_len (box_news _) (HL.out _ (by (repeat' (first | exact Ext.refl _ | assumption | apply Ext.alloc | apply Ext.drew | refine Ext.set ?_ (by dsimp only; omega) _ | refine Ext.trans ?_ (by assumption)))))) (flat_one box_one _) (by unfold maxLen; omega) (by omega) (by simp) ?_))
  intro v3 w3 ho3 hg3 hn3
  have e3 := grown_ext (Ext.alloc0 _ _) hg3 (by intro j hj; simp [Value.ownBlock] at hj; omega)
  have ho : OwnBxs w.heap.size w3 v3 l := by
    unfold OwnBxs
    rw [← H2.out]
    simpa using ho3
  go_wp2_with fail
  go_ret
  exact ⟨_, rfl, ho, by (repeat' (first | exact Ext.refl _ | assumption | apply Ext.alloc | apply Ext.drew | refine Ext.set ?_ (by dsimp only; omega) _ | refine Ext.trans ?_ (by assumption)))⟩
set_option maxRecDepth 4000 in
set_option maxHeartbeats 1000000 in
theorem CloneBox_c (A : Option Addr) (n c : Nat) (l : List Bx) (w : World) (hl : Bxs w A n l) (hb : n ≤ 100000) :
    Calls Tryz.prog 76 #[.slice A n c] w fun e w' => ∃ v, e = .returned v ∧ OwnBxs w.heap.size w' v l ∧ Ext w w' := by
  have HL := Lib.hid fun W (hW : Ext w W) => Bxs.ext hW hl
  have H2 := Lib.hid hl.len
  have hnil := fun W => Lib.run_eql_slice_nil (P := Tryz.prog) W 39 38 A n c 0 0 Tryz.underlying39
  obtain ⟨ic, hic, hc0, hc1, hc2⟩ := info_parts info_box
  cases A with
  | none =>
    have h0 : n = 0 := by
      rcases hl.2.2 with h | ⟨_, _, h, _⟩
      · exact h
      · cases h
    subst h0
    have hnil : l = [] := List.eq_nil_of_length_eq_zero H2.out.symm
    subst hnil
    clear hl
    go_enter Tryz.func76, Tryz.ntmps76
    go_wp2_with fail
    go_ret
    exact ⟨_, rfl, OwnBxs.nil _ _, by (repeat' (first | exact Ext.refl _ | assumption | apply Ext.alloc | apply Ext.drew | refine Ext.set ?_ (by dsimp only; omega) _ | refine Ext.trans ?_ (by assumption)))⟩
  | some a =>
    clear hl
    go_enter Tryz.func76, Tryz.ntmps76
    go_wp2_with (at_builtin; go_loud (refine wpList_append_sl rfl (.tmp 5) (.tmp 6) 39 rfl w.heap.size 38 ic _ 8 64 Tryz.underlying39 hic hc0 hc1 hc2 rfl (by decide) _ 0 [] rfl (own_made (by simp) (by omega)) (some a) n c (l.flatMap bxC) rfl (by rw [flat_len box_len, ← H2.out]) (sl_news box_len (box_news _) (HL.out _ (by (repeat' (first | exact Ext.refl _ | assumption | apply Ext.alloc | apply Ext.drew | refine Ext.set ?_ (by dsimp only; omega) _ | refine Ext.trans ?_ (by assumption)))))) (flat_one box_one _) (by unfold maxLen; omega) (by omega) (by simp) ?_))
    intro v3 w3 ho3 hg3 hn3
    have e3 := grown_ext (Ext.alloc0 _ _) hg3 (by intro j hj; simp [Value.ownBlock] at hj; omega)
    have ho : OwnBxs w.heap.size w3 v3 l := by
      unfold OwnBxs
      rw [← H2.out]
      simpa using ho3
    go_wp2_with fail
    go_ret
    exact ⟨_, rfl, ho, by (repeat' (first | exact Ext.refl _ | assumption | apply Ext.alloc | apply Ext.drew | refine Ext.set ?_ (by dsimp only; omega) _ | refine Ext.trans ?_ (by assumption)))⟩
end Go.Proofs.YtfniicgoeljmdaaGreat

namespace Go.Proofs.YtfniicgoeljmdaaGreat
open Go.RowKit

/-- A row of a block is written: what the block holds then. -/
theorem setRow_blk {w : World} {g : Nat} {t : TypeId} {cur cs : Array Value} (h : Blk w g t cur) : Blk (w.setRow g cs) g t cs := setRow_heap w g cur cs t _ h
theorem setRow_ext {w0 w : World} {g : Nat} {cs : Array Value} (h : Ext w0 w) (hg : w0.heap.size ≤ g) : Ext w0 (w.setRow g cs) :=
  below_setRow h hg cs
theorem flat_take {α : Type} {sz : Nat} {E : α → List Value} (hE : ∀ x, (E x).length = sz) : ∀ (l : List α) (k : Nat), (l.take k).flatMap E = (l.flatMap E).take (k * sz)
  | [], k => by simp
  | a :: r, 0 => by simp
  | a :: r, k + 1 => by
    simp only [List.take_succ_cons, List.flatMap_cons]
    rw [flat_take hE r k, List.take_append, hE, show (k + 1) * sz - sz = k * sz by rw [Nat.succ_mul]; omega, List.take_of_length_le (l := E a) (by rw [hE, Nat.succ_mul]; omega)]
end Go.Proofs.YtfniicgoeljmdaaGreat

namespace Go.Proofs.YtfniicgoeljmdaaGreat
open Go.RowKit

def zbC : Value := .agg #[.int .i64 0, .int .i64 0, .int .i64 0, .int .i64 0, .int .i64 0, .int .i64 0, .int .i64 0, .int .i64 0]
theorem run_zero_box (w : World) : (zeroValue 38).run Tryz.prog w = .ok zbC w := by
  obtain ⟨ic, hic, hc0, hc1, hc2⟩ := info_parts info_box
  simp [zeroValue, typeInfo, hic, hc0, zbC]
theorem zero_cells_box (n : Nat) : (Builtin.zeroCells zbC.cells n).toList.length = n * 8 ∧ ∀ u ∈ (Builtin.zeroCells zbC.cells n).toList, u.oneCell' = true := by
  refine ⟨by simp [Builtin.zeroCells, zbC, Value.cells], fun u hu => ?_⟩
  simp only [Builtin.zeroCells, Array.toList_map, Array.toList_range, List.mem_map, List.mem_range] at hu
  obtain ⟨i, _, rfl⟩ := hu
  have h8 : zbC.cells.size = 8 := by decide
  rw [h8]
  have h9 : i % 8 < 8 := Nat.mod_lt _ (by omega)
  generalize i % 8 = k at *
  rcases (show k = 0 ∨ k = 1 ∨ k = 2 ∨ k = 3 ∨ k = 4 ∨ k = 5 ∨ k = 6 ∨ k = 7 by omega) with rfl | rfl | rfl | rfl | rfl | rfl | rfl | rfl <;> rfl
theorem run_clear_box (w : World) (ty : TypeId) (g o n c : Nat) (cur : Array Value) (hg : Blk w g 38 cur) (hn : 0 < n) (hfit : o + n * 8 ≤ cur.size) :
    (Builtin.clear_ #[39] ty #[.slice (some ⟨g, o, none⟩) n c]).run Tryz.prog w = .ok (.tuple #[]) (w.setRow g (cur.toList.take o ++ (Builtin.zeroCells zbC.cells n).toList ++ cur.toList.drop (o + n * 8)).toArray) := by
  obtain ⟨hl, h1⟩ := zero_cells_box n
  have hst := run_storeCells_at Tryz.prog g o 38 (Builtin.zeroCells zbC.cells n).toList 0 cur w hg (by rw [hl]; simpa using hfit) h1
  rw [hl, Nat.add_zero] at hst
  obtain ⟨m, rfl⟩ : ∃ m, n = m + 1 := ⟨n - 1, by omega⟩
  have hz := run_zero_box w
  simp [Builtin.clear_, run_underlying Tryz.underlying39, hz, hst]
theorem boxes_set : ∀ (l : List Bx) (j : Nat) (p : Bx), ((((((((l.flatMap bxC).set (j * 8) (.int .i64 p.x.lo)).set (j * 8 + 1) (.int .i64 p.x.hi)).set (j * 8 + 2) (.int .i64 p.y.lo)).set (j * 8 + 3) (.int .i64 p.y.hi)).set (j * 8 + 4) (.int .i64 p.u.lo)).set (j * 8 + 5) (.int .i64 p.u.hi)).set (j * 8 + 6) (.int .i64 p.v.lo)).set (j * 8 + 7) (.int .i64 p.v.hi) = (l.set j p).flatMap bxC
  | [], j, p => by simp
  | x :: r, 0, p => by simp [bxC]
  | x :: r, j + 1, p => by
    have h := boxes_set r j p
    have e : (j + 1) * 8 = j * 8 + 1 + 1 + 1 + 1 + 1 + 1 + 1 + 1 := by omega
    rw [List.set_cons_succ, List.flatMap_cons, List.flatMap_cons, ← h, e]
    simp [bxC]
/-- A box of an own list is written. -/
theorem own_put {base g n c : Nat} {w : World} {l : List Bx} (h : OwnBxs base w (.slice (some ⟨g, 0, none⟩) n c) l) (j : Nat) (p : Bx) :
    OwnBxs base ((((((((w.setCell ⟨g, j * 8, none⟩ (.int .i64 p.x.lo)).setCell ⟨g, j * 8 + 1, none⟩ (.int .i64 p.x.hi)).setCell ⟨g, j * 8 + 2, none⟩ (.int .i64 p.y.lo)).setCell ⟨g, j * 8 + 3, none⟩ (.int .i64 p.y.hi)).setCell ⟨g, j * 8 + 4, none⟩ (.int .i64 p.u.lo)).setCell ⟨g, j * 8 + 5, none⟩ (.int .i64 p.u.hi)).setCell ⟨g, j * 8 + 6, none⟩ (.int .i64 p.v.lo)).setCell ⟨g, j * 8 + 7, none⟩ (.int .i64 p.v.hi)) (.slice (some ⟨g, 0, none⟩) n c) (l.set j p) := by
  have hn : n = l.length := by
    obtain ⟨A, c', h1, _⟩ := h.sl
    injection h1
  unfold OwnBxs at h ⊢
  rw [List.length_set, ← boxes_set, ← hn]
  rw [← hn] at h
  exact ((((((((h.stored _ _).1.stored _ _).1.stored _ _).1.stored _ _).1.stored _ _).1.stored _ _).1.stored _ _).1.stored _ _).1
/-- The rest is cleared, the list cut: what stood ahead. -/
theorem own_cut {base g i n c : Nat} {w : World} {F R : List Bx} {cur : Array Value} (h : OwnBxs base w (.slice (some ⟨g, 0, none⟩) n c) (F ++ R)) (hi : i = F.length) (hb : Blk w g 38 cur) (Z : List Value) (hZ : Z.length = (n - i) * 8) :
    OwnBxs base (w.setRow g (cur.toList.take (i * 8) ++ Z ++ cur.toList.drop (i * 8 + (n - i) * 8)).toArray) (.slice (some ⟨g, 0, none⟩) i c) F := by
  have hn : n = (F ++ R).length := by
    obtain ⟨A, c', h1, _⟩ := h.sl
    injection h1
  have hin : i ≤ n := by rw [hn, hi, List.length_append]; omega
  rcases h.2 with ⟨h1, _⟩ | ⟨g', cap', cur', h1, h2, h3, h4, h5, h6, h7⟩
  · cases h1
  · injection h1 with h1a h1b h1c
    injection h1a with h1a
    injection h1a with h1a
    subst h1a h1c
    have h8 := hb.symm.trans h3
    simp only [Option.some.injEq, Obj.cells.injEq] at h8
    obtain rfl := h8.1
    rw [← hn] at h7 h4
    have hsz : cur.toList.length = c * 8 := by simpa using h6
    have hle : i * 8 + (n - i) * 8 ≤ c * 8 := by omega
    refine ⟨flat_len box_len _, .inr ⟨g, c, _, by rw [hi], h2, setRow_blk hb, by omega, h5, ?_, ?_⟩⟩
    · simp only [List.size_toArray, List.length_append, List.length_take, List.length_drop, hsz, hZ]
      omega
    · rw [← hi]
      simp only [List.append_assoc]
      rw [List.take_append_of_le_length (by rw [List.length_take, hsz]; omega), List.take_take, Nat.min_self]
      have h9 : F.flatMap bxC = ((F ++ R).flatMap bxC).take (i * 8) := by
        rw [← flat_take box_len, hi, List.take_left]
      rw [h9, ← h7, List.take_take, Nat.min_eq_left (by omega)]
theorem own_bxs {base n c : Nat} {w : World} {A : Option Addr} {l : List Bx} (h : OwnBxs base w (.slice A n c) l) : Bxs w A n l ∧ n = l.length ∧ n ≤ c := by
  obtain ⟨A', c', h1, h2, h3⟩ := h.cap
  injection h1 with e1 e2 e3
  subst e1 e2 e3
  exact ⟨h2, rfl, h3⟩
theorem own_frozen {base n c g : Nat} {w : World} {l : List Bx} (h : OwnBxs base w (.slice (some ⟨g, 0, none⟩) n c) l) (q : Nat) : w.frozen? ⟨g, q, none⟩ = false := by
  obtain ⟨_, h1, _⟩ := own_bxs h
  unfold OwnBxs at h
  rw [← h1] at h
  exact h.frozenAt q
theorem del_step {l F M : List Bx} {p : Bx → Bool} {i j : Nat} {x : Bx} (hF : F = (l.take j).filter fun x => !p x) (hi : i = F.length) (hM : M = F ++ l.drop i) (hij : i ≤ j) (hx : l[j]? = some x) (hp : p x = false) :
    F ++ [x] = (l.take (j + 1)).filter (fun x => !p x) ∧ i + 1 = (F ++ [x]).length ∧ M.set i x = (F ++ [x]) ++ l.drop (i + 1) := by
  have hj : j < l.length := (List.getElem?_eq_some_iff.1 hx).1
  refine ⟨?_, by simp [hi], ?_⟩
  · rw [List.take_add_one, hx, List.filter_append, ← hF]
    simp [hp]
  · have e := List.drop_eq_getElem_cons (show i < l.length by omega)
    rw [hM, e, List.set_append_right _ _ (by omega), show i - F.length = 0 by omega, List.set_cons_zero, List.append_assoc]
    rfl
theorem del_skip {l F : List Bx} {p : Bx → Bool} {j : Nat} {x : Bx} (hF : F = (l.take j).filter fun x => !p x) (hx : l[j]? = some x) (hp : p x = true) : F = (l.take (j + 1)).filter fun x => !p x := by
  rw [List.take_add_one, hx, List.filter_append, ← hF]
  simp [hp]
theorem idxFrom_ge {α : Type} (p : α → Bool) : ∀ (r : List α) (k : Nat), idxFrom p r k = -1 ∨ (k : Int) ≤ idxFrom p r k
  | [], _ => .inl rfl
  | x :: r, k => by
    cases hp : p x
    · rw [idxFrom, hp]
      rcases idxFrom_ge p r (k + 1) with h | h
      · exact .inl (by simpa using h)
      · exact .inr (by simp; omega)
    · rw [idxFrom, hp]
      exact .inr (by simp)
theorem del_first {l : List Bx} {p : Bx → Bool} {i : Nat} {x : Bx} (_ : l.find? p = some x) (hx : l[i]? = some x) (hidx : idxFrom p l 0 = (i : Int)) : l.take i = (l.take (i + 1)).filter fun x => !p x := by
  have key : ∀ (l : List Bx) (i k : Nat) (x : Bx), l[i]? = some x → idxFrom p l k = ((k + i : Nat) : Int) → l.take i = (l.take (i + 1)).filter fun x => !p x := by
    intro l
    induction l with
    | nil => intro i k x h; simp at h
    | cons y r ih =>
      intro i k x h e
      cases hp : p y
      · rw [idxFrom, hp] at e
        cases i with
        | zero =>
          exfalso
          simp at e
          rcases idxFrom_ge p r (k + 1) with h | h
          · omega
          · omega
        | succ i =>
          have h3 := ih i (k + 1) x (by simpa using h) (by simp at e; rw [e]; omega)
          rw [List.take_succ_cons, List.take_succ_cons, List.filter_cons, hp, h3]
          simp
      · rw [idxFrom, hp] at e
        have : i = 0 := by simp at e; omega
        subst this
        simp [hp]
  exact key l i 0 x hx (by simpa using hidx)
set_option maxRecDepth 20000 in
set_option maxHeartbeats 4000000 in
theorem Delete_c (base : Nat) (v : Value) (l : List Bx) (fid : Nat) (cap : Array Value) (p : Bx → Bool) (w0 w : World) (ho : OwnBxs base w v l) (hbase : w0.heap.size ≤ base) (he : Ext w0 w) (hsm : l.length ≤ 2000)
    (hcall : ∀ (xs : Array Value) (W : World), (callFunc fid xs).run Tryz.prog W = .ok (.enter fid xs) W)
    (hf : ∀ x ∈ l, ∀ W, Ext w0 W → Calls Tryz.prog fid (#[.agg #[.int .i64 x.x.lo, .int .i64 x.x.hi, .int .i64 x.y.lo, .int .i64 x.y.hi, .int .i64 x.u.lo, .int .i64 x.u.hi, .int .i64 x.v.lo, .int .i64 x.v.hi]] ++ cap) W fun e w' => e = .returned (.bool (p x)) ∧ Ext W w') :
    Calls Tryz.prog 137 #[v, .func (.func fid) #[] cap] w fun e w' => ∃ v', e = .returned v' ∧ OwnBxs base w' v' (l.filter fun x => !p x) ∧ Ext w0 w' := by
  obtain ⟨A, c, rfl, hs, hc⟩ := ho.cap
  have HI := Lib.hid (idxBx_c A l.length c l fid cap p w hs hcall (fun x hx W hW => hf x hx W (he.trans hW)))
  have Hf := Lib.hid hf
  have HO := Lib.hid ho
  have HE := Lib.hid he
  rcases idx_cases p l with ⟨h1, h2⟩ | ⟨i0, x0, hi, h1, hx0, h2⟩
  · rw [h1] at HI
    have hfl : l.filter (fun x => !p x) = l := by
      rw [List.filter_eq_self]
      intro x hx
      have := (List.find?_eq_none.1 h2) x hx
      simpa using this
    rw [hfl]
    clear hfl h1 h2 hs ho he hf
    go_enter Tryz.func137, Tryz.ntmps137
    go_wp2_with fail
    refine HI.out.mono ?_
    rintro e w1 ⟨rfl, h1⟩
    go_wp2_with fail
    go_ret
    exact ⟨_, rfl, OwnBxs.ext HO.out h1, HE.out.trans h1⟩
  · rw [h1] at HI
    obtain ⟨g, c', hA, hbg, hgs⟩ := own_some ho (by intro e; injection e with _ e2; omega)
    injection hA with hA _ hcc
    subst hA hcc
    have HF0 := Lib.hid (del_first h2 hx0 h1)
    obtain ⟨n, hn⟩ : ∃ n, n = l.length := ⟨_, rfl⟩
    have Hn := Lib.hid hn
    rw [← hn] at HI hc hi hsm ⊢
    have HO2 : Hid (OwnBxs base w (.slice (some ⟨g, 0, none⟩) n c) l) := by unfold Hid; rw [Hn.out]; exact ho
    clear hs ho he hf hn h1 h2 hx0 HO
    have hi0 : ((i0 : Int) == -1) = false := by simp
    go_enter Tryz.func137, Tryz.ntmps137
    go_wp2_with fail
    refine HI.out.mono ?_
    rintro e w1 ⟨rfl, h1⟩
    have HO1 : Hid (OwnBxs base w1 (.slice (some ⟨g, 0, none⟩) n c) l) := OwnBxs.ext HO2.out h1
    have E1 : Ext w0 w1 := HE.out.trans h1
    clear HO2 HE h1
    go_wp2_with fail
    go_loopw [5, 6] (fun ii jj wr => ∃ (i j : Nat) (F M : List Bx), ii = .int .i64 i ∧ jj = .int .i64 j ∧ i < j ∧ j ≤ n ∧ Hid (F = (l.take j).filter fun x => !p x) ∧ Hid (i = F.length) ∧ Hid (M = F ++ l.drop i) ∧ Hid (OwnBxs base wr (.slice (some ⟨g, 0, none⟩) n c) M) ∧ Ext w0 wr) (fun _ jj _ => n - (intOf jj).toNat)
    case atStart => exact ⟨i0, i0 + 1, l.take i0, l, by rfl, by go_num, by omega, by omega, HF0, Lib.hid (by rw [List.length_take, ← Hn.out]; omega), Lib.hid (List.take_append_drop _ _).symm, HO1, E1⟩
    case round =>
      clear HO1 E1
      obtain ⟨i, j, F, M, rfl, rfl, hij, hjn, HF, Hi, HM, HO, E⟩ := hrel
      by_cases hlt : j < n
      · obtain ⟨hsM, hMn, hnc⟩ := own_bxs HO.out
        obtain ⟨b, off, x, hA, HD, _, hx⟩ := hsM.one hlt
        injection hA with hA
        injection hA with e1 e2 _
        subst e1 e2
        have hxl : l[j]? = some x := by
          have h1 := congrArg List.head? HD.out
          rw [HM.out, List.drop_append, Hi.out.symm, List.drop_drop, show i + (j - i) = j by omega, List.drop_of_length_le (by rw [← Hi.out]; omega), List.nil_append, List.head?_drop] at h1
          exact h1
        have HXL := Lib.hid hxl
        have hxm : x ∈ l := List.mem_of_getElem? hxl
        obtain ⟨_, _, y, hA, _, _, hy⟩ := hsM.one (show i < n by omega)
        injection hA with hA
        injection hA with e1 e2 _
        subst e1 e2
        have HP := Lib.hid (Hf.out x hxm)
        have HY := Lib.hid hy
        have hfr : ∀ W, Ext wr W → ∀ q, W.frozen? ⟨g, q, none⟩ = false := fun W hW q => own_frozen (OwnBxs.ext HO.out hW) q
        have HFR := Lib.hid hfr
        obtain ⟨hx0, hx1, hx2, hx3, hx4, hx5, hx6, hx7⟩ := hx
        have hgl : g < wr.heap.size := World.block_lt_of_cell? wr _ hx0
        simp only [Nat.zero_add] at hx0 hx1 hx2 hx3 hx4 hx5 hx6 hx7
        have HMn := Lib.hid hMn
        clear hxl hxm hy hfr hsM HD hMn
        obtain ⟨⟨xl, xh⟩, ⟨yl, yh⟩, ⟨ul, uh⟩, vl, vh⟩ := x
        dsimp only at hx0 hx1 hx2 hx3 hx4 hx5 hx6 hx7 HP
        obtain ⟨P, hP⟩ : ∃ P, p ⟨⟨xl, xh⟩, ⟨yl, yh⟩, ⟨ul, uh⟩, vl, vh⟩ = P := ⟨_, rfl⟩
        rw [hP] at HP
        have HPP := Lib.hid hP
        clear hP
        cases P
        · have HS := Lib.hid (del_step HF.out Hi.out HM.out (by omega) HXL.out HPP.out)
          go_wp2_with fail
          refine (HP.out _ (by (repeat' (first | exact Ext.refl _ | assumption | apply Ext.alloc | apply Ext.drew | refine Ext.set ?_ (by dsimp only; omega) _ | refine Ext.trans ?_ (by assumption))))).mono ?_
          rintro e w2 ⟨rfl, h2⟩
          have B7 : Blk w2 wr.heap.size 38 #[.int .i64 xl, .int .i64 xh, .int .i64 yl, .int .i64 yh, .int .i64 ul, .int .i64 uh, .int .i64 vl, .int .i64 vh] := (Blk.new wr _ _).ext h2
          have E2 : Ext wr w2 := (Ext.alloc0 _ _).trans h2
          have HO2 := Lib.hid (OwnBxs.ext HO.out E2)
          have hf2 := HFR.out w2 E2
          obtain ⟨hy0, hy1, hy2, hy3, hy4, hy5, hy6, hy7⟩ := bxAt.ext E2 HY.out
          simp only [Nat.zero_add] at hy0 hy1 hy2 hy3 hy4 hy5 hy6 hy7
          have E3 : Ext w0 w2 := E.trans E2
          have hgl2 : g < w2.heap.size := Nat.lt_of_lt_of_le hgl E2.size
          clear h2 E2 HY HFR HO hx0 hx1 hx2 hx3 hx4 hx5 hx6 hx7 hgl
          have c_B7 := B7.cell; have f_B7 := B7.frozen; have l_B7 := B7.lt
          go_wp2_with fail
          go_roundw
          case rel =>
            obtain ⟨s1, s2, s3⟩ := HS.out
            exact ⟨i + 1, j + 1, F ++ [⟨⟨xl, xh⟩, ⟨yl, yh⟩, ⟨ul, uh⟩, vl, vh⟩], M.set i ⟨⟨xl, xh⟩, ⟨yl, yh⟩, ⟨ul, uh⟩, vl, vh⟩, by go_num, by go_num, by omega, by omega, Lib.hid s1, Lib.hid s2, Lib.hid s3, Lib.hid <| own_put HO2.out i ⟨⟨xl, xh⟩, ⟨yl, yh⟩, ⟨ul, uh⟩, vl, vh⟩, ext_set2 (ext_set2 (ext_set2 (ext_set2 E3 (by omega)) (by omega)) (by omega)) (by omega)⟩
          case measure => simp [intOf]; omega
        · have HS := Lib.hid (del_skip HF.out HXL.out HPP.out)
          go_wp2_with fail
          refine (HP.out _ (by (repeat' (first | exact Ext.refl _ | assumption | apply Ext.alloc | apply Ext.drew | refine Ext.set ?_ (by dsimp only; omega) _ | refine Ext.trans ?_ (by assumption))))).mono ?_
          rintro e w2 ⟨rfl, h2⟩
          have E2 : Ext wr w2 := (Ext.alloc0 _ _).trans h2
          have HO2 := Lib.hid (OwnBxs.ext HO.out E2)
          have E3 : Ext w0 w2 := E.trans E2
          clear h2 E2 HY HFR HO hx0 hx1 hx2 hx3 hx4 hx5 hx6 hx7 hgl
          go_wp2_with fail
          go_roundw
          case rel => exact ⟨i, j + 1, F, M, rfl, by go_num, by omega, by omega, HS, Hi, HM, HO2, E3⟩
          case measure => simp [intOf]; omega
      · have hjn' : j = n := by omega
        subst hjn'
        obtain ⟨hsM, hMn, hnc⟩ := own_bxs HO.out
        have hFF : F = l.filter fun x => !p x := by have := HF.out; rw [Hn.out, List.take_length] at this; exact this
        obtain ⟨cur, h3, h6⟩ : ∃ cur, Blk wr g 38 cur ∧ cur.size = c * 8 := by
          rcases HO.out.2 with ⟨h1, _⟩ | ⟨g', cap', cur, h1, _, h3, _, _, h6, _⟩
          · cases h1
          injection h1 with h1a _ h1c
          injection h1a with h1a
          injection h1a with h1a
          subst h1a h1c
          exact ⟨cur, h3, h6⟩
        obtain ⟨W, hcl, hfin, hee⟩ : ∃ W, (Builtin.clear_ #[39] 0 #[.slice (some ⟨g, i * 8, none⟩) (j - i) (c - i)]).run Tryz.prog wr = .ok (.tuple #[]) W ∧ OwnBxs base W (.slice (some ⟨g, 0, none⟩) i c) (l.filter fun x => !p x) ∧ Ext w0 W := by
          refine ⟨_, run_clear_box wr 0 g (i * 8) (j - i) (c - i) cur h3 (by omega) (by omega), ?_, setRow_ext E (by omega)⟩
          rw [← hFF]
          have := HO.out
          rw [HM.out] at this
          exact own_cut this Hi.out h3 _ (zero_cells_box _).1
        have HCL := Lib.hid hcl
        have HFIN := Lib.hid hfin
        have HEE := Lib.hid hee
        clear hcl hfin hee
        clear hsM hMn hFF h3 h6 HO HF Hn
        have q1 : ¬ c = i := by omega
        have q2 : i ≤ c := by omega
        have q3 : i ≤ j := by omega
        have hcl := HCL.out
        go_wp2_with (simp only [hcl, Result.andThen])
        go_ret
        exact ⟨_, rfl, HFIN.out, HEE.out⟩
end Go.Proofs.YtfniicgoeljmdaaGreat
