/- Lists of lists of numbers, and lists of flags, that the call itself makes. No condition. Numbers that are handed out by a ring. No condition. A sky made of numbers. No condition. -/
import Derived.Test.YtfniicgoeljmdaaGreatBelieves
import Derived.Lib.AppendZeros
import Derived.Test.YtfniicgoeljmdaaGreatForced
import Derived.Test.YtfniicgoeljmdaaGreatRelTail
namespace Go.Proofs.YtfniicgoeljmdaaGreat
open Go.RowKit

def rowAt (w : World) (p : List Int) (b o : Nat) : Prop := ∃ A n c, w.cell? ⟨b, o, none⟩ = some (.slice A n c) ∧ Ints w A n p
abbrev IRows (w : World) (A : Option Addr) (n : Nat) (l : List (List Int)) : Prop := SlR 1 (rowAt w) A n l
theorem rowAt.ext {w w' : World} (e : Ext w w') {p : List Int} {b o : Nat} (h : rowAt w p b o) : rowAt w' p b o := by
  obtain ⟨A, n, c, h1, h2⟩ := h
  exact ⟨A, n, c, e.cell h1, Ints.ext e h2⟩
theorem IRows.ext {w w' : World} (e : Ext w w') {A n l} (h : IRows w A n l) : IRows w' A n l := SlR.mono h fun _ _ _ _ => rowAt.ext e

def OwnRows (base : Nat) (w : World) (v : Value) (rows : List (List Int)) : Prop :=
  ∃ raw : List Value, raw.length = rows.length ∧ w.ownsRow base 48 1 v rows.length raw ∧ ∀ k (h : k < rows.length), ∃ u, raw[k]? = some u ∧ OwnInts base w u rows[k]
theorem OwnRows.nil (base : Nat) (w : World) : OwnRows base w (.slice none 0 0) [] := ⟨[], rfl, World.ownsRow_nil _ _ _ _, fun k h => by cases h⟩
theorem OwnRows.ext {base : Nat} {w w' : World} {v : Value} {rows : List (List Int)} (h : OwnRows base w v rows) (e : Ext w w') : OwnRows base w' v rows := by
  obtain ⟨raw, h1, h2, h3⟩ := h
  refine ⟨raw, h1, own_ext_keep h2 e, fun k hk => ?_⟩
  obtain ⟨u, g1, g2⟩ := h3 k hk
  exact ⟨u, g1, g2.ext e⟩
theorem OwnRows.snoc {base : Nat} {w w' : World} {v v' u : Value} {rows : List (List Int)} {raw : List Value} {x : List Int} {n : Nat} (hn : n = 1) (h1 : raw.length = rows.length) (h2 : w.ownsRow base 48 1 v rows.length raw) (h3 : ∀ k (h : k < rows.length), ∃ u, raw[k]? = some u ∧ OwnInts base w u rows[k])
    (hu : OwnInts base w u x) (hg : w.grownBy w' v.ownBlock) (hv : w'.ownsRow base 48 1 v' (rows.length + n) (raw ++ [u])) : OwnRows base w' v' (rows ++ [x]) := by
  subst hn
  have keep : ∀ {q : Value} {l : List Int}, OwnInts base w q l → OwnInts base w' q l := fun h => World.ownsRow.kept h hg (own_ne h h2 (by decide))
  refine ⟨raw ++ [u], by simp [h1], by rw [List.length_append]; exact hv, fun k hk => ?_⟩
  by_cases hk' : k < rows.length
  · obtain ⟨q, g1, g2⟩ := h3 k hk'
    refine ⟨q, by rw [List.getElem?_append_left (by omega)]; exact g1, ?_⟩
    rw [List.getElem_append_left hk']
    exact keep g2
  · have hk2 : k = rows.length := by rw [List.length_append] at hk; simp at hk; omega
    subst hk2
    refine ⟨u, by rw [List.getElem?_append_right (by omega), h1]; simp, ?_⟩
    have e1 : (rows ++ [x])[rows.length] = x := by simp
    rw [e1]
    exact keep hu
theorem OwnRows.sl {base : Nat} {w : World} {v : Value} {rows : List (List Int)} (h : OwnRows base w v rows) : ∃ A c, v = .slice A rows.length c ∧ IRows w A rows.length rows := by
  obtain ⟨raw, h1, h3, h5⟩ := h
  rcases h3.2 with ⟨rfl, h0⟩ | ⟨g, cap, cur, rfl, hbg, hg, hnc, hcm, hcs, htk⟩
  · rw [h0]
    have : rows = [] := List.eq_nil_of_length_eq_zero h0
    subst this
    exact ⟨none, 0, rfl, SlR.nil _ _ _⟩
  · refine ⟨_, cap, rfl, rfl, by unfold maxLen at hcm; omega, .inr ⟨g, 0, rfl, fun k hk => ?_⟩⟩
    obtain ⟨u, q1, q2⟩ := h5 k hk
    obtain ⟨A, c, rfl, q3⟩ := q2.sl
    have h8 := h3.cells (g := g) rfl _ _ q1
    rw [add_none] at h8
    exact ⟨A, _, c, by rw [Nat.mul_one]; exact h8, q3⟩
end Go.Proofs.YtfniicgoeljmdaaGreat

namespace Go.Proofs.YtfniicgoeljmdaaGreat
open Go.RowKit

theorem tmod_in (n m : Int) (h0 : 1 ≤ m) : Int.tmod n m = if n % m = 0 ∨ 0 ≤ n then n % m else n % m - m := by
  rw [Int.tmod_eq_emod]
  split <;> split <;> first | rfl | (rename_i a b; exfalso; revert a b; simp [Int.dvd_iff_emod_eq_zero]; omega) | (have : m.natAbs = m := by omega) ; omega
set_option maxHeartbeats 400000 in
theorem Mod_c (n m : Int) (w : World) (h0 : 1 ≤ m) (h1 : m ≤ 4611686018427387904) :
    Calls Tryz.prog 53 #[.int .i64 n, .int .i64 m] w fun e w' => e = .returned (.int .i64 (n % m)) ∧ w = w' := by
  have hr := tmod_in n m h0
  have hm0 : 0 ≤ n % m := Int.emod_nonneg _ (by omega)
  have hm1 : n % m < m := Int.emod_lt_of_pos _ (by omega)
  generalize n % m = q at *
  generalize hp : Int.tmod n m = p at *
  go_enter Tryz.func53, Tryz.ntmps53
  go_wp2_with fail
  all_goals go_ret
  all_goals exact ⟨rfl, rfl⟩
set_option maxHeartbeats 400000 in
theorem Mod64_c (n m : Int) (w : World) (h0 : 1 ≤ m) (h1 : m ≤ 4611686018427387904) :
    Calls Tryz.prog 129 #[.int .i64 n, .int .i64 m] w fun e w' => e = .returned (.int .i64 (n % m)) ∧ w = w' := by
  have hr := tmod_in n m h0
  have hm0 : 0 ≤ n % m := Int.emod_nonneg _ (by omega)
  have hm1 : n % m < m := Int.emod_lt_of_pos _ (by omega)
  generalize n % m = q at *
  generalize hp : Int.tmod n m = p at *
  go_enter Tryz.func129, Tryz.ntmps129
  go_wp2_with fail
  all_goals go_ret
  all_goals exact ⟨rfl, rfl⟩

structure IsRing (wb w : World) (g : Nat) (B : Int) : Prop where
  ext : Ext wb w
  ge : wb.heap.size ≤ g
  blk : ∃ A n c l at_, Ints wb A n l ∧ Blk w g 150 #[.slice A n c, .int .i64 at_] ∧ 0 ≤ at_ ∧ at_ ≤ B
theorem IsRing.lt {wb w : World} {g : Nat} {B : Int} (h : IsRing wb w g B) : g < w.heap.size := by
  obtain ⟨A, n, c, l, at_, _, h2, _⟩ := h.blk
  exact h2.lt
theorem IsRing.mono {wb w : World} {g : Nat} {B B' : Int} (h : IsRing wb w g B) (hB : B ≤ B') : IsRing wb w g B' := by
  obtain ⟨A, n, c, l, at_, h1, h2, h3, h4⟩ := h.blk
  exact ⟨h.ext, h.ge, A, n, c, l, at_, h1, h2, h3, by omega⟩
theorem IsRing.keep {wb w w' : World} {g : Nat} {B : Int} (h : IsRing wb w g B) (e : Ext w w') : IsRing wb w' g B := by
  obtain ⟨A, n, c, l, at_, h1, h2, h3, h4⟩ := h.blk
  exact ⟨h.ext.trans e, h.ge, A, n, c, l, at_, h1, h2.ext e, h3, h4⟩
theorem IsRing.alloc {wb w : World} {g : Nat} {B : Int} (h : IsRing wb w g B) (o : Obj) : IsRing wb (w.alloc o) g B := h.keep (Ext.alloc0 _ _)
theorem IsRing.drew {wb w : World} {g : Nat} {B : Int} (h : IsRing wb w g B) : IsRing wb w.drew g B := h.keep (Ext.drew (Ext.refl _))
theorem IsRing.put {wb w : World} {g : Nat} {B : Int} (h : IsRing wb w g B) {p : Addr} (hp : wb.heap.size ≤ p.block ∧ p.block ≠ g) (u : Value) : IsRing wb (w.setCell p u) g B := by
  obtain ⟨A, n, c, l, at_, h1, h2, h3, h4⟩ := h.blk
  exact ⟨h.ext.set hp.1 u, h.ge, A, n, c, l, at_, h1, h2.far (fun e => hp.2 e.symm) u, h3, h4⟩
theorem Stable.ring (wb : World) (g : Nat) (B : Int) : Stable fun w => IsRing wb w g B := fun _ _ h e => h.keep e

theorem Wr.trans {w w1 w2 : World} {g : Nat} (h : Wr w g w1) (k : Wr w1 g w2) : Wr w g w2 :=
  ⟨k.os.trans h.os, k.tape.trans h.tape, k.output.trans h.output, Nat.le_trans h.size k.size, fun i hi hn => (k.block i (Nat.lt_of_lt_of_le hi h.size) hn).trans (h.block i hi hn)⟩
theorem Wr.of {w w1 : World} (g : Nat) (h : Ext w w1) : Wr w g w1 := Wr.stable _ _ _ _ (Wr.refl _ _) h
theorem Wr.alloc {w w1 : World} {g : Nat} (h : Wr w g w1) (o : Obj) : Wr w g (w1.alloc o) := Wr.stable _ _ _ _ h (Ext.alloc0 _ _)
theorem Wr.drew {w w1 : World} {g : Nat} (h : Wr w g w1) : Wr w g w1.drew := Wr.stable _ _ _ _ h (Ext.drew (Ext.refl _))
theorem Wr.put {w w1 : World} {g : Nat} (h : Wr w g w1) {p : Addr} (hp : w.heap.size ≤ p.block) (u : Value) : Wr w g (w1.setCell p u) :=
  ⟨h.os, h.tape, h.output, by simpa [World.setCell] using h.size, fun i hi hne => (Below.heap_setCell w1 p u i (by omega)).trans (h.block i hi hne)⟩

set_option maxHeartbeats 2000000 in
set_option maxRecDepth 4000 in
theorem Next_c (wb : World) (g : Nat) (B m : Int) (w : World) (hr : IsRing wb w g B) (hB : B ≤ 1000000000) (h0 : 1 ≤ m) (h1 : m ≤ 4611686018427387904) :
    Calls Tryz.prog 62 #[.pointer (some ⟨g, 0, none⟩), .int .i64 m] w fun e w' => ∃ v, e = .returned (.int .i64 v) ∧ 0 ≤ v ∧ v < m ∧ Wr w g w' ∧ IsRing wb w' g (B + 1) := by
  obtain ⟨A, n, c, l, at_, hl, hb, ha0, ha1⟩ := hr.blk
  obtain ⟨a, rfl⟩ : ∃ a : Nat, at_ = a := ⟨at_.toNat, by omega⟩
  have hlt := hb.lt
  have hcg := hb.cell
  have hfg := hb.frozen
  have hn := hl.le
  have fin : ∀ W, Blk W g 150 #[.slice A n c, .int .i64 ((a : Int) + 1)] → Wr w g W → Wr w g W ∧ IsRing wb W g (B + 1) := fun W k1 k2 =>
    ⟨k2, Wr.ext k2 hr.ext hr.ge, hr.ge, A, n, c, l, _, hl, k1, by omega, by omega⟩
  have Fin := Lib.hid fin
  have hW : Blk (w.setCell ⟨g, 1, none⟩ (.int .i64 ((a : Int) + 1))) g 150 #[.slice A n c, .int .i64 ((a : Int) + 1)] := hb.set_ 1 _
  have hWr : Wr w g (w.setCell ⟨g, 1, none⟩ (.int .i64 ((a : Int) + 1))) := (Wr.refl w g).set rfl _
  have HW := Lib.hid hW
  have HWr := Lib.hid hWr
  have hb0 : ∀ (x m : Int), 0 ≤ x → 1 ≤ m → 0 ≤ x % m ∧ x % m < m := fun x m _ hm => ⟨Int.emod_nonneg _ (by omega), Int.emod_lt_of_pos _ (by omega)⟩
  have Hb0 := Lib.hid hb0
  clear hb0 fin hW hWr
  by_cases hz : n = 0
  · subst hz
    go_enter Tryz.func62, Tryz.ntmps62
    go_wp2_with fail
    go_ret
    have := Hb0.out (((a : Int) + 1) * 7919 % 10007) m (by omega) h0
    exact ⟨_, rfl, this.1, this.2, Fin.out _ HW.out HWr.out⟩
  · have hn0 : 0 < n := by omega
    have hk : (a + 1) % n < n := Nat.mod_lt _ hn0
    have hk1 : 0 ≤ ((a : Int) + 1) % n := Int.emod_nonneg _ (by omega)
    have hk2 : ((a : Int) + 1) % n < n := Int.emod_lt_of_pos _ (by omega)
    obtain ⟨b, off, x, rfl, HD, hxm, hx⟩ := hl.one hk
    rw [Nat.mul_one] at hx
    have hbl : b < wb.heap.size := World.block_lt_of_cell? wb _ hx
    have hbg : b ≠ g := by have := hr.ge; omega
    have hx' : w.cell? ⟨b, off + (a + 1) % n, none⟩ = some (.int .i64 x) := hr.ext.cell hx
    have hblw : b < w.heap.size := World.block_lt_of_cell? w _ hx'
    have hx2 : (w.setCell ⟨g, 1, none⟩ (.int .i64 ((a : Int) + 1))).cell? ⟨b, off + (a + 1) % n, none⟩ = some (.int .i64 x) := by
      rw [(Wr.cells HWr.out).1 b _ hblw hbg]; exact hx'
    have hsz : (w.setCell ⟨g, 1, none⟩ (.int .i64 ((a : Int) + 1))).heap.size = w.heap.size := by simp
    have hm0 : 0 ≤ x % 1048576 ∧ x % 1048576 < 1048576 := ⟨Int.emod_nonneg _ (by omega), Int.emod_lt_of_pos _ (by omega)⟩
    obtain ⟨hm1, hm2⟩ := hm0
    have hq0 : 0 ≤ ((a : Int) + 1) / n := Int.ediv_nonneg (by omega) (by omega)
    have hq1 : ((a : Int) + 1) / n ≤ (a : Int) + 1 := Int.ediv_le_self _ (by omega)
    have hne : ¬ (1 + ((a : Int) + 1) / n = 0) := by omega
    have hd0 : 0 ≤ x % 1048576 / (1 + ((a : Int) + 1) / n) := Int.ediv_nonneg hm1 (by omega)
    have hd1 : x % 1048576 / (1 + ((a : Int) + 1) / n) ≤ x % 1048576 := Int.ediv_le_self _ hm1
    obtain ⟨W, hWe⟩ : ∃ W, W = w.setCell ⟨g, 1, none⟩ (.int .i64 ((a : Int) + 1)) := ⟨_, rfl⟩
    rw [← hWe] at HW HWr hx2 hsz
    have hcW := HW.out.cell
    have hfW := HW.out.frozen
    have hgW := HW.out.lt
    have hbW : b < W.heap.size := World.block_lt_of_cell? W _ hx2
    go_enter Tryz.func62, Tryz.ntmps62
    go_wp2_with fail
    rw [← hWe]
    clear hWe
    refine wp_region_text (by kernel_rfl) (by kernel_rfl) ?_
    repeat' (first | (refine bl_off (by rfl) ?_; simp only [putX]) | (apply bl_op; rfl; (intro w1 h1; obtain ⟨hc, hf, hz⟩ := bcell h1; go_simp; (try go_bits); (first | exact ⟨rfl, Ext.refl _⟩ | (apply gives_call; go_at_call 53; exact (Mod_c _ _ _ (by omega) (by omega)).mono fun _ _ ⟨h, hw⟩ => ⟨h, hw ▸ Ext.refl _⟩) | (go_invoke; go_simp; apply gives_call; go_at_call 53; exact (Mod_c _ _ _ (by omega) (by omega)).mono fun _ _ ⟨h, hw⟩ => ⟨h, hw ▸ Ext.refl _⟩))); simp only [putX]) | (refine bl_split rfl rfl (fun hx => ?_) (fun hx => ?_) <;> simp only [hx]))
    refine bl_nil ?_
    intro w2 h2
    go_wp2_with fail
    go_ret
    have := Hb0.out (((a : Int) + 1) * 7919 % 10007 + x % 1048576 / (1 + ((a : Int) + 1) / n)) m (by omega) h0
    exact ⟨_, rfl, this.1, this.2, Fin.out _ (HW.out.ext h2) (Wr.stable _ _ _ _ HWr.out h2)⟩

set_option maxHeartbeats 1000000 in
theorem PointOf_c (wb : World) (g : Nat) (B n : Int) (w : World) (hr : IsRing wb w g B) (hB : B ≤ 900000000) (h0 : 0 ≤ n) (h1 : n ≤ 1000000) :
    Calls Tryz.prog 127 #[.pointer (some ⟨g, 0, none⟩), .int .i64 n] w fun e w' => ∃ x y, e = .returned (.agg #[.int .i64 x, .int .i64 y]) ∧ -n ≤ x ∧ x ≤ n ∧ -n ≤ y ∧ y ≤ n ∧ Wr w g w' ∧ IsRing wb w' g (B + 2) := by
  have hg := hr.lt
  go_enter Tryz.func127, Tryz.ntmps127
  go_wp2_with fail
  refine (Next_c wb g B _ _ (hr.keep ext_by) (by omega) (by omega) (by omega)).mono ?_
  rintro e w1 ⟨v1, rfl, ha1, hb1, hw1, hr1⟩
  obtain ⟨hc1, hf1, hz1⟩ := Wr.cells hw1
  simp only [World.size_alloc] at hz1
  have hl1 : w.heap.size < w1.heap.size := by omega
  have hg1 : w.heap.size ≠ g := by omega
  go_wp2_with fail
  refine (Next_c wb g _ _ _ hr1 (by omega) (by omega) (by omega)).mono ?_
  rintro e w2 ⟨v2, rfl, ha2, hb2, hw2, hr2⟩
  obtain ⟨hc2, hf2, hz2⟩ := Wr.cells hw2
  have hl2 : w.heap.size < w2.heap.size := by omega
  go_wp2_with fail
  (try simp only [Exit.inBlock, Exit.then]); apply bodyPost_ret; (focus (simp only [results, Tryz.results127]; go_simp; try rfl)); rfl
  have := hr.ext.size
  exact ⟨_, _, rfl, by omega, by omega, by omega, by omega, by (repeat' (first | exact Wr.refl _ _ | assumption | apply Wr.alloc | apply Wr.drew | refine Wr.put ?_ (by dsimp only; omega) _ | refine Wr.trans ?_ (by assumption))), by (rw [show B + 2 = B + 1 + 1 by omega]; (repeat' (first | assumption | apply IsRing.alloc | apply IsRing.drew | refine IsRing.put ?_ (by dsimp only; omega) _)))⟩

theorem IsRing.ne {wb w : World} {g : Nat} {B : Int} (h : IsRing wb w g B) {base : Nat} {e : TypeId} {sz : Nat} {v : Value} {n : Nat} {xs : List Value} (ho : w.ownsRow base e sz v n xs) (he : e ≠ 150) : v.ownBlock ≠ some g := by
  obtain ⟨A, m, c, l, at_, h1, h2, _⟩ := h.blk
  exact own_blk ho h2 he
theorem own_wr {wb w w' : World} {g : Nat} {B : Int} {base : Nat} {e : TypeId} {sz : Nat} {v : Value} {n : Nat} {xs : List Value} (ho : w.ownsRow base e sz v n xs) (h : IsRing wb w g B) (he : e ≠ 150) (k : Wr w g w') : w'.ownsRow base e sz v n xs :=
  own_kept ho k (h.ne ho he)
theorem Blk.wr {w w' : World} {g b : Nat} {t : TypeId} {cs : Array Value} (h : Blk w b t cs) (k : Wr w g w') (hb : b ≠ g) : Blk w' b t cs := (k.block b h.lt (fun e => hb (by injection e))).trans h
theorem IsRing.blkne {wb w : World} {g : Nat} {B : Int} (h : IsRing wb w g B) {b : Nat} {t : TypeId} {cs : Array Value} (hb : Blk w b t cs) (ht : t ≠ 150) : b ≠ g := by
  obtain ⟨A, m, c, l, at_, h1, h2, _⟩ := h.blk
  intro e
  subst e
  unfold Blk at hb h2
  rw [hb] at h2
  simp at h2
  exact ht h2.2

structure Wr2 (w0 : World) (g k : Nat) (w : World) : Prop where
  os : w.os = w0.os
  tape : w.tape = w0.tape
  output : w.output = w0.output
  size : w0.heap.size ≤ w.heap.size
  block : ∀ i, i < w0.heap.size → i ≠ g → i ≠ k → w.heap[i]? = w0.heap[i]?
theorem Wr.two {w0 w : World} {g : Nat} (h : Wr w0 g w) (k : Nat) : Wr2 w0 g k w := ⟨h.os, h.tape, h.output, h.size, fun i hi h1 _ => h.block i hi (fun e => h1 (by injection e))⟩
theorem Wr2.cells {w0 w : World} {g k : Nat} (h : Wr2 w0 g k w) : (∀ b o, b < w0.heap.size → b ≠ g → b ≠ k → w.cell? ⟨b, o, none⟩ = w0.cell? ⟨b, o, none⟩) ∧ (∀ b o, b < w0.heap.size → b ≠ g → b ≠ k → w.frozen? ⟨b, o, none⟩ = w0.frozen? ⟨b, o, none⟩) ∧ w0.heap.size ≤ w.heap.size :=
  ⟨fun b _ hb h1 h2 => World.cell?_of_block (h.block b hb h1 h2), fun b _ hb h1 h2 => World.frozen?_of_block (h.block b hb h1 h2), h.size⟩
theorem Wr2.stable (w0 : World) (g k : Nat) : Stable (Wr2 w0 g k) := fun _ _ h e =>
  ⟨e.os.trans h.os, e.tape.trans h.tape, e.output.trans h.output, Nat.le_trans h.size e.size, fun i hi h1 h2 => (e.block i (Nat.lt_of_lt_of_le hi h.size)).trans (h.block i hi h1 h2)⟩
def rowOr (v : Value) (g : Nat) : Nat := v.ownBlock.getD g
theorem Wr2.row {w0 w w' : World} {g : Nat} {v : Value} (h : Wr2 w0 g (rowOr v g) w) (k : w.grownBy w' v.ownBlock) : Wr2 w0 g (rowOr v g) w' :=
  ⟨k.os.trans h.os, k.tape.trans h.tape, k.output.trans h.output, Nat.le_trans h.size k.size, fun i hi h1 h2 => (k.block i (Nat.lt_of_lt_of_le hi h.size) (fun e => h2 (by rw [rowOr, ← e]; rfl))).trans (h.block i hi h1 h2)⟩
theorem Blk.wr2 {w w' : World} {g k b : Nat} {t : TypeId} {cs : Array Value} (h : Blk w b t cs) (e : Wr2 w g k w') (h1 : b ≠ g) (h2 : b ≠ k) : Blk w' b t cs := (e.block b h.lt h1 h2).trans h
theorem rowOr_ne {w : World} {base : Nat} {e : TypeId} {sz : Nat} {v : Value} {n : Nat} {xs : List Value} (ho : w.ownsRow base e sz v n xs) {b g : Nat} {t : TypeId} {cs : Array Value} (hb : Blk w b t cs) (hne : e ≠ t) (hg : b ≠ g) : b ≠ rowOr v g := by
  have h := own_blk ho hb hne
  unfold rowOr
  cases hv : v.ownBlock with
  | none => exact hg
  | some x => intro e; rw [hv] at h; exact h (by rw [e]; rfl)

theorem tl_append {P : Program} {S : World → Prop} {Q : Exit → Act → World → Prop} {lf : Bool} {o : Oper} {T : List Oper} {a : Act} {F : World → Prop} (hg : o.guard = none) (s x : Operand) (t : TypeId)
    (ho : o.op = .call { callee := .builtin .append, args := #[s, x], argTypes := #[t, t] })
    (base : Nat) (e : TypeId) (i : TypeInfo) (z : Value) (size bytes : Nat) (ht : P.underlying t = some (.slice e)) (hi : P.info? e = some i) (hz : i.zero = some z)
    (hsize : i.size = size) (hby : i.bytes = bytes) (hzs : z.cells.size = size) (hsz : 0 < size)
    (v : Value) (n : Nat) (xs : List Value) (hs : a.eval s = v) (b : Nat) (zs : Array Value) (hx : a.eval x = .slice (some ⟨b, 0, none⟩) 1 1) (hl : zs.size = size) (h1 : ∀ u ∈ zs.toList, u.oneCell' = true)
    (h63 : n + 1 ≤ maxLen) (hbytes : (n + 1) * bytes ≤ 140737488355328) (hF : ∀ w, F w → w.ownsRow base e size v n xs ∧ Blk w b e zs ∧ base ≤ w.heap.size)
    (F' : Value → World → Prop) (hst : ∀ v', Stable (F' v')) (hS : ∀ v' w, F' v' w → S w)
    (hF' : ∀ w w' v', F w → w'.ownsRow base e size v' (n + 1) (xs ++ zs.toList) → w.grownBy w' v.ownBlock → v' ≠ .slice none 0 0 → F' v' w')
    (h : ∀ bk c, TL P S Q lf T (a.put o.dst (.slice (some ⟨bk, 0, none⟩) (n + 1) c)) (F' (.slice (some ⟨bk, 0, none⟩) (n + 1) c))) : TL P S Q lf (o :: T) a F := by
  refine tl_any hg fun w hw => ?_
  obtain ⟨ho1, hb, hbase⟩ := hF w hw
  obtain ⟨v', w', hrun, h2, h3, h4⟩ := run_append_own (P := P) (w := w) base t o.type e i z size bytes ht hi hz hsize hby hzs hsz v n xs ho1 ⟨b, 0, none⟩ 1 1 zs.toList (by simp [hl]) (fun j u hj => by rw [add_none, hb.cell, ← hj]; simp) h1 h63 hbytes hbase
  have hne : v' ≠ .slice none 0 0 := fun e => by have := (h4.1 e).2; omega
  obtain ⟨bk, c, rfl, _, _⟩ := own_some h2 hne
  refine ⟨_, w', ?_, F' _, hst _, hS _, hF' w w' _ hw h2 h3 hne, h bk c⟩
  simp [execOp, ho, resolve, invoke, builtin, hs, hx, hrun, Result.andThen]
theorem Wr.row {w0 w w' : World} {g : Nat} {row : Option Nat} (h : Wr w0 g w) (k : w.grownBy w' row) (hr : ∀ j, row = some j → w0.heap.size ≤ j) : Wr w0 g w' :=
  ⟨k.os.trans h.os, k.tape.trans h.tape, k.output.trans h.output, Nat.le_trans h.size k.size, fun i hi h1 => (k.block i (Nat.lt_of_lt_of_le hi h.size) (fun e => by have := hr i e.symm; omega)).trans (h.block i hi h1)⟩
theorem IsRing.row {wb w w' : World} {g : Nat} {B : Int} {row : Option Nat} (h : IsRing wb w g B) (k : w.grownBy w' row) (hg : row ≠ some g) (hr : ∀ j, row = some j → wb.heap.size ≤ j) : IsRing wb w' g B := by
  obtain ⟨A, n, c, l, at_, h1, h2, h3, h4⟩ := h.blk
  exact ⟨grown_ext h.ext k hr, h.ge, A, n, c, l, at_, h1, h2.grown k hg, h3, h4⟩
theorem Stable.own (base : Nat) (e : TypeId) (sz : Nat) (v : Value) (n : Nat) (xs : List Value) : Stable fun w => w.ownsRow base e sz v n xs := fun _ _ h k => own_ext_keep h k
theorem own_ge {w : World} {base : Nat} {e : TypeId} {sz : Nat} {v : Value} {n : Nat} {xs : List Value} (h : w.ownsRow base e sz v n xs) {b : Nat} (hb : b ≤ base) : ∀ j, v.ownBlock = some j → b ≤ j := fun j hj => Nat.le_trans hb (h.lt j hj).1
end Go.Proofs.YtfniicgoeljmdaaGreat

namespace Go.Proofs.YtfniicgoeljmdaaGreat
open Go.RowKit

theorem OwnBodies.wr {wb w w' : World} {g : Nat} {B : Int} {base : Nat} {v : Value} {l : List Body} {bs : List Nat} (h : OwnBodies base w v l bs) (r : IsRing wb w g B) (e : Wr w g w') : OwnBodies base w' v l bs := by
  obtain ⟨raw, h1, h2, h3, h4, h5, h6⟩ := h
  refine ⟨raw, h1, h2, own_wr h3 r (by decide) e, h4, fun k hk => ?_, h6⟩
  obtain ⟨bk, cap, g1, g2, g3⟩ := h5 k hk
  exact ⟨bk, cap, g1, g2, own_wr g3 r (by decide) e⟩

theorem own_wr2 {wb w w' : World} {g : Nat} {B : Int} {base base' : Nat} {e e' : TypeId} {sz sz' : Nat} {v v' : Value} {n n' : Nat} {xs xs' : List Value} (ho : w.ownsRow base e sz v n xs) (r : IsRing wb w g B) (he : e ≠ 150)
    (ho' : w.ownsRow base' e' sz' v' n' xs') (hne : e ≠ e') (k : Wr2 w g (rowOr v' g) w') : w'.ownsRow base e sz v n xs := by
  have h1 := r.ne ho he
  have h2 := own_ne ho ho' hne
  refine ⟨ho.1, ?_⟩
  rcases ho.2 with hn | ⟨b, cap, cur, rfl, hbg, hg, rest⟩
  · exact .inl hn
  · have n1 : b ≠ g := fun e => h1 (by rw [← e]; rfl)
    refine .inr ⟨b, cap, cur, rfl, hbg, (k.block b (Array.getElem?_eq_some_iff.1 hg).1 n1 ?_).trans hg, rest⟩
    rcases h2 with h2 | h2
    · cases h2
    · unfold rowOr
      cases hv : v'.ownBlock with
      | none => exact n1
      | some x => intro e; rw [hv] at h2; exact h2 (by rw [e]; rfl)
theorem OwnBodies.wr2 {wb w w' : World} {g : Nat} {B : Int} {base base' : Nat} {v v' : Value} {l : List Body} {bs : List Nat} {e' : TypeId} {sz' n' : Nat} {xs' : List Value} (h : OwnBodies base w v l bs) (r : IsRing wb w g B)
    (ho' : w.ownsRow base' e' sz' v' n' xs') (h1 : 97 ≠ e') (h2 : 85 ≠ e') (k : Wr2 w g (rowOr v' g) w') : OwnBodies base w' v l bs := by
  obtain ⟨raw, q1, q2, q3, q4, q5, q6⟩ := h
  refine ⟨raw, q1, q2, own_wr2 q3 r (by decide) ho' h1 k, q4, fun j hj => ?_, q6⟩
  obtain ⟨bk, cap, g1, g2, g3⟩ := q5 j hj
  exact ⟨bk, cap, g1, g2, own_wr2 g3 r (by decide) ho' h2 k⟩
theorem OwnBodies.some {base : Nat} {w : World} {v : Value} {l : List Body} {bs : List Nat} (h : OwnBodies base w v l bs) (hl : 0 < l.length) : ∃ b c, v = .slice (some ⟨b, 0, none⟩) l.length c := by
  obtain ⟨raw, q1, q2, q3, q4, q5, q6⟩ := h
  obtain ⟨b, c, rfl, _⟩ := own_some q3 (by
    rintro rfl
    rcases q3.2 with ⟨_, h0⟩ | ⟨_, _, _, h0, _⟩
    · omega
    · cases h0)
  exact ⟨b, c, rfl⟩

theorem OwnSky.mono {base base' : Nat} {w : World} {v1 v2 v3 : Value} {s : Sky} {bs : List Nat} (h : OwnSky base w v1 v2 v3 s bs) (hb : base' ≤ base) : OwnSky base' w v1 v2 v3 s bs :=
  ⟨h.bodies.mono hb, own_mono h.stations hb, own_mono h.catalogs hb⟩
theorem OwnSky.set {base : Nat} {w : World} {v1 v2 v3 : Value} {s : Sky} {bs : List Nat} (h : OwnSky base w v1 v2 v3 s bs) {p : Addr} (hp : p.block < base) (u : Value) : OwnSky base (w.setCell p u) v1 v2 v3 s bs :=
  ⟨h.bodies.set hp u, own_set h.stations (own_block_ge h.stations hp) u, own_set h.catalogs (own_block_ge h.catalogs hp) u⟩
theorem OwnSky.wr {wb w w' : World} {g : Nat} {B : Int} {base : Nat} {v1 v2 v3 : Value} {s : Sky} {bs : List Nat} (h : OwnSky base w v1 v2 v3 s bs) (r : IsRing wb w g B) (e : Wr w g w') : OwnSky base w' v1 v2 v3 s bs :=
  ⟨h.bodies.wr r e, own_wr h.stations r (by decide) e, own_wr h.catalogs r (by decide) e⟩

def goodB (b : Body) : Prop := (0 ≤ b.mu ∧ b.mu < 1048576) ∧ (0 ≤ b.radius ∧ b.radius < 50) ∧ (1 ≤ b.track.length ∧ b.track.length ≤ 4) ∧ ∀ p ∈ b.track, (-2000 ≤ p.x ∧ p.x ≤ 2000) ∧ -2000 ≤ p.y ∧ p.y ≤ 2000
def goodStns (l : List Stn) (id : Int) : Prop := l.Pairwise (fun a b => a.id < b.id) ∧ ∀ x ∈ l, (1 ≤ x.id ∧ x.id ≤ id) ∧ (-40 ≤ x.off.x ∧ x.off.x ≤ 40) ∧ -40 ≤ x.off.y ∧ x.off.y ≤ 40
def goodCats (l : List Cat) (id : Int) : Prop := l.Pairwise (fun a b => a.version < b.version) ∧ ∀ x ∈ l, (1 ≤ x.version ∧ x.version ≤ id) ∧ -10000 ≤ x.lo ∧ x.lo ≤ 10000 ∧ x.lo ≤ x.hi ∧ x.hi ≤ x.lo + 9998
structure MadeSky (s : Sky) : Prop where
  nb : 1 ≤ s.world.bodies.length ∧ s.world.bodies.length ≤ 3
  bodies : ∀ b ∈ s.world.bodies, goodB b
  home : 0 ≤ s.world.home ∧ s.world.home < s.world.bodies.length
  ns : 1 ≤ s.stations.length ∧ s.stations.length ≤ 3
  stations : ∃ id, goodStns s.stations id ∧ id ≤ 9
  nc : 1 ≤ s.catalogs.length ∧ s.catalogs.length ≤ 3
  catalogs : ∃ id, goodCats s.catalogs id ∧ id ≤ 9

abbrev zsky : Array Value := #[.slice none 0 0, .int .i64 0, .slice none 0 0, .slice none 0 0]

set_option maxRecDepth 4000 in
set_option maxHeartbeats 1000000 in
theorem SkyOf_c (wb : World) (g : Nat) (B : Int) (w : World) (hr : IsRing wb w g B) (hB : B ≤ 800000000) :
    Calls Tryz.prog 81 #[.pointer (some ⟨g, 0, none⟩)] w fun e w' => ∃ A1 n1 c1 home A2 n2 c2 A3 n3 c3 s, e = .returned (.agg #[.slice A1 n1 c1, .int .i64 home, .slice A2 n2 c2, .slice A3 n3 c3]) ∧ (∃ bs, OwnSky w.heap.size w' (.slice A1 n1 c1) (.slice A2 n2 c2) (.slice A3 n3 c3) s bs) ∧ IsSky w' A1 n1 home A2 n2 A3 n3 s ∧ MadeSky s ∧ Wr w g w' ∧ IsRing wb w' g (B + 60) := by
  have hg := hr.lt
  have hsz := hr.ext.size
  have hge := hr.ge
  obtain ⟨iv, hiv, hv0, hv1, hv2⟩ := info_parts info_vec
  obtain ⟨ib, hib, hb0, hb1, hb2⟩ := info_parts info_body
  obtain ⟨it, hit, ht0, ht1, ht2⟩ := info_parts info_stn
  obtain ⟨ic, hic, hk0, hk1, hk2⟩ := info_parts info_cat
  go_enter Tryz.func81, Tryz.ntmps81
  go_wp2_with fail
  refine (Next_c wb g _ _ _ (by (repeat' (first | assumption | apply IsRing.alloc | apply IsRing.drew | refine IsRing.put ?_ (by dsimp only; omega) _))) (by omega) (by omega) (by omega)).mono ?_; rintro e w1 ⟨v1, rfl, va1, vb1, hw1, hr1⟩; obtain ⟨hc1, hf1, hz1⟩ := Wr.cells hw1; (try simp only [szA] at hz1); have hg1 := hr1.lt
  have hl0 : w.heap.size < w1.heap.size := by omega
  have hl1 : w.heap.size + 1 < w1.heap.size := by omega
  have hg0 : w.heap.size ≠ g := by omega
  have hg1 : w.heap.size + 1 ≠ g := by omega
  have hBr : Blk w1 w.heap.size 53 zsky := Blk.wr (Blk.alloc (Blk.newAt rfl) _) hw1 hg0
  have hBs : Blk w1 (w.heap.size + 1) 53 zsky := Blk.wr (Blk.newAt (by simp)) hw1 hg1
  have Hw1 : Hid (Wr w g w1) := by
    show Wr w g w1
    (repeat' (first | exact Wr.refl _ _ | assumption | apply Wr.alloc | apply Wr.drew | refine Wr.put ?_ (by dsimp only; omega) _ | refine Wr.trans ?_ (by assumption)))
  go_wp2_with fail
  go_loopw [4] (fun i wr => ∃ (m : Nat) (v : Value) (l : List Body) (bs : List Nat), i = .int .i64 m ∧ l.length + m ≤ 3 ∧ 1 ≤ l.length + m ∧ Hid (∀ b ∈ l, goodB b) ∧ Hid (OwnBodies (w.heap.size + 1 + 1) wr v l bs) ∧ Hid (Blk wr (w.heap.size + 1) 53 #[v, .int .i64 0, .slice none 0 0, .slice none 0 0]) ∧
    Hid (Blk wr w.heap.size 53 zsky) ∧ Hid (Wr w g wr) ∧ IsRing wb wr g (B + 1 + 11 * (3 - m))) (fun i _ => (intOf i).toNat)
  case atStart =>
    refine ⟨(1 + v1).toNat, .slice none 0 0, [], [], by rw [Int.toNat_of_nonneg (by omega)], by simp; omega, by simp; omega, Lib.hid (by intro b hb; cases hb), OwnBodies.nil _ _, hBs, hBr, Hw1, hr1.mono (by omega)⟩
  case round =>
    obtain ⟨m, v, l, bs, rfl, hm3, hm1, HG, HO, HBs, HBr, HW, hrr⟩ := hrel
    obtain ⟨wo, rfl⟩ : ∃ wo : World, wo = wr := ⟨_, rfl⟩
    have hbs := HBs.out
    have hbr := HBr.out
    have hcS := hbs.cell
    have hfS := hbs.frozen
    have hlS := hbs.lt
    have hcR := hbr.cell
    have hfR := hbr.frozen
    have hlR := hbr.lt
    have hgr := hrr.lt
    by_cases hlt : 0 < m
    · go_wp2_with fail
      refine (Next_c wb g _ _ _ hrr (by omega) (by omega) (by omega)).mono ?_; rintro e w2 ⟨v2, rfl, va2, vb2, hw2, hr2⟩; obtain ⟨hc2, hf2, hz2⟩ := Wr.cells hw2; (try simp only [szA] at hz2); have hg2 := hr2.lt
      go_wp2_with fail
      refine (Next_c wb g _ _ _ hr2 (by omega) (by omega) (by omega)).mono ?_; rintro e w3 ⟨v3, rfl, va3, vb3, hw3, hr3⟩; obtain ⟨hc3, hf3, hz3⟩ := Wr.cells hw3; (try simp only [szA] at hz3); have hg3 := hr3.lt
      have hwo3 : Wr wo g w3 := hw2.trans hw3
      go_wp2_with fail
      refine (Next_c wb g _ _ _ (by (repeat' (first | assumption | apply IsRing.alloc | apply IsRing.drew | refine IsRing.put ?_ (by dsimp only; omega) _))) (by omega) (by omega) (by omega)).mono ?_; rintro e w4 ⟨v4, rfl, va4, vb4, hw4, hr4⟩; obtain ⟨hc4, hf4, hz4⟩ := Wr.cells hw4; (try simp only [szA] at hz4); have hg4 := hr4.lt
      have hBx : Blk w4 w3.heap.size 97 #[.int .i64 v2, .int .i64 v3, .slice none 0 0] := Blk.wr (Blk.newAt rfl) hw4 (by omega)
      have hwo4 : Wr wo g w4 := (hwo3.alloc _).trans hw4
      have hsz3 : wo.heap.size ≤ w3.heap.size := by omega
      have HB := Lib.hid hBx
      have HWo := Lib.hid hwo4
      clear hBx hwo4 hwo3 hc2 hf2 hc3 hf3 hc4 hf4 hw2 hw3 hw4
      go_wp2_with fail
      go_loopw [6] (fun i wq => ∃ (k : Nat) (vt : Value) (tr : List Vec), i = .int .i64 k ∧ tr.length + k ≤ 4 ∧ 1 ≤ tr.length + k ∧ Hid (∀ p ∈ tr, (-2000 ≤ p.x ∧ p.x ≤ 2000) ∧ -2000 ≤ p.y ∧ p.y ≤ 2000) ∧ Hid (Blk wq w3.heap.size 97 #[.int .i64 v2, .int .i64 v3, vt]) ∧
        Hid (wq.ownsRow (w3.heap.size + 1) 85 2 vt tr.length (tr.flatMap vecC)) ∧ Hid (Wr wo g wq) ∧ IsRing wb wq g (B + 1 + 11 * (3 - m) + 3 + 2 * (4 - k))) (fun i _ => (intOf i).toNat)
      case atStart =>
        refine ⟨(1 + v4).toNat, .slice none 0 0, [], by rw [Int.toNat_of_nonneg (by omega)], by simp; omega, by simp; omega, Lib.hid (by intro p hp; cases hp), HB, World.ownsRow_nil _ _ _ _, HWo, hr4.mono (by omega)⟩
      case round =>
        obtain ⟨k, vt, tr, rfl, hk4, hk1, HT, HBq, HR, HWq, hrq⟩ := hrel
        obtain ⟨wq, rfl⟩ : ∃ wq : World, wq = wr := ⟨_, rfl⟩
        have hbq := HBq.out
        have hcq := hbq.cell
        have hfq := hbq.frozen
        have hlq := hbq.lt
        have hgq := hrq.lt
        have hnq : w3.heap.size ≠ g := hrq.blkne hbq (by decide)
        have hnk : w3.heap.size ≠ rowOr vt g := rowOr_ne HR.out hbq (by decide) hnq
        by_cases hlk : 0 < k
        · go_wp2_with fail
          refine wp_region_chain0 true [([0, 1, 2], 3)] [] [4, 5, 6, 7] (Wr2 wq g (rowOr vt g)) (fun w => Wr wq g w ∧ IsRing wb w g (B + 1 + 11 * (3 - m) + 3 + 2 * (4 - k))) ((Wr.stable wq g).and (Stable.ring _ _ _)) (fun w h => h.1.two _) ⟨(Wr.refl _ _).drew, hrq.drew⟩ (by kernel_rfl) (by kernel_rfl) ?_
          repeat' (first | (refine bl_off (by rfl) ?_; simp only [putX]) | (apply bl_op; rfl; (intro w1 h1; obtain ⟨hc, hf, hz⟩ := Wr2.cells h1; go_simp; (try go_bits); (first | exact ⟨rfl, Ext.refl _⟩)); simp only [putX]) | (refine bl_split rfl rfl (fun hx => ?_) (fun hx => ?_) <;> simp only [hx]))
          refine bl_nil ?_
          simp only [pick1, List.drop_succ_cons, List.drop_zero]
          refine xe_call (f := 127) (args := #[.pointer (some ⟨g, 0, none⟩), .int .i64 2000]) (fun v => ∃ x y : Int, v = .agg #[.int .i64 x, .int .i64 y] ∧ (-2000 ≤ x ∧ x ≤ 2000) ∧ -2000 ≤ y ∧ y ≤ 2000) (fun w => Wr wq g w ∧ IsRing wb w g (B + 1 + 11 * (3 - m) + 3 + 2 * (4 - k) + 2)) rfl ((Wr.stable wq g).and (Stable.ring _ _ _)) (fun w h => h.1.two _) (fun w h => by go_simp) (fun w h => ?_) ?_
          · refine (PointOf_c wb g (B + 1 + 11 * (3 - m) + 3 + 2 * (4 - k)) 2000 w h.2 (by omega) (by omega) (by omega)).mono ?_
            rintro e w' ⟨x, y, rfl, p1, p2, p3, p4, k1, k2⟩
            exact ⟨_, rfl, ⟨x, y, rfl, ⟨p1, p2⟩, p3, p4⟩, h.1.trans k1, k2⟩
          rintro v ⟨x, y, rfl, hx, hy⟩
          simp only [putX]
          refine bl_nil ?_
          refine tl_slice (e := 85) (zs := #[.int .i64 x, .int .i64 y]) rfl ((Wr.stable wq g).and (Stable.ring _ _ _)) (fun w h => h.1.two _) (fun w => by go_simp) (fun b => ?_)
          simp only [putX]
          refine tl_append rfl (.tmp 32) (.tmp 35) 95 rfl (w3.heap.size + 1) 85 iv _ 2 16 Tryz.underlying95 hiv hv0 hv1 hv2 rfl (by decide) vt tr.length (tr.flatMap vecC) rfl b #[.int .i64 x, .int .i64 y] rfl rfl (by intro u hu; simp at hu; rcases hu with rfl | rfl <;> rfl) (by unfold maxLen; omega) (by omega) (fun w h => ⟨own_wr HR.out hrq (by decide) h.1.1, h.2, by have := h.1.1.size; omega⟩)
            (fun v' w => Wr2 wq g (rowOr vt g) w ∧ IsRing wb w g (B + 1 + 11 * (3 - m) + 3 + 2 * (4 - k) + 2) ∧ w.ownsRow (w3.heap.size + 1) 85 2 v' (tr.length + 1) (tr.flatMap vecC ++ [.int .i64 x, .int .i64 y]) ∧ Wr wo g w)
            (fun v' => (Wr2.stable _ _ _).and ((Stable.ring _ _ _).and ((Stable.own _ _ _ _ _ _).and (Wr.stable _ _)))) (fun v' w h => h.1) (fun w w' v' h k1 k2 _ => ?_) (fun bk ck => ?_)
          · obtain ⟨⟨q1, q2⟩, q3⟩ := h
            have ho := own_wr HR.out hrq (by decide) q1
            exact ⟨(q1.two _).row k2, q2.row k2 (q2.ne ho (by decide)) (own_ge ho (by omega)), k1, (HWq.out.trans q1).row k2 (own_ge ho (by omega))⟩
          simp only [putX]
          refine tl_val (v := .pointer (some ⟨w3.heap.size, 2, none⟩)) rfl ((Wr2.stable _ _ _).and ((Stable.ring _ _ _).and ((Stable.own _ _ _ _ _ _).and (Wr.stable _ _)))) (fun w h => h.1) (fun w h => by go_simp) ?_
          simp only [putX]
          refine tl_last rfl rfl (fun w5 ⟨k1, k2, k3, k4⟩ => ?_)
          have hb5 := hbq.wr2 k1 hnq hnk
          have hc5 := hb5.cell
          have hf5 := hb5.frozen
          have hl5 := hb5.lt
          refine ⟨_, (by go_simp; rfl), ?_⟩
          have hW5 : Hid (Wr wo g (w5.setCell ⟨w3.heap.size, 2, none⟩ (.slice (some ⟨bk, 0, none⟩) (tr.length + 1) ck))) := k4.put (by dsimp only; omega) _
          have hR5 : IsRing wb (w5.setCell ⟨w3.heap.size, 2, none⟩ (.slice (some ⟨bk, 0, none⟩) (tr.length + 1) ck)) g (B + 1 + 11 * (3 - m) + 3 + 2 * (4 - k) + 2) := k2.put (p := (⟨w3.heap.size, 2, none⟩ : Addr)) (And.intro (by dsimp only; omega) hnq) _
          have hB5 : Hid (Blk (w5.setCell ⟨w3.heap.size, 2, none⟩ (.slice (some ⟨bk, 0, none⟩) (tr.length + 1) ck)) w3.heap.size 97 #[.int .i64 v2, .int .i64 v3, .slice (some ⟨bk, 0, none⟩) (tr.length + 1) ck]) := hb5.set_ 2 _
          have hO5 : Hid ((w5.setCell ⟨w3.heap.size, 2, none⟩ (.slice (some ⟨bk, 0, none⟩) (tr.length + 1) ck)).ownsRow (w3.heap.size + 1) 85 2 (.slice (some ⟨bk, 0, none⟩) (tr.length + 1) ck) (tr ++ [(⟨x, y⟩ : Vec)]).length ((tr ++ [(⟨x, y⟩ : Vec)]).flatMap vecC)) := by
            have := own_set k3 (p := ⟨w3.heap.size, 2, none⟩) (by intro e; have := (k3.lt _ e).1; dsimp only at this; omega) (.slice (some ⟨bk, 0, none⟩) (tr.length + 1) ck)
            rw [List.length_append, List.flatMap_append]
            exact this
          go_wp2_with fail
          go_roundw
          case rel =>
            refine ⟨k - 1, _, tr ++ [⟨x, y⟩], by go_num, by simp; omega, by simp; omega, ?_, hB5, hO5, hW5, hR5.mono (by omega)⟩
            refine Lib.hid ?_
            intro p hp
            rcases List.mem_append.1 hp with hp | hp
            · exact HT.out p hp
            · simp at hp; subst hp; exact ⟨hx, hy⟩
          case measure => simp [intOf]; omega
        · have hk0 : k = 0 := by omega
          subst hk0
          obtain ⟨bk, cap, rfl, hbk1, hbk2⟩ := own_some HR.out (by
            rintro rfl
            have := HR.out.1
            rcases HR.out.2 with ⟨_, h0⟩ | ⟨_, _, _, h0, _⟩
            · omega
            · cases h0)
          have hbsq := Blk.wr hbs HWq.out hg1
          have hbrq := Blk.wr hbr HWq.out hg0
          have hcsq := hbsq.cell
          have hfsq := hbsq.frozen
          have hlsq := hbsq.lt
          have hkl : l.length ≤ 2 := by omega
          obtain ⟨raw, g1, g2, g3, g4, g5, g6⟩ := HO.out.wr hrr HWq.out
          have hlt2 := OwnBodies.lt HO.out
          have G := Lib.hid (And.intro g1 (And.intro g2 (And.intro g4 (And.intro g5 (And.intro g6 hlt2)))))
          have G3 := Lib.hid g3
          clear g1 g2 g3 g4 g5 g6 hlt2
          go_wp2_with (at_builtin; go_loud (refine wpList_append_sl rfl (.tmp 40) (.tmp 42) 22 rfl (w.heap.size + 1 + 1) 97 ib _ 3 40 Tryz.underlying22 hib hb0 hb1 hb2 rfl (by decide) _ l.length raw.flatten rfl (own_ext_keep G3.out ext_by) (some ⟨wq.heap.size, 0, none⟩) 1 1 [.int .i64 v2, .int .i64 v3, .slice (some ⟨bk, 0, none⟩) tr.length cap] rfl rfl (.inr ⟨_, rfl, new_cells (by simp)⟩) (by intro u hu; simp at hu; rcases hu with rfl | rfl | rfl <;> rfl) (by unfold maxLen; omega) (by omega) (by simp; omega) ?_))
          intro v6 w6 ho6 hg6 hn6
          obtain ⟨b6, c6, rfl, hb61, hb62⟩ := own_some ho6 (fun h => by
            subst h
            rcases ho6.2 with ⟨_, h0⟩ | ⟨_, _, _, h0, _⟩
            · omega
            · cases h0)
          have hoA := own_ext_keep G3.out (Ext.alloc0 wq (.cells #[.int .i64 v2, .int .i64 v3, .slice (some ⟨bk, 0, none⟩) tr.length cap] 97))
          have hb6 : Blk w6 (w.heap.size + 1) 53 #[v, .int .i64 0, .slice none 0 0, .slice none 0 0] := (hbsq.ext (Ext.alloc0 _ _)).grown hg6 (own_blk hoA (hbsq.ext (Ext.alloc0 _ _)) (by decide))
          have hr6b : Blk w6 w.heap.size 53 zsky := (hbrq.ext (Ext.alloc0 _ _)).grown hg6 (own_blk hoA (hbrq.ext (Ext.alloc0 _ _)) (by decide))
          have hring6 : IsRing wb w6 g _ := (hrq.alloc _).row hg6 ((hrq.alloc _).ne hoA (by decide)) (own_ge hoA (by omega))
          have hW6 : Wr w g w6 := ((HW.out.trans HWq.out).alloc _).row hg6 (own_ge hoA (by omega))
          have HO6 : OwnBodies (w.heap.size + 1 + 1) w6 (.slice (some ⟨b6, 0, none⟩) (l.length + 1) c6) (l ++ [⟨v2, v3, tr⟩]) (bs ++ [bk]) := by
            obtain ⟨g1, g2, g4, g5, g6, g7⟩ := G.out
            refine OwnBodies.snoc g1 g2 hoA g4 (fun j hj => ?_) g6 ⟨v2, v3, tr⟩ bk cap (own_mono (own_ext_keep HR.out (Ext.alloc0 _ _)) (by omega)) (fun b hb => ?_) hg6 ho6
            · obtain ⟨b1, c1, q1, q2, q3⟩ := g5 j hj
              exact ⟨b1, c1, q1, q2, own_ext_keep q3 (Ext.alloc0 _ _)⟩
            · have := g7 b hb; omega
          have hc6 := hb6.cell
          have hf6 := hb6.frozen
          have hl6 := hb6.lt
          have Q1 := Lib.hid hb6
          have Q2 := Lib.hid hr6b
          have Q3 := Lib.hid hring6
          have Q4 := Lib.hid hW6
          have Q5 := Lib.hid HO6
          clear hb6 hr6b hring6 hW6 HO6 ho6 hg6 hn6 hoA
          go_wp2_with fail
          go_roundw
          case rel =>
            refine ⟨m - 1, _, l ++ [⟨v2, v3, tr⟩], bs ++ [bk], by go_num, by simp; omega, by simp; omega, ?_, Lib.hid (OwnBodies.set (p := ⟨w.heap.size + 1, 0, none⟩) Q5.out (by dsimp only; omega) _), Lib.hid (Q1.out.set_ 0 _), Lib.hid (Q2.out.far (by dsimp only; omega) _), Lib.hid (Q4.out.put (by dsimp only; omega) _), IsRing.mono (Q3.out.put (And.intro (by dsimp only; omega) (by dsimp only; omega)) _) (by omega)⟩
            refine Lib.hid ?_
            intro b hb
            rcases List.mem_append.1 hb with hb | hb
            · exact HG.out b hb
            · simp at hb
              subst hb
              exact ⟨⟨by dsimp only; omega, by dsimp only; omega⟩, ⟨by dsimp only; omega, by dsimp only; omega⟩, ⟨by dsimp only; omega, by dsimp only; omega⟩, HT.out⟩
          case measure => simp [intOf]; omega
    · have hm0 : m = 0 := by omega
      subst hm0
      obtain ⟨bv, cv, rfl⟩ := HO.out.some (by omega)
      have hlen3 : l.length ≤ 3 := by omega
      have hlen1 : 1 ≤ l.length := by omega
      go_wp2_with fail
      refine (Next_c wb g _ _ _ hrr (by omega) (by omega) (by omega)).mono ?_; rintro e w2 ⟨v2, rfl, va2, vb2, hw2, hr2⟩; obtain ⟨hc2, hf2, hz2⟩ := Wr.cells hw2; (try simp only [szA] at hz2); have hg2 := hr2.lt
      have hs2 := hbs.wr hw2 hg1
      have hs2c := hs2.cell
      have hs2f := hs2.frozen
      have hs2l := hs2.lt
      have Q1 : Hid (Blk (w2.setCell ⟨w.heap.size + 1, 1, none⟩ (.int .i64 v2)) (w.heap.size + 1) 53 #[.slice (some ⟨bv, 0, none⟩) l.length cv, .int .i64 v2, .slice none 0 0, .slice none 0 0]) := hs2.set_ 1 _
      have Q2 : Hid (Blk (w2.setCell ⟨w.heap.size + 1, 1, none⟩ (.int .i64 v2)) w.heap.size 53 zsky) := (hbr.wr hw2 hg0).far (by dsimp only; omega) _
      have Q3 : IsRing wb (w2.setCell ⟨w.heap.size + 1, 1, none⟩ (.int .i64 v2)) g (B + 35) := (hr2.mono (by omega)).put (And.intro (by dsimp only; omega) hg1) _
      have Q4 : Hid (Wr w g (w2.setCell ⟨w.heap.size + 1, 1, none⟩ (.int .i64 v2))) := (HW.out.trans hw2).put (by dsimp only; omega) _
      have Q5 : Hid (OwnBodies (w.heap.size + 1 + 1) (w2.setCell ⟨w.heap.size + 1, 1, none⟩ (.int .i64 v2)) (.slice (some ⟨bv, 0, none⟩) l.length cv) l bs) := OwnBodies.set (HO.out.wr hrr hw2) (by dsimp only; omega) _
      generalize hW3 : w2.setCell ⟨w.heap.size + 1, 1, none⟩ (.int .i64 v2) = W3 at Q1 Q2 Q3 Q4 Q5
      clear hs2 hc2 hf2 hw2 hr2
      go_wp2_with fail
      clear hW3
      refine (Next_c wb g _ _ _ Q3 (by omega) (by omega) (by omega)).mono ?_; rintro e w3 ⟨v3, rfl, va3, vb3, hw3, hr3⟩; obtain ⟨hc3, hf3, hz3⟩ := Wr.cells hw3; (try simp only [szA] at hz3); have hg3 := hr3.lt
      have P1 : Hid (Blk w3 (w.heap.size + 1) 53 #[.slice (some ⟨bv, 0, none⟩) l.length cv, .int .i64 v2, .slice none 0 0, .slice none 0 0]) := Q1.out.wr hw3 hg1
      have P2 : Hid (Blk w3 w.heap.size 53 zsky) := Q2.out.wr hw3 hg0
      have P4 : Hid (Wr w g w3) := Q4.out.trans hw3
      have P5 : Hid (OwnBodies (w.heap.size + 1 + 1) w3 (.slice (some ⟨bv, 0, none⟩) l.length cv) l bs) := Q5.out.wr Q3 hw3
      clear Q1 Q2 Q4 Q5 hc3 hf3 hw3
      go_wp2_with fail
      go_loopw [7, 8] (fun j i wr => ∃ (id : Int) (m : Nat) (vs : Value) (ls : List Stn), j = .int .i64 id ∧ i = .int .i64 m ∧ 0 ≤ id ∧ id ≤ 3 * ls.length ∧ ls.length + m ≤ 3 ∧ 1 ≤ ls.length + m ∧ Hid (goodStns ls id) ∧
        Hid (Blk wr (w.heap.size + 1) 53 #[.slice (some ⟨bv, 0, none⟩) l.length cv, .int .i64 v2, vs, .slice none 0 0]) ∧ Hid (Blk wr w.heap.size 53 zsky) ∧ Hid (Wr w g wr) ∧
        Hid (OwnBodies (w.heap.size + 1 + 1) wr (.slice (some ⟨bv, 0, none⟩) l.length cv) l bs) ∧ Hid (wr.ownsRow (w.heap.size + 1 + 1) 146 3 vs ls.length (ls.flatMap stnC)) ∧ IsRing wb wr g (B + 36 + 3 * (3 - m))) (fun _ i _ => (intOf i).toNat)
      case atStart =>
        refine ⟨0, (1 + v3).toNat, .slice none 0 0, [], rfl, by rw [Int.toNat_of_nonneg (by omega)], by omega, by simp, by simp; omega, by simp; omega, Lib.hid ⟨List.Pairwise.nil, by intro p hp; cases hp⟩, P1, P2, P4, P5, World.ownsRow_nil _ _ _ _, hr3.mono (by omega)⟩
      case round =>
        obtain ⟨id, m, vs, ls, rfl, rfl, hid0, hid1, hm3, hm1, HG2, HBs, HBr, HW, HO, HOs, hrr⟩ := hrel
        obtain ⟨wq, rfl⟩ : ∃ wq : World, wq = wr := ⟨_, rfl⟩
        have hbs := HBs.out
        have hbr := HBr.out
        have hcS := hbs.cell
        have hfS := hbs.frozen
        have hlS := hbs.lt
        have hgr := hrr.lt
        by_cases hlt : 0 < m
        · go_wp2_with fail
          refine (Next_c wb g _ _ _ hrr (by omega) (by omega) (by omega)).mono ?_; rintro e w4 ⟨v4, rfl, va4, vb4, hw4, hr4⟩; obtain ⟨hc4, hf4, hz4⟩ := Wr.cells hw4; (try simp only [szA] at hz4); have hg4 := hr4.lt
          have hb4 := hbs.wr hw4 hg1
          have hc4b := hb4.cell
          have hf4b := hb4.frozen
          have hl4b := hb4.lt
          have ho4 := own_wr HOs.out hrr (by decide) hw4
          have hnk : w.heap.size + 1 ≠ rowOr vs g := rowOr_ne ho4 hb4 (by decide) hg1
          have hW4 : Wr w g w4 := HW.out.trans hw4
          have Ho4 := Lib.hid ho4
          have HW4 := Lib.hid hW4
          have HO4 := Lib.hid (HO.out.wr hrr hw4)
          have HBr4 := Lib.hid (hbr.wr hw4 hg0)
          clear ho4 hW4 hcS hfS hlS
          go_wp2_with fail
          refine wp_region_chain0 true [([0, 1, 2, 3], 4)] [] [5, 6, 7, 8, 9] (Wr2 w4 g (rowOr vs g)) (fun w => Wr w4 g w ∧ IsRing wb w g (B + 36 + 3 * (3 - m) + 1)) ((Wr.stable w4 g).and (Stable.ring _ _ _)) (fun w h => h.1.two _) ⟨(Wr.refl _ _).drew, hr4.drew⟩ (by kernel_rfl) (by kernel_rfl) ?_
          repeat' (first | (refine bl_off (by rfl) ?_; simp only [putX]) | (apply bl_op; rfl; (intro w1 h1; obtain ⟨hc, hf, hz⟩ := Wr2.cells h1; go_simp; (try go_bits); (first | exact ⟨rfl, Ext.refl _⟩)); simp only [putX]) | (refine bl_split rfl rfl (fun hx => ?_) (fun hx => ?_) <;> simp only [hx]))
          refine bl_nil ?_
          simp only [pick1, List.drop_succ_cons, List.drop_zero]
          refine xe_call (f := 127) (args := #[.pointer (some ⟨g, 0, none⟩), .int .i64 40]) (fun v => ∃ x y : Int, v = .agg #[.int .i64 x, .int .i64 y] ∧ (-40 ≤ x ∧ x ≤ 40) ∧ -40 ≤ y ∧ y ≤ 40) (fun w => Wr w4 g w ∧ IsRing wb w g (B + 36 + 3 * (3 - m) + 1 + 2)) rfl ((Wr.stable w4 g).and (Stable.ring _ _ _)) (fun w h => h.1.two _) (fun w h => by go_simp) (fun w h => ?_) ?_
          · refine (PointOf_c wb g (B + 36 + 3 * (3 - m) + 1) 40 w h.2 (by omega) (by omega) (by omega)).mono ?_
            rintro e w' ⟨x, y, rfl, p1, p2, p3, p4, k1, k2⟩
            exact ⟨_, rfl, ⟨x, y, rfl, ⟨p1, p2⟩, p3, p4⟩, h.1.trans k1, k2⟩
          rintro v ⟨x, y, rfl, hx, hy⟩
          simp only [putX]
          refine bl_nil ?_
          refine tl_val (v := .agg #[.int .i64 (id + 1 + v4), .int .i64 x, .int .i64 y]) rfl ((Wr.stable w4 g).and (Stable.ring _ _ _)) (fun w h => h.1.two _) (fun w h => by go_simp) ?_
          simp only [putX]
          refine tl_slice (e := 146) (zs := #[.int .i64 (id + 1 + v4), .int .i64 x, .int .i64 y]) rfl ((Wr.stable w4 g).and (Stable.ring _ _ _)) (fun w h => h.1.two _) (fun w => by go_simp) (fun b => ?_)
          simp only [putX]
          refine tl_append rfl (.tmp 67) (.tmp 72) 50 rfl (w.heap.size + 1 + 1) 146 it _ 3 24 Tryz.underlying50 hit ht0 ht1 ht2 rfl (by decide) vs ls.length (ls.flatMap stnC) rfl b #[.int .i64 (id + 1 + v4), .int .i64 x, .int .i64 y] rfl rfl (by intro u hu; simp at hu; rcases hu with rfl | rfl | rfl <;> rfl) (by unfold maxLen; omega) (by omega) (fun w' h => ⟨own_wr Ho4.out hr4 (by decide) h.1.1, h.2, by have := h.1.1.size; have := HW4.out.size; omega⟩)
            (fun v' w' => Wr2 w4 g (rowOr vs g) w' ∧ IsRing wb w' g (B + 36 + 3 * (3 - m) + 1 + 2) ∧ w'.ownsRow (w.heap.size + 1 + 1) 146 3 v' (ls.length + 1) (ls.flatMap stnC ++ [.int .i64 (id + 1 + v4), .int .i64 x, .int .i64 y]) ∧ Wr w g w')
            (fun v' => (Wr2.stable _ _ _).and ((Stable.ring _ _ _).and ((Stable.own _ _ _ _ _ _).and (Wr.stable _ _)))) (fun v' w h => h.1) (fun w1 w' v' h k1 k2 _ => ?_) (fun bk ck => ?_)
          · obtain ⟨⟨q1, q2⟩, q3⟩ := h
            have ho := own_wr Ho4.out hr4 (by decide) q1
            exact ⟨(q1.two _).row k2, q2.row k2 (q2.ne ho (by decide)) (own_ge ho (by omega)), k1, (HW4.out.trans q1).row k2 (own_ge ho (by omega))⟩
          simp only [putX]
          refine tl_val (v := .pointer (some ⟨w.heap.size + 1, 2, none⟩)) rfl ((Wr2.stable _ _ _).and ((Stable.ring _ _ _).and ((Stable.own _ _ _ _ _ _).and (Wr.stable _ _)))) (fun w h => h.1) (fun w h => by go_simp) ?_
          simp only [putX]
          refine tl_last rfl rfl (fun w5 ⟨k1, k2, k3, k4⟩ => ?_)
          have hb5 := hb4.wr2 k1 hg1 hnk
          have hc5 := hb5.cell
          have hf5 := hb5.frozen
          have hl5 := hb5.lt
          refine ⟨_, (by go_simp; rfl), ?_⟩
          have hne0 : w.heap.size ≠ rowOr vs g := rowOr_ne Ho4.out HBr4.out (by decide) hg0
          have R1 : Hid (Wr w g (w5.setCell ⟨w.heap.size + 1, 2, none⟩ (.slice (some ⟨bk, 0, none⟩) (ls.length + 1) ck))) := k4.put (by dsimp only; omega) _
          have R2 : IsRing wb (w5.setCell ⟨w.heap.size + 1, 2, none⟩ (.slice (some ⟨bk, 0, none⟩) (ls.length + 1) ck)) g (B + 36 + 3 * (3 - m) + 1 + 2) := k2.put (p := (⟨w.heap.size + 1, 2, none⟩ : Addr)) (And.intro (by dsimp only; omega) hg1) _
          have R3 : Hid (Blk (w5.setCell ⟨w.heap.size + 1, 2, none⟩ (.slice (some ⟨bk, 0, none⟩) (ls.length + 1) ck)) (w.heap.size + 1) 53 #[.slice (some ⟨bv, 0, none⟩) l.length cv, .int .i64 v2, .slice (some ⟨bk, 0, none⟩) (ls.length + 1) ck, .slice none 0 0]) := hb5.set_ 2 _
          have R4 : Hid (Blk (w5.setCell ⟨w.heap.size + 1, 2, none⟩ (.slice (some ⟨bk, 0, none⟩) (ls.length + 1) ck)) w.heap.size 53 zsky) := (HBr4.out.wr2 k1 hg0 hne0).far (by dsimp only; omega) _
          have R5 : Hid (OwnBodies (w.heap.size + 1 + 1) (w5.setCell ⟨w.heap.size + 1, 2, none⟩ (.slice (some ⟨bk, 0, none⟩) (ls.length + 1) ck)) (.slice (some ⟨bv, 0, none⟩) l.length cv) l bs) := OwnBodies.set (HO4.out.wr2 hr4 Ho4.out (by decide) (by decide) k1) (by dsimp only; omega) _
          have R6 : Hid ((w5.setCell ⟨w.heap.size + 1, 2, none⟩ (.slice (some ⟨bk, 0, none⟩) (ls.length + 1) ck)).ownsRow (w.heap.size + 1 + 1) 146 3 (.slice (some ⟨bk, 0, none⟩) (ls.length + 1) ck) (ls ++ [(⟨id + 1 + v4, ⟨x, y⟩⟩ : Stn)]).length ((ls ++ [(⟨id + 1 + v4, ⟨x, y⟩⟩ : Stn)]).flatMap stnC)) := by
            have := own_set k3 (p := ⟨w.heap.size + 1, 2, none⟩) (by intro e; have := (k3.lt _ e).1; dsimp only at this; omega) (.slice (some ⟨bk, 0, none⟩) (ls.length + 1) ck)
            rw [List.length_append, List.flatMap_append]
            exact this
          go_wp2_with fail
          go_roundw
          case rel =>
            refine ⟨_, m - 1, _, ls ++ [⟨id + 1 + v4, ⟨x, y⟩⟩], rfl, by go_num, by omega, by simp; omega, by simp; omega, by simp; omega, ?_, R3, R4, R1, R5, R6, R2.mono (by omega)⟩
            have hG := HG2.out
            refine Lib.hid ⟨?_, ?_⟩
            · refine List.pairwise_append.2 ⟨hG.1, by simp, fun p hp q hq => ?_⟩
              simp at hq; subst hq
              have := (hG.2 p hp).1.2
              dsimp only; omega
            · intro p hp
              rcases List.mem_append.1 hp with hp | hp
              · have := hG.2 p hp
                exact ⟨⟨this.1.1, by omega⟩, this.2⟩
              · simp at hp; subst hp; exact ⟨⟨by dsimp only; omega, by dsimp only; omega⟩, hx, hy⟩
          case measure => simp [intOf]; omega
        · have hm0 : m = 0 := by omega
          subst hm0
          obtain ⟨bt, ct, rfl, _, _⟩ := own_some HOs.out (by
            rintro rfl
            rcases HOs.out.2 with ⟨_, h0⟩ | ⟨_, _, _, h0, _⟩
            · omega
            · cases h0)
          have hls3 : ls.length ≤ 3 := by omega
          have hls1 : 1 ≤ ls.length := by omega
          go_wp2_with fail
          refine (Next_c wb g _ _ _ hrr (by omega) (by omega) (by omega)).mono ?_; rintro e w4 ⟨v4, rfl, va4, vb4, hw4, hr4⟩; obtain ⟨hc4, hf4, hz4⟩ := Wr.cells hw4; (try simp only [szA] at hz4); have hg4 := hr4.lt
          have P1 : Hid (Blk w4 (w.heap.size + 1) 53 #[.slice (some ⟨bv, 0, none⟩) l.length cv, .int .i64 v2, .slice (some ⟨bt, 0, none⟩) ls.length ct, .slice none 0 0]) := hbs.wr hw4 hg1
          have P2 : Hid (Blk w4 w.heap.size 53 zsky) := hbr.wr hw4 hg0
          have P4 : Hid (Wr w g w4) := HW.out.trans hw4
          have P5 : Hid (OwnBodies (w.heap.size + 1 + 1) w4 (.slice (some ⟨bv, 0, none⟩) l.length cv) l bs) := HO.out.wr hrr hw4
          have P6 : Hid (w4.ownsRow (w.heap.size + 1 + 1) 146 3 (.slice (some ⟨bt, 0, none⟩) ls.length ct) ls.length (ls.flatMap stnC)) := own_wr HOs.out hrr (by decide) hw4
          clear HBs HBr HW HO HOs hc4 hf4 hw4 hbs hbr hcS hfS hlS
          go_wp2_with fail
          go_loopw [9, 10] (fun j i wr => ∃ (ver : Int) (m : Nat) (vc : Value) (lc : List Cat), j = .int .i64 ver ∧ i = .int .i64 m ∧ 0 ≤ ver ∧ ver ≤ 3 * lc.length ∧ lc.length + m ≤ 3 ∧ 1 ≤ lc.length + m ∧ Hid (goodCats lc ver) ∧
            Hid (Blk wr (w.heap.size + 1) 53 #[.slice (some ⟨bv, 0, none⟩) l.length cv, .int .i64 v2, .slice (some ⟨bt, 0, none⟩) ls.length ct, vc]) ∧ Hid (Blk wr w.heap.size 53 zsky) ∧ Hid (Wr w g wr) ∧
            Hid (OwnBodies (w.heap.size + 1 + 1) wr (.slice (some ⟨bv, 0, none⟩) l.length cv) l bs) ∧ Hid (wr.ownsRow (w.heap.size + 1 + 1) 146 3 (.slice (some ⟨bt, 0, none⟩) ls.length ct) ls.length (ls.flatMap stnC)) ∧
            Hid (wr.ownsRow (w.heap.size + 1 + 1) 148 3 vc lc.length (lc.flatMap catC)) ∧ IsRing wb wr g (B + 46 + 4 * (3 - m))) (fun _ i _ => (intOf i).toNat)
          case atStart =>
            refine ⟨0, (1 + v4).toNat, .slice none 0 0, [], rfl, by rw [Int.toNat_of_nonneg (by omega)], by omega, by simp, by simp; omega, by simp; omega, Lib.hid ⟨List.Pairwise.nil, by intro p hp; cases hp⟩, P1, P2, P4, P5, P6, World.ownsRow_nil _ _ _ _, hr4.mono (by omega)⟩
          case round =>
            obtain ⟨ver, m, vc, lc, rfl, rfl, hvr0, hvr1, hm3, hm1, HG3, HBs, HBr, HW, HO, HOs, HOc, hrr⟩ := hrel
            obtain ⟨wq, rfl⟩ : ∃ wq : World, wq = wr := ⟨_, rfl⟩
            have hbs := HBs.out
            have hbr := HBr.out
            have hcS := hbs.cell
            have hfS := hbs.frozen
            have hlS := hbs.lt
            have hgr := hrr.lt
            by_cases hlt : 0 < m
            · go_wp2_with fail
              refine (Next_c wb g _ _ _ hrr (by omega) (by omega) (by omega)).mono ?_; rintro e w5 ⟨v5, rfl, va5, vb5, hw5, hr5⟩; obtain ⟨hc5, hf5, hz5⟩ := Wr.cells hw5; (try simp only [szA] at hz5); have hg5 := hr5.lt
              go_wp2_with fail
              refine (Next_c wb g _ _ _ hr5 (by omega) (by omega) (by omega)).mono ?_; rintro e w6 ⟨v6, rfl, va6, vb6, hw6, hr6⟩; obtain ⟨hc6, hf6, hz6⟩ := Wr.cells hw6; (try simp only [szA] at hz6); have hg6 := hr6.lt
              have hw56 : Wr wq g w6 := hw5.trans hw6
              have hb4 := hbs.wr hw56 hg1
              have hc4b := hb4.cell
              have hf4b := hb4.frozen
              have hl4b := hb4.lt
              have ho4 := own_wr HOc.out hrr (by decide) hw56
              have hnk : w.heap.size + 1 ≠ rowOr vc g := rowOr_ne ho4 hb4 (by decide) hg1
              have hW4 : Wr w g w6 := HW.out.trans hw56
              have Ho4 := Lib.hid ho4
              have HW4 := Lib.hid hW4
              have HO4 := Lib.hid (HO.out.wr hrr hw56)
              have HOs4 := Lib.hid (own_wr HOs.out hrr (by decide) hw56)
              have HBr4 := Lib.hid (hbr.wr hw56 hg0)
              clear ho4 hW4 hcS hfS hlS hw5 hw6 hw56 hc5 hf5 hc6 hf6 hr5
              go_wp2_with fail
              refine wp_region_chain0 true [([0, 1, 2, 3, 4, 5, 7], 6), ([], 8)] [] [9, 10, 11, 12, 13, 14, 15, 16] (Wr2 w6 g (rowOr vc g)) (fun w => Wr w6 g w ∧ IsRing wb w g (B + 46 + 4 * (3 - m) + 1 + 1)) ((Wr.stable w6 g).and (Stable.ring _ _ _)) (fun w h => h.1.two _) ⟨(Wr.refl _ _).drew, hr6.drew⟩ (by kernel_rfl) (by kernel_rfl) ?_
              repeat' (first | (refine bl_off (by rfl) ?_; simp only [putX]) | (apply bl_op; rfl; (intro w1 h1; obtain ⟨hc, hf, hz⟩ := Wr2.cells h1; go_simp; (try go_bits); (first | exact ⟨rfl, Ext.refl _⟩)); simp only [putX]) | (refine bl_split rfl rfl (fun hx => ?_) (fun hx => ?_) <;> simp only [hx]))
              refine bl_nil ?_
              simp only [pick1, List.drop_succ_cons, List.drop_zero]
              refine xe_call (f := 62) (args := #[.pointer (some ⟨g, 0, none⟩), .int .i64 3]) (fun v => ∃ x : Int, v = .int .i64 x ∧ 0 ≤ x ∧ x < 3) (fun w => Wr w6 g w ∧ IsRing wb w g (B + 46 + 4 * (3 - m) + 1 + 1 + 1)) rfl ((Wr.stable w6 g).and (Stable.ring _ _ _)) (fun w h => h.1.two _) (fun w h => by go_simp) (fun w h => ?_) ?_
              · refine (Next_c wb g (B + 46 + 4 * (3 - m) + 1 + 1) 3 w h.2 (by omega) (by omega) (by omega)).mono ?_
                rintro e w' ⟨x, rfl, p1, p2, k1, k2⟩
                exact ⟨_, rfl, ⟨x, rfl, p1, p2⟩, h.1.trans k1, k2⟩
              rintro v ⟨x, rfl, hx0, hx1⟩
              simp only [putX]
              refine bl_nil ?_
              simp only [pick1, List.drop_succ_cons, List.drop_zero]
              refine xe_call (f := 62) (args := #[.pointer (some ⟨g, 0, none⟩), .int .i64 5000]) (fun v => ∃ x : Int, v = .int .i64 x ∧ 0 ≤ x ∧ x < 5000) (fun w => Wr w6 g w ∧ IsRing wb w g (B + 46 + 4 * (3 - m) + 1 + 1 + 1 + 1)) rfl ((Wr.stable w6 g).and (Stable.ring _ _ _)) (fun w h => h.1.two _) (fun w h => by go_simp) (fun w h => ?_) ?_
              · refine (Next_c wb g (B + 46 + 4 * (3 - m) + 1 + 1 + 1) 5000 w h.2 (by omega) (by omega) (by omega)).mono ?_
                rintro e w' ⟨x, rfl, p1, p2, k1, k2⟩
                exact ⟨_, rfl, ⟨x, rfl, p1, p2⟩, h.1.trans k1, k2⟩
              rintro v ⟨y, rfl, hy0, hy1⟩
              have hxy0 : 0 ≤ x * y := Int.mul_nonneg hx0 hy0
              have hxy1 : x * y ≤ 9998 := by
                have h1 : x * y ≤ 2 * y := Int.mul_le_mul_of_nonneg_right (by omega) hy0
                omega
              generalize hxy : x * y = xy at hxy0 hxy1
              simp only [putX]
              refine bl_nil ?_
              refine tl_val (v := .int .i64 xy) rfl ((Wr.stable w6 g).and (Stable.ring _ _ _)) (fun w h => h.1.two _) (fun w h => by go_simp; exact IntWalk.i64_in _ (by omega)) ?_
              simp only [putX]
              refine tl_val (v := .int .i64 (v6 - 10000 + xy)) rfl ((Wr.stable w6 g).and (Stable.ring _ _ _)) (fun w h => h.1.two _) (fun w h => by go_simp; (try go_bits); try trivial) ?_
              simp only [putX]
              refine tl_val (v := .agg #[.int .i64 (v6 - 10000), .int .i64 (v6 - 10000 + xy)]) rfl ((Wr.stable w6 g).and (Stable.ring _ _ _)) (fun w h => h.1.two _) (fun w h => by go_simp) ?_
              simp only [putX]
              refine tl_val (v := .agg #[.int .i64 (ver + 1 + v5), .int .i64 (v6 - 10000), .int .i64 (v6 - 10000 + xy)]) rfl ((Wr.stable w6 g).and (Stable.ring _ _ _)) (fun w h => h.1.two _) (fun w h => by go_simp) ?_
              simp only [putX]
              refine tl_slice (e := 148) (zs := #[.int .i64 (ver + 1 + v5), .int .i64 (v6 - 10000), .int .i64 (v6 - 10000 + xy)]) rfl ((Wr.stable w6 g).and (Stable.ring _ _ _)) (fun w h => h.1.two _) (fun w => by go_simp) (fun b => ?_)
              simp only [putX]
              refine tl_append rfl (.tmp 91) (.tmp 103) 51 rfl (w.heap.size + 1 + 1) 148 ic _ 3 24 Tryz.underlying51 hic hk0 hk1 hk2 rfl (by decide) vc lc.length (lc.flatMap catC) rfl b #[.int .i64 (ver + 1 + v5), .int .i64 (v6 - 10000), .int .i64 (v6 - 10000 + xy)] rfl rfl (by intro u hu; simp at hu; rcases hu with rfl | rfl | rfl <;> rfl) (by unfold maxLen; omega) (by omega) (fun w' h => ⟨own_wr Ho4.out hr6 (by decide) h.1.1, h.2, by have := h.1.1.size; have := HW4.out.size; omega⟩)
                (fun v' w' => Wr2 w6 g (rowOr vc g) w' ∧ IsRing wb w' g (B + 46 + 4 * (3 - m) + 1 + 1 + 1 + 1) ∧ w'.ownsRow (w.heap.size + 1 + 1) 148 3 v' (lc.length + 1) (lc.flatMap catC ++ [.int .i64 (ver + 1 + v5), .int .i64 (v6 - 10000), .int .i64 (v6 - 10000 + xy)]) ∧ Wr w g w')
                (fun v' => (Wr2.stable _ _ _).and ((Stable.ring _ _ _).and ((Stable.own _ _ _ _ _ _).and (Wr.stable _ _)))) (fun v' w h => h.1) (fun w1 w' v' h k1 k2 _ => ?_) (fun bk ck => ?_)
              · obtain ⟨⟨q1, q2⟩, q3⟩ := h
                have ho := own_wr Ho4.out hr6 (by decide) q1
                exact ⟨(q1.two _).row k2, q2.row k2 (q2.ne ho (by decide)) (own_ge ho (by omega)), k1, (HW4.out.trans q1).row k2 (own_ge ho (by omega))⟩
              simp only [putX]
              refine tl_val (v := .pointer (some ⟨w.heap.size + 1, 3, none⟩)) rfl ((Wr2.stable _ _ _).and ((Stable.ring _ _ _).and ((Stable.own _ _ _ _ _ _).and (Wr.stable _ _)))) (fun w h => h.1) (fun w h => by go_simp) ?_
              simp only [putX]
              refine tl_last rfl rfl (fun w5 ⟨k1, k2, k3, k4⟩ => ?_)
              have hb5 := hb4.wr2 k1 hg1 hnk
              have hc5 := hb5.cell
              have hf5 := hb5.frozen
              have hl5 := hb5.lt
              refine ⟨_, (by go_simp; rfl), ?_⟩
              have hne0 : w.heap.size ≠ rowOr vc g := rowOr_ne Ho4.out HBr4.out (by decide) hg0
              have R1 : Hid (Wr w g (w5.setCell ⟨w.heap.size + 1, 3, none⟩ (.slice (some ⟨bk, 0, none⟩) (lc.length + 1) ck))) := k4.put (by dsimp only; omega) _
              have R2 : IsRing wb (w5.setCell ⟨w.heap.size + 1, 3, none⟩ (.slice (some ⟨bk, 0, none⟩) (lc.length + 1) ck)) g (B + 46 + 4 * (3 - m) + 1 + 1 + 1 + 1) := k2.put (p := (⟨w.heap.size + 1, 3, none⟩ : Addr)) (And.intro (by dsimp only; omega) hg1) _
              have R3 : Hid (Blk (w5.setCell ⟨w.heap.size + 1, 3, none⟩ (.slice (some ⟨bk, 0, none⟩) (lc.length + 1) ck)) (w.heap.size + 1) 53 #[.slice (some ⟨bv, 0, none⟩) l.length cv, .int .i64 v2, .slice (some ⟨bt, 0, none⟩) ls.length ct, .slice (some ⟨bk, 0, none⟩) (lc.length + 1) ck]) := hb5.set_ 3 _
              have R4 : Hid (Blk (w5.setCell ⟨w.heap.size + 1, 3, none⟩ (.slice (some ⟨bk, 0, none⟩) (lc.length + 1) ck)) w.heap.size 53 zsky) := (HBr4.out.wr2 k1 hg0 hne0).far (by dsimp only; omega) _
              have R5 : Hid (OwnBodies (w.heap.size + 1 + 1) (w5.setCell ⟨w.heap.size + 1, 3, none⟩ (.slice (some ⟨bk, 0, none⟩) (lc.length + 1) ck)) (.slice (some ⟨bv, 0, none⟩) l.length cv) l bs) := OwnBodies.set (HO4.out.wr2 hr6 Ho4.out (by decide) (by decide) k1) (by dsimp only; omega) _
              have R7 : Hid ((w5.setCell ⟨w.heap.size + 1, 3, none⟩ (.slice (some ⟨bk, 0, none⟩) (lc.length + 1) ck)).ownsRow (w.heap.size + 1 + 1) 146 3 (.slice (some ⟨bt, 0, none⟩) ls.length ct) ls.length (ls.flatMap stnC)) := by
                have := own_wr2 HOs4.out hr6 (by decide) Ho4.out (by decide) k1
                exact own_set this (by intro e; have := (this.lt _ e).1; dsimp only at this; omega) _
              have R6 : Hid ((w5.setCell ⟨w.heap.size + 1, 3, none⟩ (.slice (some ⟨bk, 0, none⟩) (lc.length + 1) ck)).ownsRow (w.heap.size + 1 + 1) 148 3 (.slice (some ⟨bk, 0, none⟩) (lc.length + 1) ck) (lc ++ [(⟨ver + 1 + v5, v6 - 10000, v6 - 10000 + xy⟩ : Cat)]).length ((lc ++ [(⟨ver + 1 + v5, v6 - 10000, v6 - 10000 + xy⟩ : Cat)]).flatMap catC)) := by
                have := own_set k3 (p := ⟨w.heap.size + 1, 3, none⟩) (by intro e; have := (k3.lt _ e).1; dsimp only at this; omega) (.slice (some ⟨bk, 0, none⟩) (lc.length + 1) ck)
                rw [List.length_append, List.flatMap_append]
                exact this
              go_wp2_with fail
              go_roundw
              case rel =>
                refine ⟨_, m - 1, _, lc ++ [⟨ver + 1 + v5, v6 - 10000, v6 - 10000 + xy⟩], rfl, by go_num, by omega, by simp; omega, by simp; omega, by simp; omega, ?_, R3, R4, R1, R5, R7, R6, R2.mono (by omega)⟩
                have hG := HG3.out
                refine Lib.hid ⟨?_, ?_⟩
                · refine List.pairwise_append.2 ⟨hG.1, by simp, fun p hp q hq => ?_⟩
                  simp at hq; subst hq
                  have := (hG.2 p hp).1.2
                  dsimp only; omega
                · intro p hp
                  rcases List.mem_append.1 hp with hp | hp
                  · have := hG.2 p hp
                    exact ⟨⟨this.1.1, by omega⟩, this.2⟩
                  · simp at hp; subst hp; exact ⟨⟨by dsimp only; omega, by dsimp only; omega⟩, by dsimp only; omega, by dsimp only; omega, by dsimp only; omega, by dsimp only; omega⟩
              case measure => simp [intOf]; omega
            · have hm0 : m = 0 := by omega
              subst hm0
              obtain ⟨bc, cc, rfl, _, _⟩ := own_some HOc.out (by
                rintro rfl
                rcases HOc.out.2 with ⟨_, h0⟩ | ⟨_, _, _, h0, _⟩
                · omega
                · cases h0)
              have hcR := hbr.cell
              have hfR := hbr.frozen
              have hlR := hbr.lt
              go_wp2_with fail
              (try simp only [Exit.inBlock, Exit.then]); apply bodyPost_ret; (focus (simp only [results, Tryz.results81]; go_simp; try rfl)); rfl
              have hO : OwnSky (w.heap.size + 1 + 1) wq (.slice (some ⟨bv, 0, none⟩) l.length cv) (.slice (some ⟨bt, 0, none⟩) ls.length ct) (.slice (some ⟨bc, 0, none⟩) lc.length cc) ⟨⟨l, v2⟩, ls, lc⟩ bs := ⟨HO.out, HOs.out, HOc.out⟩
              have hset : ∀ (W : World) (i : Nat) (u : Value), OwnSky (w.heap.size + 1 + 1) W (.slice (some ⟨bv, 0, none⟩) l.length cv) (.slice (some ⟨bt, 0, none⟩) ls.length ct) (.slice (some ⟨bc, 0, none⟩) lc.length cc) ⟨⟨l, v2⟩, ls, lc⟩ bs →
                  OwnSky (w.heap.size + 1 + 1) (W.setCell ⟨w.heap.size, i, none⟩ u) (.slice (some ⟨bv, 0, none⟩) l.length cv) (.slice (some ⟨bt, 0, none⟩) ls.length ct) (.slice (some ⟨bc, 0, none⟩) lc.length cc) ⟨⟨l, v2⟩, ls, lc⟩ bs := fun W i u h =>
                ⟨OwnBodies.set h.bodies (by dsimp only; omega) _, own_set h.stations (by intro e; have := (h.stations.lt _ e).1; dsimp only at this; omega) _, own_set h.catalogs (by intro e; have := (h.catalogs.lt _ e).1; dsimp only at this; omega) _⟩
              have hOwn := (hset _ 3 (.slice (some ⟨bc, 0, none⟩) lc.length cc) (hset _ 2 (.slice (some ⟨bt, 0, none⟩) ls.length ct) (hset _ 1 (.int .i64 v2) (hset _ 0 (.slice (some ⟨bv, 0, none⟩) l.length cv) hO))))
              obtain ⟨A1, c1, A2, c2, A3, c3, e1, e2, e3, hsky⟩ := hOwn.sky
              injection e1 with e1 _ e1'; injection e2 with e2 _ e2'; injection e3 with e3 _ e3'
              subst e1 e2 e3
              refine ⟨_, _, _, _, _, _, _, _, _, _, _, rfl, ⟨_, hOwn.mono (by omega)⟩, hsky, ⟨⟨hlen1, hlen3⟩, HG.out, ⟨va2, vb2⟩, ⟨hls1, hls3⟩, ⟨_, HG2.out, by omega⟩, ⟨by dsimp only; omega, by dsimp only; omega⟩, ⟨_, HG3.out, by omega⟩⟩, ?_, ?_⟩
              · have := HW.out
                (repeat' (first | exact Wr.refl _ _ | assumption | apply Wr.alloc | apply Wr.drew | refine Wr.put ?_ (by dsimp only; omega) _ | refine Wr.trans ?_ (by assumption)))
              · have := hrr.mono (B' := B + 60) (by omega)
                (repeat' (first | assumption | apply IsRing.alloc | apply IsRing.drew | refine IsRing.put ?_ (by dsimp only; omega) _))
end Go.Proofs.YtfniicgoeljmdaaGreat
