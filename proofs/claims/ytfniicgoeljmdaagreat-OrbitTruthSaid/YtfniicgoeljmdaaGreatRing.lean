/- Lists of lists of numbers, and lists of flags, that the call itself makes. No condition. Numbers that are handed out by a ring. No condition. -/
import Derived.Test.YtfniicgoeljmdaaGreatBelieves
import Derived.Lib.AppendZeros
import Derived.Test.YtfniicgoeljmdaaGreatGenD
namespace Go.Proofs.YtfniicgoeljmdaaGreat
open Go.RowKit

def rowAt (w : World) (p : List Int) (b o : Nat) : Prop := ∃ A n c, w.cell? ⟨b, o, none⟩ = some (.slice A n c) ∧ Ints w A n p
abbrev IRows (w : World) (A : Option Addr) (n : Nat) (l : List (List Int)) : Prop := SlR 1 (rowAt w) A n l
theorem rowAt.ext {w w' : World} (e : Ext w w') {p : List Int} {b o : Nat} (h : rowAt w p b o) : rowAt w' p b o := by
  obtain ⟨A, n, c, h1, h2⟩ := h
  exact ⟨A, n, c, e.cell h1, Ints.ext e h2⟩
theorem IRows.ext {w w' : World} (e : Ext w w') {A n l} (h : IRows w A n l) : IRows w' A n l := SlR.mono h fun _ _ _ _ => rowAt.ext e

def OwnRows (base : Nat) (w : World) (v : Value) (rows : List (List Int)) : Prop :=
  ∃ raw : List Value, raw.length = rows.length ∧ w.ownsRow base 48 1 v rows.length raw ∧ ∀ k (h : k < rows.length), ∃ u, raw[k]? = some u ∧ OwnInts base w u rows[k]
theorem OwnRows.nil (base : Nat) (w : World) : OwnRows base w (.slice none 0 0) [] := ⟨[], rfl, World.ownsRow_nil _ _ _ _, fun k h => by cases h⟩
theorem OwnRows.ext {base : Nat} {w w' : World} {v : Value} {rows : List (List Int)} (h : OwnRows base w v rows) (e : Ext w w') : OwnRows base w' v rows := by
  obtain ⟨raw, h1, h2, h3⟩ := h
  refine ⟨raw, h1, own_ext_keep h2 e, fun k hk => ?_⟩
  obtain ⟨u, g1, g2⟩ := h3 k hk
  exact ⟨u, g1, g2.ext e⟩
theorem OwnRows.snoc {base : Nat} {w w' : World} {v v' u : Value} {rows : List (List Int)} {raw : List Value} {x : List Int} {n : Nat} (hn : n = 1) (h1 : raw.length = rows.length) (h2 : w.ownsRow base 48 1 v rows.length raw) (h3 : ∀ k (h : k < rows.length), ∃ u, raw[k]? = some u ∧ OwnInts base w u rows[k])
    (hu : OwnInts base w u x) (hg : w.grownBy w' v.ownBlock) (hv : w'.ownsRow base 48 1 v' (rows.length + n) (raw ++ [u])) : OwnRows base w' v' (rows ++ [x]) := by
  subst hn
  have keep : ∀ {q : Value} {l : List Int}, OwnInts base w q l → OwnInts base w' q l := fun h => World.ownsRow.kept h hg (own_ne h h2 (by decide))
  refine ⟨raw ++ [u], by simp [h1], by rw [List.length_append]; exact hv, fun k hk => ?_⟩
  by_cases hk' : k < rows.length
  · obtain ⟨q, g1, g2⟩ := h3 k hk'
    refine ⟨q, by rw [List.getElem?_append_left (by omega)]; exact g1, ?_⟩
    rw [List.getElem_append_left hk']
    exact keep g2
  · have hk2 : k = rows.length := by rw [List.length_append] at hk; simp at hk; omega
    subst hk2
    refine ⟨u, by rw [List.getElem?_append_right (by omega), h1]; simp, ?_⟩
    have e1 : (rows ++ [x])[rows.length] = x := by simp
    rw [e1]
    exact keep hu
theorem OwnRows.sl {base : Nat} {w : World} {v : Value} {rows : List (List Int)} (h : OwnRows base w v rows) : ∃ A c, v = .slice A rows.length c ∧ IRows w A rows.length rows := by
  obtain ⟨raw, h1, h3, h5⟩ := h
  rcases h3.2 with ⟨rfl, h0⟩ | ⟨g, cap, cur, rfl, hbg, hg, hnc, hcm, hcs, htk⟩
  · rw [h0]
    have : rows = [] := List.eq_nil_of_length_eq_zero h0
    subst this
    exact ⟨none, 0, rfl, SlR.nil _ _ _⟩
  · refine ⟨_, cap, rfl, rfl, by unfold maxLen at hcm; omega, .inr ⟨g, 0, rfl, fun k hk => ?_⟩⟩
    obtain ⟨u, q1, q2⟩ := h5 k hk
    obtain ⟨A, c, rfl, q3⟩ := q2.sl
    have h8 := h3.cells (g := g) rfl _ _ q1
    rw [add_none] at h8
    exact ⟨A, _, c, by rw [Nat.mul_one]; exact h8, q3⟩
end Go.Proofs.YtfniicgoeljmdaaGreat

namespace Go.Proofs.YtfniicgoeljmdaaGreat
open Go.RowKit

theorem tmod_in (n m : Int) (h0 : 1 ≤ m) : Int.tmod n m = if n % m = 0 ∨ 0 ≤ n then n % m else n % m - m := by
  rw [Int.tmod_eq_emod]
  split <;> split <;> first | rfl | (rename_i a b; exfalso; revert a b; simp [Int.dvd_iff_emod_eq_zero]; omega) | (have : m.natAbs = m := by omega) ; omega
set_option maxHeartbeats 400000 in
theorem Mod_c (n m : Int) (w : World) (h0 : 1 ≤ m) (h1 : m ≤ 4611686018427387904) :
    Calls Tryz.prog 53 #[.int .i64 n, .int .i64 m] w fun e w' => e = .returned (.int .i64 (n % m)) ∧ w = w' := by
  have hr := tmod_in n m h0
  have hm0 : 0 ≤ n % m := Int.emod_nonneg _ (by omega)
  have hm1 : n % m < m := Int.emod_lt_of_pos _ (by omega)
  generalize n % m = q at *
  generalize hp : Int.tmod n m = p at *
  go_enter Tryz.func53, Tryz.ntmps53
  go_wp2_with fail
  all_goals go_ret
  all_goals exact ⟨rfl, rfl⟩
set_option maxHeartbeats 400000 in
theorem Mod64_c (n m : Int) (w : World) (h0 : 1 ≤ m) (h1 : m ≤ 4611686018427387904) :
    Calls Tryz.prog 129 #[.int .i64 n, .int .i64 m] w fun e w' => e = .returned (.int .i64 (n % m)) ∧ w = w' := by
  have hr := tmod_in n m h0
  have hm0 : 0 ≤ n % m := Int.emod_nonneg _ (by omega)
  have hm1 : n % m < m := Int.emod_lt_of_pos _ (by omega)
  generalize n % m = q at *
  generalize hp : Int.tmod n m = p at *
  go_enter Tryz.func129, Tryz.ntmps129
  go_wp2_with fail
  all_goals go_ret
  all_goals exact ⟨rfl, rfl⟩

structure IsRing (wb w : World) (g : Nat) (B : Int) : Prop where
  ext : Ext wb w
  ge : wb.heap.size ≤ g
  blk : ∃ A n c l at_, Ints wb A n l ∧ Blk w g 150 #[.slice A n c, .int .i64 at_] ∧ 0 ≤ at_ ∧ at_ ≤ B
theorem IsRing.lt {wb w : World} {g : Nat} {B : Int} (h : IsRing wb w g B) : g < w.heap.size := by
  obtain ⟨A, n, c, l, at_, _, h2, _⟩ := h.blk
  exact h2.lt
theorem IsRing.mono {wb w : World} {g : Nat} {B B' : Int} (h : IsRing wb w g B) (hB : B ≤ B') : IsRing wb w g B' := by
  obtain ⟨A, n, c, l, at_, h1, h2, h3, h4⟩ := h.blk
  exact ⟨h.ext, h.ge, A, n, c, l, at_, h1, h2, h3, by omega⟩
theorem IsRing.keep {wb w w' : World} {g : Nat} {B : Int} (h : IsRing wb w g B) (e : Ext w w') : IsRing wb w' g B := by
  obtain ⟨A, n, c, l, at_, h1, h2, h3, h4⟩ := h.blk
  exact ⟨h.ext.trans e, h.ge, A, n, c, l, at_, h1, h2.ext e, h3, h4⟩
theorem IsRing.alloc {wb w : World} {g : Nat} {B : Int} (h : IsRing wb w g B) (o : Obj) : IsRing wb (w.alloc o) g B := h.keep (Ext.alloc0 _ _)
theorem IsRing.drew {wb w : World} {g : Nat} {B : Int} (h : IsRing wb w g B) : IsRing wb w.drew g B := h.keep (Ext.drew (Ext.refl _))
theorem IsRing.put {wb w : World} {g : Nat} {B : Int} (h : IsRing wb w g B) {p : Addr} (hp : wb.heap.size ≤ p.block ∧ p.block ≠ g) (u : Value) : IsRing wb (w.setCell p u) g B := by
  obtain ⟨A, n, c, l, at_, h1, h2, h3, h4⟩ := h.blk
  exact ⟨h.ext.set hp.1 u, h.ge, A, n, c, l, at_, h1, h2.far (fun e => hp.2 e.symm) u, h3, h4⟩
theorem Stable.ring (wb : World) (g : Nat) (B : Int) : Stable fun w => IsRing wb w g B := fun _ _ h e => h.keep e

theorem Wr.trans {w w1 w2 : World} {g : Nat} (h : Wr w g w1) (k : Wr w1 g w2) : Wr w g w2 :=
  ⟨k.os.trans h.os, k.tape.trans h.tape, k.output.trans h.output, Nat.le_trans h.size k.size, fun i hi hn => (k.block i (Nat.lt_of_lt_of_le hi h.size) hn).trans (h.block i hi hn)⟩
theorem Wr.of {w w1 : World} (g : Nat) (h : Ext w w1) : Wr w g w1 := Wr.stable _ _ _ _ (Wr.refl _ _) h
theorem Wr.alloc {w w1 : World} {g : Nat} (h : Wr w g w1) (o : Obj) : Wr w g (w1.alloc o) := Wr.stable _ _ _ _ h (Ext.alloc0 _ _)
theorem Wr.drew {w w1 : World} {g : Nat} (h : Wr w g w1) : Wr w g w1.drew := Wr.stable _ _ _ _ h (Ext.drew (Ext.refl _))
theorem Wr.put {w w1 : World} {g : Nat} (h : Wr w g w1) {p : Addr} (hp : w.heap.size ≤ p.block) (u : Value) : Wr w g (w1.setCell p u) :=
  ⟨h.os, h.tape, h.output, by simpa [World.setCell] using h.size, fun i hi hne => (Below.heap_setCell w1 p u i (by omega)).trans (h.block i hi hne)⟩

set_option maxHeartbeats 2000000 in
set_option maxRecDepth 4000 in
theorem Next_c (wb : World) (g : Nat) (B m : Int) (w : World) (hr : IsRing wb w g B) (hB : B ≤ 1000000000) (h0 : 1 ≤ m) (h1 : m ≤ 4611686018427387904) :
    Calls Tryz.prog 62 #[.pointer (some ⟨g, 0, none⟩), .int .i64 m] w fun e w' => ∃ v, e = .returned (.int .i64 v) ∧ 0 ≤ v ∧ v < m ∧ Wr w g w' ∧ IsRing wb w' g (B + 1) := by
  obtain ⟨A, n, c, l, at_, hl, hb, ha0, ha1⟩ := hr.blk
  obtain ⟨a, rfl⟩ : ∃ a : Nat, at_ = a := ⟨at_.toNat, by omega⟩
  have hlt := hb.lt
  have hcg := hb.cell
  have hfg := hb.frozen
  have hn := hl.le
  have fin : ∀ W, Blk W g 150 #[.slice A n c, .int .i64 ((a : Int) + 1)] → Wr w g W → Wr w g W ∧ IsRing wb W g (B + 1) := fun W k1 k2 =>
    ⟨k2, Wr.ext k2 hr.ext hr.ge, hr.ge, A, n, c, l, _, hl, k1, by omega, by omega⟩
  have Fin := Lib.hid fin
  have hW : Blk (w.setCell ⟨g, 1, none⟩ (.int .i64 ((a : Int) + 1))) g 150 #[.slice A n c, .int .i64 ((a : Int) + 1)] := hb.set_ 1 _
  have hWr : Wr w g (w.setCell ⟨g, 1, none⟩ (.int .i64 ((a : Int) + 1))) := (Wr.refl w g).set rfl _
  have HW := Lib.hid hW
  have HWr := Lib.hid hWr
  have hb0 : ∀ (x m : Int), 0 ≤ x → 1 ≤ m → 0 ≤ x % m ∧ x % m < m := fun x m _ hm => ⟨Int.emod_nonneg _ (by omega), Int.emod_lt_of_pos _ (by omega)⟩
  have Hb0 := Lib.hid hb0
  clear hb0 fin hW hWr
  by_cases hz : n = 0
  · subst hz
    go_enter Tryz.func62, Tryz.ntmps62
    go_wp2_with fail
    go_ret
    have := Hb0.out (((a : Int) + 1) * 7919 % 10007) m (by omega) h0
    exact ⟨_, rfl, this.1, this.2, Fin.out _ HW.out HWr.out⟩
  · have hn0 : 0 < n := by omega
    have hk : (a + 1) % n < n := Nat.mod_lt _ hn0
    have hk1 : 0 ≤ ((a : Int) + 1) % n := Int.emod_nonneg _ (by omega)
    have hk2 : ((a : Int) + 1) % n < n := Int.emod_lt_of_pos _ (by omega)
    obtain ⟨b, off, x, rfl, HD, hxm, hx⟩ := hl.one hk
    rw [Nat.mul_one] at hx
    have hbl : b < wb.heap.size := World.block_lt_of_cell? wb _ hx
    have hbg : b ≠ g := by have := hr.ge; omega
    have hx' : w.cell? ⟨b, off + (a + 1) % n, none⟩ = some (.int .i64 x) := hr.ext.cell hx
    have hblw : b < w.heap.size := World.block_lt_of_cell? w _ hx'
    have hx2 : (w.setCell ⟨g, 1, none⟩ (.int .i64 ((a : Int) + 1))).cell? ⟨b, off + (a + 1) % n, none⟩ = some (.int .i64 x) := by
      rw [(Wr.cells HWr.out).1 b _ hblw hbg]; exact hx'
    have hsz : (w.setCell ⟨g, 1, none⟩ (.int .i64 ((a : Int) + 1))).heap.size = w.heap.size := by simp
    have hm0 : 0 ≤ x % 1048576 ∧ x % 1048576 < 1048576 := ⟨Int.emod_nonneg _ (by omega), Int.emod_lt_of_pos _ (by omega)⟩
    obtain ⟨hm1, hm2⟩ := hm0
    have hq0 : 0 ≤ ((a : Int) + 1) / n := Int.ediv_nonneg (by omega) (by omega)
    have hq1 : ((a : Int) + 1) / n ≤ (a : Int) + 1 := Int.ediv_le_self _ (by omega)
    have hne : ¬ (1 + ((a : Int) + 1) / n = 0) := by omega
    have hd0 : 0 ≤ x % 1048576 / (1 + ((a : Int) + 1) / n) := Int.ediv_nonneg hm1 (by omega)
    have hd1 : x % 1048576 / (1 + ((a : Int) + 1) / n) ≤ x % 1048576 := Int.ediv_le_self _ hm1
    obtain ⟨W, hWe⟩ : ∃ W, W = w.setCell ⟨g, 1, none⟩ (.int .i64 ((a : Int) + 1)) := ⟨_, rfl⟩
    rw [← hWe] at HW HWr hx2 hsz
    have hcW := HW.out.cell
    have hfW := HW.out.frozen
    have hgW := HW.out.lt
    have hbW : b < W.heap.size := World.block_lt_of_cell? W _ hx2
    go_enter Tryz.func62, Tryz.ntmps62
    go_wp2_with fail
    rw [← hWe]
    clear hWe
    refine wp_region_text (by kernel_rfl) (by kernel_rfl) ?_
    repeat' (first | (refine bl_off (by rfl) ?_; simp only [putX]) | (apply bl_op; rfl; (intro w1 h1; obtain ⟨hc, hf, hz⟩ := bcell h1; go_simp; (try go_bits); (first | exact ⟨rfl, Ext.refl _⟩ | (apply gives_call; go_at_call 53; exact (Mod_c _ _ _ (by omega) (by omega)).mono fun _ _ ⟨h, hw⟩ => ⟨h, hw ▸ Ext.refl _⟩) | (go_invoke; go_simp; apply gives_call; go_at_call 53; exact (Mod_c _ _ _ (by omega) (by omega)).mono fun _ _ ⟨h, hw⟩ => ⟨h, hw ▸ Ext.refl _⟩))); simp only [putX]) | (refine bl_split rfl rfl (fun hx => ?_) (fun hx => ?_) <;> simp only [hx]))
    refine bl_nil ?_
    intro w2 h2
    go_wp2_with fail
    go_ret
    have := Hb0.out (((a : Int) + 1) * 7919 % 10007 + x % 1048576 / (1 + ((a : Int) + 1) / n)) m (by omega) h0
    exact ⟨_, rfl, this.1, this.2, Fin.out _ (HW.out.ext h2) (Wr.stable _ _ _ _ HWr.out h2)⟩

set_option maxHeartbeats 1000000 in
theorem PointOf_c (wb : World) (g : Nat) (B n : Int) (w : World) (hr : IsRing wb w g B) (hB : B ≤ 900000000) (h0 : 0 ≤ n) (h1 : n ≤ 1000000) :
    Calls Tryz.prog 127 #[.pointer (some ⟨g, 0, none⟩), .int .i64 n] w fun e w' => ∃ x y, e = .returned (.agg #[.int .i64 x, .int .i64 y]) ∧ -n ≤ x ∧ x ≤ n ∧ -n ≤ y ∧ y ≤ n ∧ Wr w g w' ∧ IsRing wb w' g (B + 2) := by
  have hg := hr.lt
  go_enter Tryz.func127, Tryz.ntmps127
  go_wp2_with fail
  refine (Next_c wb g B _ _ (hr.keep ext_by) (by omega) (by omega) (by omega)).mono ?_
  rintro e w1 ⟨v1, rfl, ha1, hb1, hw1, hr1⟩
  obtain ⟨hc1, hf1, hz1⟩ := Wr.cells hw1
  simp only [World.size_alloc] at hz1
  have hl1 : w.heap.size < w1.heap.size := by omega
  have hg1 : w.heap.size ≠ g := by omega
  go_wp2_with fail
  refine (Next_c wb g _ _ _ hr1 (by omega) (by omega) (by omega)).mono ?_
  rintro e w2 ⟨v2, rfl, ha2, hb2, hw2, hr2⟩
  obtain ⟨hc2, hf2, hz2⟩ := Wr.cells hw2
  have hl2 : w.heap.size < w2.heap.size := by omega
  go_wp2_with fail
  (try simp only [Exit.inBlock, Exit.then]); apply bodyPost_ret; (focus (simp only [results, Tryz.results127]; go_simp; try rfl)); rfl
  have := hr.ext.size
  exact ⟨_, _, rfl, by omega, by omega, by omega, by omega, by (repeat' (first | exact Wr.refl _ _ | assumption | apply Wr.alloc | apply Wr.drew | refine Wr.put ?_ (by dsimp only; omega) _ | refine Wr.trans ?_ (by assumption))), by (rw [show B + 2 = B + 1 + 1 by omega]; (repeat' (first | assumption | apply IsRing.alloc | apply IsRing.drew | refine IsRing.put ?_ (by dsimp only; omega) _)))⟩

theorem IsRing.ne {wb w : World} {g : Nat} {B : Int} (h : IsRing wb w g B) {base : Nat} {e : TypeId} {sz : Nat} {v : Value} {n : Nat} {xs : List Value} (ho : w.ownsRow base e sz v n xs) (he : e ≠ 150) : v.ownBlock ≠ some g := by
  obtain ⟨A, m, c, l, at_, h1, h2, _⟩ := h.blk
  exact own_blk ho h2 he
theorem own_wr {wb w w' : World} {g : Nat} {B : Int} {base : Nat} {e : TypeId} {sz : Nat} {v : Value} {n : Nat} {xs : List Value} (ho : w.ownsRow base e sz v n xs) (h : IsRing wb w g B) (he : e ≠ 150) (k : Wr w g w') : w'.ownsRow base e sz v n xs :=
  own_kept ho k (h.ne ho he)
theorem Blk.wr {w w' : World} {g b : Nat} {t : TypeId} {cs : Array Value} (h : Blk w b t cs) (k : Wr w g w') (hb : b ≠ g) : Blk w' b t cs := (k.block b h.lt (fun e => hb (by injection e))).trans h
theorem IsRing.blkne {wb w : World} {g : Nat} {B : Int} (h : IsRing wb w g B) {b : Nat} {t : TypeId} {cs : Array Value} (hb : Blk w b t cs) (ht : t ≠ 150) : b ≠ g := by
  obtain ⟨A, m, c, l, at_, h1, h2, _⟩ := h.blk
  intro e
  subst e
  unfold Blk at hb h2
  rw [hb] at h2
  simp at h2
  exact ht h2.2

structure Wr2 (w0 : World) (g k : Nat) (w : World) : Prop where
  os : w.os = w0.os
  tape : w.tape = w0.tape
  output : w.output = w0.output
  size : w0.heap.size ≤ w.heap.size
  block : ∀ i, i < w0.heap.size → i ≠ g → i ≠ k → w.heap[i]? = w0.heap[i]?
theorem Wr.two {w0 w : World} {g : Nat} (h : Wr w0 g w) (k : Nat) : Wr2 w0 g k w := ⟨h.os, h.tape, h.output, h.size, fun i hi h1 _ => h.block i hi (fun e => h1 (by injection e))⟩
theorem Wr2.cells {w0 w : World} {g k : Nat} (h : Wr2 w0 g k w) : (∀ b o, b < w0.heap.size → b ≠ g → b ≠ k → w.cell? ⟨b, o, none⟩ = w0.cell? ⟨b, o, none⟩) ∧ (∀ b o, b < w0.heap.size → b ≠ g → b ≠ k → w.frozen? ⟨b, o, none⟩ = w0.frozen? ⟨b, o, none⟩) ∧ w0.heap.size ≤ w.heap.size :=
  ⟨fun b _ hb h1 h2 => World.cell?_of_block (h.block b hb h1 h2), fun b _ hb h1 h2 => World.frozen?_of_block (h.block b hb h1 h2), h.size⟩
theorem Wr2.stable (w0 : World) (g k : Nat) : Stable (Wr2 w0 g k) := fun _ _ h e =>
  ⟨e.os.trans h.os, e.tape.trans h.tape, e.output.trans h.output, Nat.le_trans h.size e.size, fun i hi h1 h2 => (e.block i (Nat.lt_of_lt_of_le hi h.size)).trans (h.block i hi h1 h2)⟩
def rowOr (v : Value) (g : Nat) : Nat := v.ownBlock.getD g
theorem Wr2.row {w0 w w' : World} {g : Nat} {v : Value} (h : Wr2 w0 g (rowOr v g) w) (k : w.grownBy w' v.ownBlock) : Wr2 w0 g (rowOr v g) w' :=
  ⟨k.os.trans h.os, k.tape.trans h.tape, k.output.trans h.output, Nat.le_trans h.size k.size, fun i hi h1 h2 => (k.block i (Nat.lt_of_lt_of_le hi h.size) (fun e => h2 (by rw [rowOr, ← e]; rfl))).trans (h.block i hi h1 h2)⟩
theorem Blk.wr2 {w w' : World} {g k b : Nat} {t : TypeId} {cs : Array Value} (h : Blk w b t cs) (e : Wr2 w g k w') (h1 : b ≠ g) (h2 : b ≠ k) : Blk w' b t cs := (e.block b h.lt h1 h2).trans h
theorem rowOr_ne {w : World} {base : Nat} {e : TypeId} {sz : Nat} {v : Value} {n : Nat} {xs : List Value} (ho : w.ownsRow base e sz v n xs) {b g : Nat} {t : TypeId} {cs : Array Value} (hb : Blk w b t cs) (hne : e ≠ t) (hg : b ≠ g) : b ≠ rowOr v g := by
  have h := own_blk ho hb hne
  unfold rowOr
  cases hv : v.ownBlock with
  | none => exact hg
  | some x => intro e; rw [hv] at h; exact h (by rw [e]; rfl)

theorem tl_append {P : Program} {S : World → Prop} {Q : Exit → Act → World → Prop} {lf : Bool} {o : Oper} {T : List Oper} {a : Act} {F : World → Prop} (hg : o.guard = none) (s x : Operand) (t : TypeId)
    (ho : o.op = .call { callee := .builtin .append, args := #[s, x], argTypes := #[t, t] })
    (base : Nat) (e : TypeId) (i : TypeInfo) (z : Value) (size bytes : Nat) (ht : P.underlying t = some (.slice e)) (hi : P.info? e = some i) (hz : i.zero = some z)
    (hsize : i.size = size) (hby : i.bytes = bytes) (hzs : z.cells.size = size) (hsz : 0 < size)
    (v : Value) (n : Nat) (xs : List Value) (hs : a.eval s = v) (b : Nat) (zs : Array Value) (hx : a.eval x = .slice (some ⟨b, 0, none⟩) 1 1) (hl : zs.size = size) (h1 : ∀ u ∈ zs.toList, u.oneCell' = true)
    (h63 : n + 1 ≤ maxLen) (hbytes : (n + 1) * bytes ≤ 140737488355328) (hF : ∀ w, F w → w.ownsRow base e size v n xs ∧ Blk w b e zs ∧ base ≤ w.heap.size)
    (F' : Value → World → Prop) (hst : ∀ v', Stable (F' v')) (hS : ∀ v' w, F' v' w → S w)
    (hF' : ∀ w w' v', F w → w'.ownsRow base e size v' (n + 1) (xs ++ zs.toList) → w.grownBy w' v.ownBlock → v' ≠ .slice none 0 0 → F' v' w')
    (h : ∀ bk c, TL P S Q lf T (a.put o.dst (.slice (some ⟨bk, 0, none⟩) (n + 1) c)) (F' (.slice (some ⟨bk, 0, none⟩) (n + 1) c))) : TL P S Q lf (o :: T) a F := by
  refine tl_any hg fun w hw => ?_
  obtain ⟨ho1, hb, hbase⟩ := hF w hw
  obtain ⟨v', w', hrun, h2, h3, h4⟩ := run_append_own (P := P) (w := w) base t o.type e i z size bytes ht hi hz hsize hby hzs hsz v n xs ho1 ⟨b, 0, none⟩ 1 1 zs.toList (by simp [hl]) (fun j u hj => by rw [add_none, hb.cell, ← hj]; simp) h1 h63 hbytes hbase
  have hne : v' ≠ .slice none 0 0 := fun e => by have := (h4.1 e).2; omega
  obtain ⟨bk, c, rfl, _, _⟩ := own_some h2 hne
  refine ⟨_, w', ?_, F' _, hst _, hS _, hF' w w' _ hw h2 h3 hne, h bk c⟩
  simp [execOp, ho, resolve, invoke, builtin, hs, hx, hrun, Result.andThen]
theorem Wr.row {w0 w w' : World} {g : Nat} {row : Option Nat} (h : Wr w0 g w) (k : w.grownBy w' row) (hr : ∀ j, row = some j → w0.heap.size ≤ j) : Wr w0 g w' :=
  ⟨k.os.trans h.os, k.tape.trans h.tape, k.output.trans h.output, Nat.le_trans h.size k.size, fun i hi h1 => (k.block i (Nat.lt_of_lt_of_le hi h.size) (fun e => by have := hr i e.symm; omega)).trans (h.block i hi h1)⟩
theorem IsRing.row {wb w w' : World} {g : Nat} {B : Int} {row : Option Nat} (h : IsRing wb w g B) (k : w.grownBy w' row) (hg : row ≠ some g) (hr : ∀ j, row = some j → wb.heap.size ≤ j) : IsRing wb w' g B := by
  obtain ⟨A, n, c, l, at_, h1, h2, h3, h4⟩ := h.blk
  exact ⟨grown_ext h.ext k hr, h.ge, A, n, c, l, at_, h1, h2.grown k hg, h3, h4⟩
theorem Stable.own (base : Nat) (e : TypeId) (sz : Nat) (v : Value) (n : Nat) (xs : List Value) : Stable fun w => w.ownsRow base e sz v n xs := fun _ _ h k => own_ext_keep h k
theorem own_ge {w : World} {base : Nat} {e : TypeId} {sz : Nat} {v : Value} {n : Nat} {xs : List Value} (h : w.ownsRow base e sz v n xs) {b : Nat} (hb : b ≤ base) : ∀ j, v.ownBlock = some j → b ≤ j := fun j hj => Nat.le_trans hb (h.lt j hj).1
end Go.Proofs.YtfniicgoeljmdaaGreat
