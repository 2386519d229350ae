/- The least box that contains all boxes of a set: the program. No condition. -/
import Derived.Test.YtfniicgoeljmdaaGreatHull
namespace Go.Proofs.YtfniicgoeljmdaaGreat
open Go.RowKit

theorem sl_tail {α : Type} {sz : Nat} {R : α → Nat → Nat → Prop} {b off n : Nat} {x : α} {l : List α} (h : SlR sz R (some ⟨b, off, none⟩) (n + 1) (x :: l)) : SlR sz R (some ⟨b, off + sz, none⟩) n l := by
  have h1 := h.len
  have h2 := h.le
  refine ⟨by simpa using h1, by omega, ?_⟩
  obtain ⟨b', off', hA, hc⟩ := h.at_ (by simp)
  injection hA with hA
  injection hA with e1 e2 e3
  subst e1 e2
  refine .inr ⟨b, off + sz, rfl, fun k hk => ?_⟩
  have := hc (k + 1) (by simpa using hk)
  rw [Nat.succ_mul] at this
  rw [show off + sz + k * sz = off + (k * sz + sz) by omega]
  exact this
def zeroB : Bx := ⟨⟨0, 0⟩, ⟨0, 0⟩, ⟨0, 0⟩, ⟨0, 0⟩⟩
def hullL : List Bx → Bx
  | [] => zeroB
  | b :: r => r.foldl hullB b
def hullOk (l : List Bx) : Bool := decide (l ≠ []) && decide (setErr l = 0)
def hullM (l : List Bx) : Bx := if hullOk l then hullL l else zeroB
set_option maxRecDepth 20000 in
set_option maxHeartbeats 1000000 in
theorem oHull_no (A : Option Addr) (n c : Nat) (l : List Bx) (w : World) (hl : Bxs w A n l) (hE : setErr l ≠ 0) (h0 : 0 < n) :
    Calls Tryz.prog 33 #[.slice A n c] w fun e w' => e = .returned (.tuple #[.agg #[.int .i64 0, .int .i64 0, .int .i64 0, .int .i64 0, .int .i64 0, .int .i64 0, .int .i64 0, .int .i64 0], .bool false]) ∧ Ext w w' := by
  have hn := hl.le
  have HC := Lib.hid fun W (hW : Ext w W) => oCheckSet_c A n c l W (Bxs.ext hW hl)
  obtain ⟨E, hEe⟩ : ∃ E, setErr l = E := ⟨_, rfl⟩
  rw [hEe] at HC hE
  have hne : (E != 0) = true := by simpa using hE
  have hnz : ((n : Int) == 0) = false := by simp; omega
  clear hE hl hEe
  go_enter Tryz.func33, Tryz.ntmps33
  go_wp2_with fail
  refine (HC.out _ (by (repeat' (first | exact Ext.refl _ | assumption | apply Ext.alloc | apply Ext.drew | refine Ext.set ?_ (by dsimp only; omega) _ | refine Ext.trans ?_ (by assumption))))).mono ?_
  rintro e w1 ⟨rfl, h1⟩
  have G2 : Blk w1 w.heap.size 38 #[.int .i64 0, .int .i64 0, .int .i64 0, .int .i64 0, .int .i64 0, .int .i64 0, .int .i64 0, .int .i64 0] := (Blk.newAt rfl).ext h1
  have GE : Ext w w1 := by (repeat' (first | exact Ext.refl _ | assumption | apply Ext.alloc | apply Ext.drew | refine Ext.set ?_ (by dsimp only; omega) _ | refine Ext.trans ?_ (by assumption)))
  clear h1
  have f_G2 := G2.frozen
  have l_G2 := G2.lt
  have c_G2 := G2.cell
  (try dsimp only); repeat' (first | go_values | go_skip | go_guarded | go_step | go_upon | go_in | go_at_K)
  refine name_world _ ?_
  intro W9 hW9
  have Q2 : Blk W9 w.heap.size 38 #[.int .i64 0, .int .i64 0, .int .i64 0, .int .i64 0, .int .i64 0, .int .i64 0, .int .i64 0, .int .i64 0] := by rw [hW9]; exact blk_set2 (blk_set2 (blk_set2 (blk_set2 G2 rfl) rfl) rfl) rfl
  have QE : Ext w W9 := by rw [hW9]; exact ext_set2 (ext_set2 (ext_set2 (ext_set2 GE (by omega)) (by omega)) (by omega)) (by omega)
  clear hW9
  have c_Q2 := Q2.cell; have f_Q2 := Q2.frozen; have l_Q2 := Q2.lt
  (try simp only [Exit.inBlock, Exit.then]); apply bodyPost_ret; (focus (simp only [results, Tryz.results33]; go_simp; try rfl)); rfl
  exact ⟨rfl, QE⟩
set_option maxRecDepth 20000 in
set_option maxHeartbeats 1000000 in
theorem oHull_zero (A : Option Addr) (c : Nat) (w : World) :
    Calls Tryz.prog 33 #[.slice A 0 c] w fun e w' => e = .returned (.tuple #[.agg #[.int .i64 0, .int .i64 0, .int .i64 0, .int .i64 0, .int .i64 0, .int .i64 0, .int .i64 0, .int .i64 0], .bool false]) ∧ Ext w w' := by
  go_enter Tryz.func33, Tryz.ntmps33
  go_wp2_with fail
  (try simp only [Exit.inBlock, Exit.then]); apply bodyPost_ret; (focus (simp only [results, Tryz.results33]; go_simp; try rfl)); rfl
  exact ⟨rfl, by (repeat' (first | exact Ext.refl _ | assumption | apply Ext.alloc | apply Ext.drew | refine Ext.set ?_ (by dsimp only; omega) _ | refine Ext.trans ?_ (by assumption)))⟩
set_option maxRecDepth 20000 in
set_option maxHeartbeats 4000000 in
theorem oHull_yes (A : Option Addr) (m c : Nat) (x : Bx) (r : List Bx) (w : World) (hl : Bxs w A (m + 1) (x :: r)) (hcap : m + 1 ≤ c) (hE : setErr (x :: r) = 0) :
    Calls Tryz.prog 33 #[.slice A (m + 1) c] w fun e w' => e = .returned (.tuple #[bxV (r.foldl hullB x), .bool true]) ∧ Ext w w' := by
  have hn := hl.le
  have hln := Lib.hid hl.len
  have HC := Lib.hid fun W (hW : Ext w W) => oCheckSet_c A (m + 1) c (x :: r) W (Bxs.ext hW hl)
  rw [hE] at HC
  obtain ⟨b, off, hA, hc0⟩ := hl.at_ (by simp)
  subst hA
  have hx := hc0 0 (by simp)
  rw [Nat.zero_mul, Nat.add_zero] at hx
  have Ht := Lib.hid (sl_tail hl)
  have Hx : Hid (bxAt w x b off) := hx
  obtain ⟨T, hT⟩ : ∃ T, r.foldl hullB x = T := ⟨_, rfl⟩
  rw [hT]
  have HT := Lib.hid hT
  have hbl : b < w.heap.size := World.block_lt_of_cell? w _ hx.1
  clear hT hE hl hc0 hx
  obtain ⟨hx0, hx1, hx2, hx3, hx4, hx5, hx6, hx7⟩ := Hx.out
  obtain ⟨⟨xl, xh⟩, ⟨yl, yh⟩, ⟨ul, uh⟩, vl, vh⟩ := x
  dsimp only at hx0 hx1 hx2 hx3 hx4 hx5 hx6 hx7
  have hlen : m = r.length := by have := hln.out; simpa using this
  have HLE := Lib.hid hlen
  clear hln
  rcases (show (c = 1 ∧ m = 0) ∨ 2 ≤ c by omega) with ⟨rfl, rfl⟩ | hc2
  · have hr : r = [] := List.eq_nil_of_length_eq_zero (by omega)
    subst hr
    have hT := HT.out
    rw [List.foldl_nil] at hT
    subst hT
    clear hlen HT HLE
    go_enter Tryz.func33, Tryz.ntmps33
    go_wp2_with fail
    refine (HC.out _ (by (repeat' (first | exact Ext.refl _ | assumption | apply Ext.alloc | apply Ext.drew | refine Ext.set ?_ (by dsimp only; omega) _ | refine Ext.trans ?_ (by assumption))))).mono ?_
    rintro e w1 ⟨rfl, h1⟩
    obtain ⟨hc_w1, hf_w1, hz_w1⟩ := bcell h1; (repeat (first | rw [World.size_alloc] at hz_w1 | rw [World.size_drew] at hz_w1 | rw [World.size_setCell] at hz_w1)); (try (have : w.heap.size < w1.heap.size := (by omega))); (try (have : w.heap.size + 1 < w1.heap.size := (by omega))); (try (have : w.heap.size + 1 + 1 < w1.heap.size := (by omega))); (try (have : w.heap.size + 1 + 1 + 1 < w1.heap.size := (by omega))); (try (have : w.heap.size + 1 + 1 + 1 + 1 < w1.heap.size := (by omega)))
    go_wp2_with fail
    have G2 : Blk w1 w.heap.size 38 #[.int .i64 0, .int .i64 0, .int .i64 0, .int .i64 0, .int .i64 0, .int .i64 0, .int .i64 0, .int .i64 0] := (Blk.newAt rfl).ext h1
    refine name_world _ ?_
    intro W1 hW1
    obtain ⟨b4, h4⟩ : ∃ b, b = w1.heap.size := ⟨_, rfl⟩
    have B4 : Blk W1 b4 38 #[.int .i64 xl, .int .i64 xh, .int .i64 yl, .int .i64 yh, .int .i64 ul, .int .i64 uh, .int .i64 vl, .int .i64 vh] := by rw [hW1]; exact Blk.newAt h4
    have B2 : Blk W1 w.heap.size 38 #[.int .i64 0, .int .i64 0, .int .i64 0, .int .i64 0, .int .i64 0, .int .i64 0, .int .i64 0, .int .i64 0] := by rw [hW1]; exact G2.alloc _
    have E1 : Ext w W1 := by rw [hW1]; (repeat' (first | exact Ext.refl _ | assumption | apply Ext.alloc | apply Ext.drew | refine Ext.set ?_ (by dsimp only; omega) _ | refine Ext.trans ?_ (by assumption)))
    rw [← h4]
    have o1 : w.heap.size < b4 := by omega
    clear hW1 h4 G2 h1 hc_w1 hf_w1 hz_w1 hx0 hx1 hx2 hx3 hx4 hx5 hx6 hx7
    go_loopw [22] (fun i wr => i = .int .i64 0 ∧ wr = W1) (fun _ _ => 0)
    case atStart => exact ⟨rfl, rfl⟩
    case round =>
      obtain ⟨rfl, rfl⟩ := hrel
      have c4 := B4.cell
      have c2 := B2.cell
      have f2 := B2.frozen
      have l4 := B4.lt
      have l2 := B2.lt
      (try dsimp only); repeat' (first | go_values | go_skip | go_guarded | go_step | go_upon | go_in | go_at_K)
      refine name_world _ ?_
      intro W9 hW9
      have Q2 : Blk W9 w.heap.size 38 #[.int .i64 xl, .int .i64 xh, .int .i64 yl, .int .i64 yh, .int .i64 ul, .int .i64 uh, .int .i64 vl, .int .i64 vh] := by rw [hW9]; exact blk_set2 (blk_set2 (blk_set2 (blk_set2 B2 rfl) rfl) rfl) rfl
      have QE : Ext w W9 := by rw [hW9]; exact ext_set2 (ext_set2 (ext_set2 (ext_set2 E1 (by omega)) (by omega)) (by omega)) (by omega)
      clear hW9
      have c_Q2 := Q2.cell; have f_Q2 := Q2.frozen; have l_Q2 := Q2.lt
      (try simp only [Exit.inBlock, Exit.then]); apply bodyPost_ret; (focus (simp only [results, Tryz.results33]; go_simp; try rfl)); rfl
      exact ⟨rfl, QE⟩
  · clear hlen
    have hmz : ((m : Int) + 1 == 0) = false := by simp; omega
    have hz1 : ¬ c = 1 := by omega
    have hz2 : (c == 1) = false := by simp; omega
    have hz3 : ¬ c - 1 = 0 := by omega
    have hz4 : (c - 1 == 0) = false := by simp; omega
    go_enter Tryz.func33, Tryz.ntmps33
    go_wp2_with fail
    refine (HC.out _ (by (repeat' (first | exact Ext.refl _ | assumption | apply Ext.alloc | apply Ext.drew | refine Ext.set ?_ (by dsimp only; omega) _ | refine Ext.trans ?_ (by assumption))))).mono ?_
    rintro e w1 ⟨rfl, h1⟩
    have G2 : Blk w1 w.heap.size 38 #[.int .i64 0, .int .i64 0, .int .i64 0, .int .i64 0, .int .i64 0, .int .i64 0, .int .i64 0, .int .i64 0] := (Blk.newAt rfl).ext h1
    obtain ⟨hc_w1, hf_w1, hz_w1⟩ := bcell h1; (repeat (first | rw [World.size_alloc] at hz_w1 | rw [World.size_drew] at hz_w1 | rw [World.size_setCell] at hz_w1)); (try (have : w.heap.size < w1.heap.size := (by omega))); (try (have : w.heap.size + 1 < w1.heap.size := (by omega))); (try (have : w.heap.size + 1 + 1 < w1.heap.size := (by omega))); (try (have : w.heap.size + 1 + 1 + 1 < w1.heap.size := (by omega))); (try (have : w.heap.size + 1 + 1 + 1 + 1 < w1.heap.size := (by omega)))
    go_wp2_with fail
    refine name_world _ ?_
    intro W1 hW1
    obtain ⟨b4, h4⟩ : ∃ b, b = w1.heap.size := ⟨_, rfl⟩
    have B4 : Blk W1 b4 38 #[.int .i64 xl, .int .i64 xh, .int .i64 yl, .int .i64 yh, .int .i64 ul, .int .i64 uh, .int .i64 vl, .int .i64 vh] := by rw [hW1]; exact Blk.newAt h4
    have B2 : Blk W1 w.heap.size 38 #[.int .i64 0, .int .i64 0, .int .i64 0, .int .i64 0, .int .i64 0, .int .i64 0, .int .i64 0, .int .i64 0] := by rw [hW1]; exact G2.alloc _
    have E1 : Ext w W1 := by rw [hW1]; (repeat' (first | exact Ext.refl _ | assumption | apply Ext.alloc | apply Ext.drew | refine Ext.set ?_ (by dsimp only; omega) _ | refine Ext.trans ?_ (by assumption)))
    rw [← h4]
    have o1 : w.heap.size < b4 := by omega
    clear hW1 h4 G2 h1 hc_w1 hf_w1 hz_w1 hx0 hx1 hx2 hx3 hx4 hx5 hx6 hx7
    go_loopw [22] (fun i wr => ∃ (k : Nat) (o : Bx), k ≤ m ∧ i = .int .i64 k ∧ Hid ((r.drop k).foldl hullB o = T) ∧ Hid (Blk wr b4 38 #[.int .i64 o.x.lo, .int .i64 o.x.hi, .int .i64 o.y.lo, .int .i64 o.y.hi, .int .i64 o.u.lo, .int .i64 o.u.hi, .int .i64 o.v.lo, .int .i64 o.v.hi]) ∧ Hid (Blk wr w.heap.size 38 #[.int .i64 0, .int .i64 0, .int .i64 0, .int .i64 0, .int .i64 0, .int .i64 0, .int .i64 0, .int .i64 0]) ∧ Ext w wr) (fun i _ => m - (intOf i).toNat)
    case atStart => exact ⟨0, ⟨⟨xl, xh⟩, ⟨yl, yh⟩, ⟨ul, uh⟩, vl, vh⟩, Nat.zero_le _, rfl, HT.out, B4, B2, E1⟩
    case round =>
      clear B4 B2 E1
      obtain ⟨k, o, hk, rfl, HI, B4, B2, hb⟩ := hrel
      have c4 := B4.out.cell
      have f4 := B4.out.frozen
      have l4 := B4.out.lt
      have l2 := B2.out.lt
      by_cases hlt : k < m
      · obtain ⟨b', off', y, hA, HD, hym, hy⟩ := (Ht.out).one hlt
        injection hA with hA
        injection hA with e1 e2 e3
        subst e1 e2
        obtain ⟨hy0, hy1, hy2, hy3, hy4, hy5, hy6, hy7⟩ := bxAt.ext hb hy
        have hbl2 : b < wr.heap.size := World.block_lt_of_cell? wr _ hy0
        have HH := Lib.hid fun W => oHullTwo_c o y W
        have hi := HI.out
        rw [HD.out, List.foldl_cons] at hi
        generalize hullB o y = N at *
        have Hi := Lib.hid hi
        clear hi hym hy
        obtain ⟨⟨zxl, zxh⟩, ⟨zyl, zyh⟩, ⟨zul, zuh⟩, zvl, zvh⟩ := y
        obtain ⟨⟨oxl, oxh⟩, ⟨oyl, oyh⟩, ⟨oul, ouh⟩, ovl, ovh⟩ := o
        obtain ⟨⟨nxl, nxh⟩, ⟨nyl, nyh⟩, ⟨nul, nuh⟩, nvl, nvh⟩ := N
        dsimp only at hy0 hy1 hy2 hy3 hy4 hy5 hy6 hy7 HH B4 c4
        go_wp2_with fail
        refine (HH.out _).mono ?_
        rintro e w3 ⟨rfl, h3⟩
        have e3 : Ext wr w3 := by (repeat' (first | exact Ext.refl _ | assumption | apply Ext.alloc | apply Ext.drew | refine Ext.set ?_ (by dsimp only; omega) _ | refine Ext.trans ?_ (by assumption)))
        have D4 := Lib.hid (B4.out.ext e3)
        have D2 := Lib.hid (B2.out.ext e3)
        have DE := hb.trans e3
        clear h3 e3 c4 f4 l4 B4 B2 hy0 hy1 hy2 hy3 hy4 hy5 hy6 hy7
        have f4 := D4.out.frozen
        have c4 := D4.out.cell
        have l4 := D4.out.lt
        go_wp2_with fail
        go_roundw
        case rel => exact ⟨k + 1, ⟨⟨nxl, nxh⟩, ⟨nyl, nyh⟩, ⟨nul, nuh⟩, nvl, nvh⟩, by omega, by go_num, Hi, Lib.hid (blk_set2 (blk_set2 (blk_set2 (blk_set2 D4.out rfl) rfl) rfl) rfl), Lib.hid (blk_far2 (blk_far2 (blk_far2 (blk_far2 D2.out (by omega)) (by omega)) (by omega)) (by omega)), ext_set2 (ext_set2 (ext_set2 (ext_set2 DE (by omega)) (by omega)) (by omega)) (by omega)⟩
        case measure => simp [intOf]; omega
      · have hkm : k = m := by omega
        have hi := HI.out
        rw [hkm, HLE.out, List.drop_length] at hi
        have hoT : o = T := hi
        subst hoT
        clear hi HI HT
        have c2 := B2.out.cell
        have f2 := B2.out.frozen
        obtain ⟨⟨oxl, oxh⟩, ⟨oyl, oyh⟩, ⟨oul, ouh⟩, ovl, ovh⟩ := o
        dsimp only at c4
        (try dsimp only); repeat' (first | go_values | go_skip | go_guarded | go_step | go_upon | go_in | go_at_K)
        refine name_world _ ?_
        intro W9 hW9
        have Q2 : Blk W9 w.heap.size 38 #[.int .i64 oxl, .int .i64 oxh, .int .i64 oyl, .int .i64 oyh, .int .i64 oul, .int .i64 ouh, .int .i64 ovl, .int .i64 ovh] := by rw [hW9]; exact blk_set2 (blk_set2 (blk_set2 (blk_set2 B2.out rfl) rfl) rfl) rfl
        have QE : Ext w W9 := by rw [hW9]; exact ext_set2 (ext_set2 (ext_set2 (ext_set2 hb (by omega)) (by omega)) (by omega)) (by omega)
        clear hW9
        have c_Q2 := Q2.cell; have f_Q2 := Q2.frozen; have l_Q2 := Q2.lt
        (try simp only [Exit.inBlock, Exit.then]); apply bodyPost_ret; (focus (simp only [results, Tryz.results33]; go_simp; try rfl)); rfl
        exact ⟨rfl, QE⟩
theorem oHull_c (A : Option Addr) (n c : Nat) (l : List Bx) (w : World) (hl : Bxs w A n l) (hcap : n ≤ c) :
    Calls Tryz.prog 33 #[.slice A n c] w fun e w' => e = .returned (.tuple #[bxV (hullM l), .bool (hullOk l)]) ∧ Ext w w' := by
  cases l with
  | nil =>
    have h0 := hl.len
    simp at h0
    subst h0
    exact oHull_zero A c w
  | cons x r =>
    obtain ⟨m, rfl⟩ : ∃ m, n = m + 1 := ⟨n - 1, by have := hl.len; simp at this; omega⟩
    by_cases hE : setErr (x :: r) = 0
    · have hok : hullOk (x :: r) = true := by unfold hullOk; rw [hE]; simp
      rw [hullM, hok, if_pos rfl]
      exact oHull_yes A m c x r w hl hcap hE
    · have hok : hullOk (x :: r) = false := by unfold hullOk; simp [hE]
      rw [hullM, hok, if_neg (by decide)]
      exact oHull_no A (m + 1) c (x :: r) w hl hE (by omega)
end Go.Proofs.YtfniicgoeljmdaaGreat
