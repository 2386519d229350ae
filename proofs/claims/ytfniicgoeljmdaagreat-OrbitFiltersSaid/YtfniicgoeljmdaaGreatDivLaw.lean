/- Spans: the program's checks, sums and differences. No condition. math/bits: products of two words, leading zeros. No condition. Long division of two words by one, digit by digit: the plain law. No condition. -/
import Derived.Test.YtfniicgoeljmdaaGreatWorld
import Derived.Test.YtfniicgoeljmdaaGreatBase
import Derived.Shelf.Bits.Mul64
import Derived.Lib.Strings
import Derived.Lib.Slices
import Derived.Lib.Small
import Derived.Lib.Walk
import Derived.Lib.BitFns
import Derived.Deep.Light
namespace Go.Proofs.YtfniicgoeljmdaaGreat
open Go.RowKit

structure Sp where
  lo : Int
  hi : Int
def fitsP (n : Int) : Bool := within n (-1152921504606846976) 1152921504606846976
theorem fitsP_iff {n : Int} : fitsP n = true ↔ -1152921504606846976 ≤ n ∧ n ≤ 1152921504606846976 := by simp [fitsP, within]
def spErr (s : Sp) : Int := if fitsP s.lo && fitsP s.hi then (if s.hi < s.lo then 11 else 0) else 2
theorem spErr_ok {s : Sp} : spErr s = 0 ↔ -1152921504606846976 ≤ s.lo ∧ s.lo ≤ s.hi ∧ s.hi ≤ 1152921504606846976 := by
  unfold spErr
  cases h1 : fitsP s.lo <;> cases h2 : fitsP s.hi
  all_goals simp only [Bool.and_self, Bool.and_true, Bool.and_false, Bool.false_eq_true, if_false, if_true]
  all_goals simp only [fitsP, within, Bool.and_eq_true, Bool.and_eq_false_imp, decide_eq_true_eq, decide_eq_false_iff_not] at h1 h2
  · constructor
    · intro h; cases h
    · omega
  · constructor
    · intro h; cases h
    · omega
  · constructor
    · intro h; cases h
    · omega
  · by_cases h3 : s.hi < s.lo
    · rw [if_pos h3]
      constructor
      · intro h; cases h
      · omega
    · rw [if_neg h3]
      constructor
      · intro _; omega
      · intro _; rfl
def sp2Err (a b : Sp) : Int := if spErr a = 0 then spErr b else spErr a
/-- A span, or an error. -/
structure SpR where
  s : Sp
  e : Int
def noSp (e : Int) : SpR := ⟨⟨0, 0⟩, e⟩
def endsM (lo hi : Int) : SpR := if fitsP lo && fitsP hi then ⟨⟨lo, hi⟩, 0⟩ else noSp 14
def addM (a b : Sp) : SpR := if sp2Err a b = 0 then endsM (a.lo + b.lo) (a.hi + b.hi) else noSp (sp2Err a b)
def subM (a b : Sp) : SpR := if sp2Err a b = 0 then endsM (a.lo - b.hi) (a.hi - b.lo) else noSp (sp2Err a b)
abbrev spRV (r : SpR) : Value := .tuple #[.agg #[.int .i64 r.s.lo, .int .i64 r.s.hi], .int .i64 r.e]
theorem ret_v {a b : Value} (h : a = b) : Ending.returned a = .returned b := by rw [h]

set_option maxHeartbeats 400000 in
theorem sp_within_c (a b c : Int) (w : World) :
    Calls Tryz.prog 241 #[.int .i64 a, .int .i64 b, .int .i64 c] w fun e w' => e = .returned (.bool (within a b c)) ∧ w = w' := by
  go_enter Tryz.func241, Tryz.ntmps241
  go_wp2
  all_goals go_ret
  all_goals exact ⟨ret_b (by simp [within, *] <;> omega), rfl⟩
set_option maxHeartbeats 400000 in
theorem spFits_c (a : Int) (w : World) :
    Calls Tryz.prog 261 #[.int .i64 a] w fun e w' => e = .returned (.bool (fitsP a)) ∧ w = w' := by
  go_enter Tryz.func261, Tryz.ntmps261
  go_wp2_with (go_at_call 241; refine (sp_within_c _ _ _ _).mono ?_; rintro e w' ⟨rfl, rfl⟩)
  go_ret
  exact ⟨rfl, rfl⟩
set_option maxHeartbeats 400000 in
theorem spCheck_c (lo hi : Int) (w : World) :
    Calls Tryz.prog 240 #[.agg #[.int .i64 lo, .int .i64 hi]] w fun e w' => e = .returned (.int .i64 (spErr ⟨lo, hi⟩)) ∧ Ext w w' := by
  unfold spErr
  dsimp only
  have H1 := Lib.hid fun W => spFits_c lo W
  have H2 := Lib.hid fun W => spFits_c hi W
  generalize fitsP lo = f1 at *
  generalize fitsP hi = f2 at *
  go_enter Tryz.func240, Tryz.ntmps240
  cases f1 <;> cases f2
  all_goals go_wp2_with fail
  all_goals refine (H1.out _).mono ?_
  all_goals rintro e _ ⟨rfl, rfl⟩
  all_goals go_wp2_with fail
  all_goals try (refine (H2.out _).mono ?_; rintro e _ ⟨rfl, rfl⟩; go_wp2_with fail)
  all_goals go_ret
  all_goals refine ⟨ret_i ?_, by (repeat' (first | exact Ext.refl _ | assumption | apply Ext.alloc | apply Ext.drew | refine Ext.set ?_ (by dsimp only; omega) _ | refine Ext.trans ?_ (by assumption)))⟩
  all_goals simp <;> omega
set_option maxHeartbeats 400000 in
theorem spValid_c (al ah bl bh : Int) (w : World) :
    Calls Tryz.prog 221 #[.agg #[.int .i64 al, .int .i64 ah], .agg #[.int .i64 bl, .int .i64 bh]] w fun e w' => e = .returned (.int .i64 (sp2Err ⟨al, ah⟩ ⟨bl, bh⟩)) ∧ Ext w w' := by
  unfold sp2Err
  have H1 := Lib.hid fun W => spCheck_c al ah W
  have H2 := Lib.hid fun W => spCheck_c bl bh W
  generalize spErr ⟨al, ah⟩ = f1 at *
  generalize spErr ⟨bl, bh⟩ = f2 at *
  by_cases h : f1 = 0
  · subst h
    go_enter Tryz.func221, Tryz.ntmps221
    go_wp2_with fail
    refine (H1.out _).mono ?_
    rintro e w1 ⟨rfl, h1⟩
    obtain ⟨hc_w1, hf_w1, hz_w1⟩ := bcell h1
    simp only [World.size_alloc] at hz_w1
    go_wp2_with fail
    refine (H2.out _).mono ?_
    rintro e w2 ⟨rfl, h2⟩
    obtain ⟨hc_w2, hf_w2, hz_w2⟩ := bcell h2; (repeat (first | rw [World.size_alloc] at hz_w2 | rw [World.size_drew] at hz_w2 | rw [World.size_setCell] at hz_w2)); (try (have : w.heap.size < w2.heap.size := (by omega))); (try (have : w.heap.size + 1 < w2.heap.size := (by omega))); (try (have : w.heap.size + 1 + 1 < w2.heap.size := (by omega))); (try (have : w.heap.size + 1 + 1 + 1 < w2.heap.size := (by omega))); (try (have : w.heap.size + 1 + 1 + 1 + 1 < w2.heap.size := (by omega)))
    go_wp2_with fail
    go_ret
    exact ⟨rfl, by (repeat' (first | exact Ext.refl _ | assumption | apply Ext.alloc | apply Ext.drew | refine Ext.set ?_ (by dsimp only; omega) _ | refine Ext.trans ?_ (by assumption)))⟩
  · rw [if_neg h]
    go_enter Tryz.func221, Tryz.ntmps221
    go_wp2_with fail
    refine (H1.out _).mono ?_
    rintro e w1 ⟨rfl, h1⟩
    obtain ⟨hc_w1, hf_w1, hz_w1⟩ := bcell h1
    go_wp2_with fail
    go_ret
    exact ⟨rfl, by (repeat' (first | exact Ext.refl _ | assumption | apply Ext.alloc | apply Ext.drew | refine Ext.set ?_ (by dsimp only; omega) _ | refine Ext.trans ?_ (by assumption)))⟩
set_option maxHeartbeats 400000 in
theorem ends_c (lo hi : Int) (w : World) :
    Calls Tryz.prog 248 #[.int .i64 lo, .int .i64 hi] w fun e w' => e = .returned (spRV (endsM lo hi)) ∧ Ext w w' := by
  unfold endsM noSp
  have H1 := Lib.hid fun W => spFits_c lo W
  have H2 := Lib.hid fun W => spFits_c hi W
  generalize fitsP lo = f1 at *
  generalize fitsP hi = f2 at *
  go_enter Tryz.func248, Tryz.ntmps248
  cases f1 <;> cases f2
  all_goals go_wp2_with fail
  all_goals refine (H1.out _).mono ?_
  all_goals rintro e _ ⟨rfl, rfl⟩
  all_goals go_wp2_with fail
  all_goals try (refine (H2.out _).mono ?_; rintro e _ ⟨rfl, rfl⟩; go_wp2_with fail)
  all_goals ((try simp only [Exit.inBlock, Exit.then]); apply bodyPost_ret; (focus (simp only [results, Tryz.results248]; go_simp; try rfl)); rfl)
  all_goals exact ⟨rfl, by (repeat' (first | exact Ext.refl _ | assumption | apply Ext.alloc | apply Ext.drew | refine Ext.set ?_ (by dsimp only; omega) _ | refine Ext.trans ?_ (by assumption)))⟩
set_option maxHeartbeats 400000 in
theorem Add_c (al ah bl bh : Int) (w : World) :
    Calls Tryz.prog 227 #[.agg #[.int .i64 al, .int .i64 ah], .agg #[.int .i64 bl, .int .i64 bh]] w fun e w' => e = .returned (spRV (addM ⟨al, ah⟩ ⟨bl, bh⟩)) ∧ Ext w w' := by
  unfold addM
  have H1 := Lib.hid fun W => spValid_c al ah bl bh W
  have H2 := Lib.hid fun W => ends_c (al + bl) (ah + bh) W
  dsimp only
  by_cases h : sp2Err ⟨al, ah⟩ ⟨bl, bh⟩ = 0
  · have hb : (-1152921504606846976 ≤ al ∧ al ≤ ah ∧ ah ≤ 1152921504606846976) ∧ -1152921504606846976 ≤ bl ∧ bl ≤ bh ∧ bh ≤ 1152921504606846976 := by
      unfold sp2Err at h
      by_cases h1 : spErr ⟨al, ah⟩ = 0
      · rw [if_pos h1] at h
        exact ⟨spErr_ok.1 h1, spErr_ok.1 h⟩
      · rw [if_neg h1] at h
        exact absurd h h1
    obtain ⟨⟨h1, h2, h3⟩, h4, h5, h6⟩ := hb
    rw [h] at H1
    rw [if_pos h]
    generalize endsM (al + bl) (ah + bh) = R at *
    obtain ⟨⟨rl, rh⟩, re⟩ := R
    clear h
    go_enter Tryz.func227, Tryz.ntmps227
    go_wp2_with fail
    refine (H1.out _).mono ?_
    rintro e w1 ⟨rfl, h1⟩
    obtain ⟨hc_w1, hf_w1, hz_w1⟩ := bcell h1; (repeat (first | rw [World.size_alloc] at hz_w1 | rw [World.size_drew] at hz_w1 | rw [World.size_setCell] at hz_w1)); (try (have : w.heap.size < w1.heap.size := (by omega))); (try (have : w.heap.size + 1 < w1.heap.size := (by omega))); (try (have : w.heap.size + 1 + 1 < w1.heap.size := (by omega))); (try (have : w.heap.size + 1 + 1 + 1 < w1.heap.size := (by omega))); (try (have : w.heap.size + 1 + 1 + 1 + 1 < w1.heap.size := (by omega)))
    go_wp2_with fail
    refine (H2.out _).mono ?_
    rintro e w2 ⟨rfl, h2⟩
    obtain ⟨hc_w2, hf_w2, hz_w2⟩ := bcell h2; (repeat (first | rw [World.size_alloc] at hz_w2 | rw [World.size_drew] at hz_w2 | rw [World.size_setCell] at hz_w2)); (try (have : w.heap.size < w2.heap.size := (by omega))); (try (have : w.heap.size + 1 < w2.heap.size := (by omega))); (try (have : w.heap.size + 1 + 1 < w2.heap.size := (by omega))); (try (have : w.heap.size + 1 + 1 + 1 < w2.heap.size := (by omega))); (try (have : w.heap.size + 1 + 1 + 1 + 1 < w2.heap.size := (by omega)))
    go_wp2_with fail
    (try simp only [Exit.inBlock, Exit.then]); apply bodyPost_ret; (focus (simp only [results, Tryz.results227]; go_simp; try rfl)); rfl
    exact ⟨rfl, by (repeat' (first | exact Ext.refl _ | assumption | apply Ext.alloc | apply Ext.drew | refine Ext.set ?_ (by dsimp only; omega) _ | refine Ext.trans ?_ (by assumption)))⟩
  · rw [if_neg h]
    generalize sp2Err ⟨al, ah⟩ ⟨bl, bh⟩ = f1 at *
    go_enter Tryz.func227, Tryz.ntmps227
    go_wp2_with fail
    refine (H1.out _).mono ?_
    rintro e w1 ⟨rfl, h1⟩
    obtain ⟨hc_w1, hf_w1, hz_w1⟩ := bcell h1; (repeat (first | rw [World.size_alloc] at hz_w1 | rw [World.size_drew] at hz_w1 | rw [World.size_setCell] at hz_w1)); (try (have : w.heap.size < w1.heap.size := (by omega))); (try (have : w.heap.size + 1 < w1.heap.size := (by omega))); (try (have : w.heap.size + 1 + 1 < w1.heap.size := (by omega))); (try (have : w.heap.size + 1 + 1 + 1 < w1.heap.size := (by omega))); (try (have : w.heap.size + 1 + 1 + 1 + 1 < w1.heap.size := (by omega)))
    go_wp2_with fail
    (try simp only [Exit.inBlock, Exit.then]); apply bodyPost_ret; (focus (simp only [results, Tryz.results227]; go_simp; try rfl)); rfl
    exact ⟨rfl, by (repeat' (first | exact Ext.refl _ | assumption | apply Ext.alloc | apply Ext.drew | refine Ext.set ?_ (by dsimp only; omega) _ | refine Ext.trans ?_ (by assumption)))⟩
set_option maxHeartbeats 400000 in
theorem Sub_c (al ah bl bh : Int) (w : World) :
    Calls Tryz.prog 264 #[.agg #[.int .i64 al, .int .i64 ah], .agg #[.int .i64 bl, .int .i64 bh]] w fun e w' => e = .returned (spRV (subM ⟨al, ah⟩ ⟨bl, bh⟩)) ∧ Ext w w' := by
  unfold subM
  have H1 := Lib.hid fun W => spValid_c al ah bl bh W
  have H2 := Lib.hid fun W => ends_c (al - bh) (ah - bl) W
  dsimp only
  by_cases h : sp2Err ⟨al, ah⟩ ⟨bl, bh⟩ = 0
  · have hb : (-1152921504606846976 ≤ al ∧ al ≤ ah ∧ ah ≤ 1152921504606846976) ∧ -1152921504606846976 ≤ bl ∧ bl ≤ bh ∧ bh ≤ 1152921504606846976 := by
      unfold sp2Err at h
      by_cases h1 : spErr ⟨al, ah⟩ = 0
      · rw [if_pos h1] at h
        exact ⟨spErr_ok.1 h1, spErr_ok.1 h⟩
      · rw [if_neg h1] at h
        exact absurd h h1
    obtain ⟨⟨h1, h2, h3⟩, h4, h5, h6⟩ := hb
    rw [h] at H1
    rw [if_pos h]
    generalize endsM (al - bh) (ah - bl) = R at *
    obtain ⟨⟨rl, rh⟩, re⟩ := R
    clear h
    go_enter Tryz.func264, Tryz.ntmps264
    go_wp2_with fail
    refine (H1.out _).mono ?_
    rintro e w1 ⟨rfl, h1⟩
    obtain ⟨hc_w1, hf_w1, hz_w1⟩ := bcell h1; (repeat (first | rw [World.size_alloc] at hz_w1 | rw [World.size_drew] at hz_w1 | rw [World.size_setCell] at hz_w1)); (try (have : w.heap.size < w1.heap.size := (by omega))); (try (have : w.heap.size + 1 < w1.heap.size := (by omega))); (try (have : w.heap.size + 1 + 1 < w1.heap.size := (by omega))); (try (have : w.heap.size + 1 + 1 + 1 < w1.heap.size := (by omega))); (try (have : w.heap.size + 1 + 1 + 1 + 1 < w1.heap.size := (by omega)))
    go_wp2_with fail
    refine (H2.out _).mono ?_
    rintro e w2 ⟨rfl, h2⟩
    obtain ⟨hc_w2, hf_w2, hz_w2⟩ := bcell h2; (repeat (first | rw [World.size_alloc] at hz_w2 | rw [World.size_drew] at hz_w2 | rw [World.size_setCell] at hz_w2)); (try (have : w.heap.size < w2.heap.size := (by omega))); (try (have : w.heap.size + 1 < w2.heap.size := (by omega))); (try (have : w.heap.size + 1 + 1 < w2.heap.size := (by omega))); (try (have : w.heap.size + 1 + 1 + 1 < w2.heap.size := (by omega))); (try (have : w.heap.size + 1 + 1 + 1 + 1 < w2.heap.size := (by omega)))
    go_wp2_with fail
    (try simp only [Exit.inBlock, Exit.then]); apply bodyPost_ret; (focus (simp only [results, Tryz.results264]; go_simp; try rfl)); rfl
    exact ⟨rfl, by (repeat' (first | exact Ext.refl _ | assumption | apply Ext.alloc | apply Ext.drew | refine Ext.set ?_ (by dsimp only; omega) _ | refine Ext.trans ?_ (by assumption)))⟩
  · rw [if_neg h]
    generalize sp2Err ⟨al, ah⟩ ⟨bl, bh⟩ = f1 at *
    go_enter Tryz.func264, Tryz.ntmps264
    go_wp2_with fail
    refine (H1.out _).mono ?_
    rintro e w1 ⟨rfl, h1⟩
    obtain ⟨hc_w1, hf_w1, hz_w1⟩ := bcell h1; (repeat (first | rw [World.size_alloc] at hz_w1 | rw [World.size_drew] at hz_w1 | rw [World.size_setCell] at hz_w1)); (try (have : w.heap.size < w1.heap.size := (by omega))); (try (have : w.heap.size + 1 < w1.heap.size := (by omega))); (try (have : w.heap.size + 1 + 1 < w1.heap.size := (by omega))); (try (have : w.heap.size + 1 + 1 + 1 < w1.heap.size := (by omega))); (try (have : w.heap.size + 1 + 1 + 1 + 1 < w1.heap.size := (by omega)))
    go_wp2_with fail
    (try simp only [Exit.inBlock, Exit.then]); apply bodyPost_ret; (focus (simp only [results, Tryz.results264]; go_simp; try rfl)); rfl
    exact ⟨rfl, by (repeat' (first | exact Ext.refl _ | assumption | apply Ext.alloc | apply Ext.drew | refine Ext.set ?_ (by dsimp only; omega) _ | refine Ext.trans ?_ (by assumption)))⟩
end Go.Proofs.YtfniicgoeljmdaaGreat

namespace Go.Proofs.YtfniicgoeljmdaaGreat
open Go.RowKit

set_option maxHeartbeats 1000000 in
theorem bMul64_c (x y : Nat) (hx : x < 18446744073709551616) (hy : y < 18446744073709551616) (w : World) :
    Calls Tryz.prog 271 #[.int .u64 x, .int .u64 y] w fun e w' => e = .returned (.tuple #[.int .u64 ((x * y / 18446744073709551616 : Nat) : Int), .int .u64 ((x * y % 18446744073709551616 : Nat) : Int)]) ∧ w' = w := by
  obtain ⟨bd, bt, bw, hhi⟩ := Lib.mul64_hi x y hx hy
  have ba := Lib.half_mul_le (a := x / 4294967296) (b := y / 4294967296) (by omega) (by omega)
  have bb := Lib.half_mul_le (a := x / 4294967296) (b := y % 4294967296) (by omega) (by omega)
  have bc := Lib.half_mul_le (a := x % 4294967296) (b := y / 4294967296) (by omega) (by omega)
  have ba' : x / 4294967296 * (y / 4294967296) < 18446744073709551616 := by omega
  have bb' : x / 4294967296 * (y % 4294967296) < 18446744073709551616 := by omega
  have bc' : x % 4294967296 * (y / 4294967296) < 18446744073709551616 := by omega
  have bh1 : x / 4294967296 * (y / 4294967296) + (x / 4294967296 * (y % 4294967296) + x % 4294967296 * (y % 4294967296) / 4294967296) / 4294967296 < 18446744073709551616 := by omega
  have bh : x / 4294967296 * (y / 4294967296) + (x / 4294967296 * (y % 4294967296) + x % 4294967296 * (y % 4294967296) / 4294967296) / 4294967296 + ((x / 4294967296 * (y % 4294967296) + x % 4294967296 * (y % 4294967296) / 4294967296) % 4294967296 + x % 4294967296 * (y / 4294967296)) / 4294967296 < 18446744073709551616 := by
    rw [hhi]
    have h1 := Nat.mul_le_mul (show x ≤ 18446744073709551615 by omega) (show y ≤ 18446744073709551615 by omega)
    omega
  go_enter Tryz.func271, Tryz.ntmps271
  go_wp2
  simp only [Mul64.maskN x hx, Mul64.maskN y hy, Mul64.divN, Mul64.mulN, Mul64.addN, Mul64.wrapN _ bd, Mul64.wrapN _ bb', Mul64.wrapN _ bt, Mul64.maskN _ bt, Mul64.wrapN _ bc', Mul64.wrapN _ bw, Mul64.wrapN _ ba', Mul64.wrapN _ bh1, Mul64.wrapN _ bh, Mul64.wrapM (x * y)]
  rw [hhi]
  go_ret2
  exact ⟨rfl, rfl⟩

set_option maxRecDepth 100000 in
theorem tab_size : (Lib.len8tab.size : Int) = 256 := by
  have : Lib.len8tab.size = 256 := by decide
  omega
theorem bwrap_add (k a b : Nat) (hk : k ≤ 56) (ha : a ≤ 8) (hb : b = k + a) : RowKit.wrap64 ((k : Int) + RowKit.wrap64 (a : Int)) = (b : Int) := by
  unfold RowKit.wrap64
  omega
theorem bwrap_wrap (a : Nat) (ha : a ≤ 8) : RowKit.wrap64 (RowKit.wrap64 (a : Int)) = (a : Int) := by
  unfold RowKit.wrap64
  omega
theorem bwrap_one (a : Nat) (ha : a ≤ 8) : RowKit.wrap64 (a : Int) = (a : Int) := by
  unfold RowKit.wrap64
  omega
theorem tab_get (y : Int) (h : y.toNat < Lib.len8tab.size) : ((Lib.len8tab[y.toNat]'h).toNat : Int) = Lib.len8 y := by
  unfold Lib.len8
  rw [getElem?_pos Lib.len8tab y.toNat h]
  rfl
set_option maxHeartbeats 32000000 in
set_option maxRecDepth 1000000 in
theorem bLen64_c (x : Int) (w : World) (h0 : 0 ≤ x) (h1 : x ≤ 18446744073709551615) :
    Calls Tryz.prog 280 #[.int .u64 x] w fun e w' => e = .returned (.int .i64 (Lib.bitLen x.toNat)) ∧ w' = w := by
  go_enter Tryz.func280, Tryz.ntmps280
  go_wp2
  all_goals first
    | (go_ret; refine ⟨congrArg Ending.returned (congrArg (Value.int IntKind.i64) ?_), rfl⟩; go_light)
    | (exfalso
       go_light
       have hs := tab_size
       omega)
  all_goals first
    | (rw [tab_get (x / 4294967296 / 65536 / 256) _, Lib.len8_of (x / 4294967296 / 65536 / 256) (by omega) (by omega)]
       have e : (x / 4294967296 / 65536 / 256).toNat = x.toNat / 72057594037927936 := by omega
       have l := Lib.bitLen_le8' (x / 4294967296 / 65536 / 256) (by omega) (by omega)
       have s := Lib.bitLen_shift56 x.toNat (by omega) (by omega)
       rw [e] at l ⊢
       exact bwrap_add 56 _ _ (by decide) l s)
    | (rw [tab_get (x / 4294967296 / 65536) _, Lib.len8_of (x / 4294967296 / 65536) (by omega) (by omega)]
       have e : (x / 4294967296 / 65536).toNat = x.toNat / 281474976710656 := by omega
       have l := Lib.bitLen_le8' (x / 4294967296 / 65536) (by omega) (by omega)
       have s := Lib.bitLen_shift48 x.toNat (by omega) (by omega)
       rw [e] at l ⊢
       exact bwrap_add 48 _ _ (by decide) l s)
    | (rw [tab_get (x / 4294967296 / 256) _, Lib.len8_of (x / 4294967296 / 256) (by omega) (by omega)]
       have e : (x / 4294967296 / 256).toNat = x.toNat / 1099511627776 := by omega
       have l := Lib.bitLen_le8' (x / 4294967296 / 256) (by omega) (by omega)
       have s := Lib.bitLen_shift40 x.toNat (by omega) (by omega)
       rw [e] at l ⊢
       exact bwrap_add 40 _ _ (by decide) l s)
    | (rw [tab_get (x / 4294967296) _, Lib.len8_of (x / 4294967296) (by omega) (by omega)]
       have e : (x / 4294967296).toNat = x.toNat / 4294967296 := by omega
       have l := Lib.bitLen_le8' (x / 4294967296) (by omega) (by omega)
       have s := Lib.bitLen_shift32 x.toNat (by omega) (by omega)
       rw [e] at l ⊢
       exact bwrap_add 32 _ _ (by decide) l s)
    | (rw [tab_get (x / 65536 / 256) _, Lib.len8_of (x / 65536 / 256) (by omega) (by omega)]
       have e : (x / 65536 / 256).toNat = x.toNat / 16777216 := by omega
       have l := Lib.bitLen_le8' (x / 65536 / 256) (by omega) (by omega)
       have s := Lib.bitLen_shift24 x.toNat (by omega) (by omega)
       rw [e] at l ⊢
       exact bwrap_add 24 _ _ (by decide) l s)
    | (rw [tab_get (x / 65536) _, Lib.len8_of (x / 65536) (by omega) (by omega)]
       have e : (x / 65536).toNat = x.toNat / 65536 := by omega
       have l := Lib.bitLen_le8' (x / 65536) (by omega) (by omega)
       have s := Lib.bitLen_shift16 x.toNat (by omega) (by omega)
       rw [e] at l ⊢
       exact bwrap_add 16 _ _ (by decide) l s)
    | (rw [tab_get (x / 256) _, Lib.len8_of (x / 256) (by omega) (by omega)]
       have e : (x / 256).toNat = x.toNat / 256 := by omega
       have l := Lib.bitLen_le8' (x / 256) (by omega) (by omega)
       have s := Lib.bitLen_shift8 x.toNat (by omega) (by omega)
       rw [e] at l ⊢
       exact bwrap_add 8 _ _ (by decide) l s)
    | (rw [tab_get x _, Lib.len8_of x (by omega) (by omega)]
       have l := Lib.bitLen_le8' x (by omega) (by omega)
       first | exact bwrap_wrap _ l | exact bwrap_add 0 _ _ (by decide) l (by omega) | exact bwrap_one _ l)

theorem bitLen_bounds (x : Nat) (h0 : 0 < x) (h1 : x < 18446744073709551616) : 1 ≤ Lib.bitLen x ∧ Lib.bitLen x ≤ 64 ∧ 2 ^ (Lib.bitLen x - 1) ≤ x ∧ x < 2 ^ Lib.bitLen x := by
  have hex : ∃ k, 2 ^ k ≤ x ∧ x < 2 ^ (k + 1) := ⟨x.log2, Nat.log2_self_le (by omega), Nat.lt_log2_self⟩
  obtain ⟨k, hk1, hk2⟩ := hex
  have h := Lib.bitLen_shift k x hk1 h1
  have e : x / 2 ^ k = 1 := by
    have hp : 0 < 2 ^ k := Nat.pow_pos (by omega)
    rw [Nat.pow_succ] at hk2
    refine Nat.le_antisymm ?_ ?_
    · have := (Nat.div_lt_iff_lt_mul hp (x := x) (y := 2)).2 (by omega)
      omega
    · exact (Nat.le_div_iff_mul_le hp).2 (by omega)
  rw [e, show Lib.bitLen 1 = 1 from by decide] at h
  have hk64 : k < 64 := by
    rcases Nat.lt_or_ge k 64 with h | h
    · exact h
    · have := Nat.pow_le_pow_right (show 0 < 2 by omega) h
      omega
  rw [h]
  exact ⟨by omega, by omega, by rwa [Nat.add_sub_cancel], hk2⟩
set_option maxHeartbeats 400000 in
theorem bLz64_c (x : Nat) (w : World) (h0 : 0 < x) (h1 : x < 18446744073709551616) :
    Calls Tryz.prog 278 #[.int .u64 (x : Int)] w fun e w' => e = .returned (.int .i64 (64 - (Lib.bitLen x : Int))) ∧ w' = w := by
  have hb := bitLen_bounds x h0 h1
  have HL := Lib.hid (bLen64_c (x : Int) w (by omega) (by omega))
  rw [Int.toNat_natCast] at HL
  generalize Lib.bitLen x = k at *
  obtain ⟨hb1, hb2, _⟩ := hb
  go_enter Tryz.func278, Tryz.ntmps278
  go_wp2_with fail
  refine HL.out.mono ?_
  rintro e _ ⟨rfl, rfl⟩
  go_wp2_with fail
  go_ret
  exact ⟨rfl, rfl⟩
end Go.Proofs.YtfniicgoeljmdaaGreat

namespace Go.Proofs.YtfniicgoeljmdaaGreat.DivLaw
/-- The guess is not too small while the test holds. -/
theorem digit_dec {yn1 yn0 u d q r : Nat} (hu : u < yn1 * 4294967296 + yn0) (hd : d < 4294967296) (hqr : q * yn1 + r = u) (hge : (u * 4294967296 + d) / (yn1 * 4294967296 + yn0) ≤ q)
    (ht : 4294967296 ≤ q ∨ 4294967296 * r + d < q * yn0) : (u * 4294967296 + d) / (yn1 * 4294967296 + yn0) + 1 ≤ q := by
  have hy0 : 0 < yn1 * 4294967296 + yn0 := by omega
  rcases ht with ht | ht
  · have : (u * 4294967296 + d) / (yn1 * 4294967296 + yn0) < 4294967296 := by
      rw [Nat.div_lt_iff_lt_mul hy0]
      have : (u + 1) * 4294967296 ≤ (yn1 * 4294967296 + yn0) * 4294967296 := Nat.mul_le_mul_right _ hu
      omega
    omega
  · have : (u * 4294967296 + d) / (yn1 * 4294967296 + yn0) < q := by
      rw [Nat.div_lt_iff_lt_mul hy0, Nat.mul_add, ← Nat.mul_assoc]
      generalize q * yn1 = a at *
      generalize q * yn0 = b at *
      omega
    omega
/-- The guess is right when the test fails. -/
theorem digit_ok {yn1 yn0 u d q r : Nat} (hu : u < yn1 * 4294967296 + yn0) (hqr : q * yn1 + r = u) (hge : (u * 4294967296 + d) / (yn1 * 4294967296 + yn0) ≤ q)
    (ht : q * yn0 ≤ 4294967296 * r + d) : q = (u * 4294967296 + d) / (yn1 * 4294967296 + yn0) := by
  have hy0 : 0 < yn1 * 4294967296 + yn0 := by omega
  refine Nat.le_antisymm ?_ hge
  rw [Nat.le_div_iff_mul_le hy0, Nat.mul_add, ← Nat.mul_assoc]
  generalize q * yn1 = a at *
  generalize q * yn0 = b at *
  omega
theorem digit_start {yn1 yn0 u d : Nat} (h1 : 2147483648 ≤ yn1) : (u * 4294967296 + d) / (yn1 * 4294967296 + yn0) ≤ u / yn1 ∨ 4294967296 ≤ d := by
  rcases Nat.lt_or_ge d 4294967296 with hd | hd
  · left
    have : u < (u / yn1 + 1) * yn1 := by
      have := Nat.lt_mul_div_succ u (show 0 < yn1 by omega)
      rw [Nat.mul_comm]; exact this
    have h2 : (u * 4294967296 + d) / (yn1 * 4294967296 + yn0) < u / yn1 + 1 := by
      rw [Nat.div_lt_iff_lt_mul (by omega), Nat.mul_add, ← Nat.mul_assoc]
      generalize (u / yn1 + 1) * yn1 = a at *
      generalize (u / yn1 + 1) * yn0 = b at *
      omega
    omega
  · right; exact hd
theorem digit_bound {yn1 yn0 u : Nat} (h1 : 2147483648 ≤ yn1) (hy : yn0 < 4294967296) (hu : u < yn1 * 4294967296 + yn0) : u / yn1 ≤ 4294967297 := by
  have : u / yn1 < 4294967298 := by
    rw [Nat.div_lt_iff_lt_mul (by omega)]
    omega
  omega
/-- Two digits. -/
theorem two_digits {u d1 d0 y q1 q0 r1 : Nat} (hy : 0 < y) (h1 : q1 = (u * 4294967296 + d1) / y) (hr : r1 = (u * 4294967296 + d1) % y) (h0 : q0 = (r1 * 4294967296 + d0) / y) :
    q1 * 4294967296 + q0 = (u * 18446744073709551616 + d1 * 4294967296 + d0) / y ∧ (r1 * 4294967296 + d0) % y = (u * 18446744073709551616 + d1 * 4294967296 + d0) % y := by
  have e1 := Nat.div_add_mod (u * 4294967296 + d1) y
  rw [← h1, ← hr] at e1
  have e2 : u * 18446744073709551616 + d1 * 4294967296 + d0 = y * (q1 * 4294967296) + (r1 * 4294967296 + d0) := by
    rw [← Nat.mul_assoc]
    generalize y * q1 = a at *
    omega
  rw [e2, Nat.mul_add_div hy, Nat.mul_add_mod, ← h0]
  exact ⟨rfl, rfl⟩
/-- Shifted numbers. -/
theorem shifted {n y k : Nat} (hk : 0 < k) : (n * k) / (y * k) = n / y ∧ (n * k) % (y * k) / k = n % y := by
  constructor
  · exact Nat.mul_div_mul_right _ _ hk
  · rw [Nat.mul_mod_mul_right, Nat.mul_div_cancel _ hk]
end Go.Proofs.YtfniicgoeljmdaaGreat.DivLaw
