/- What the checks of worlds and skies compute, of the program and of the reference. No condition. Spans: the program's checks, sums and differences. No condition. What the checks of skies compute, of the program and of the reference. No condition. What the look-ups of stations and catalogs compute. No condition. What a valid sky gives, in plain words. Where stations are at a tick, of the program and of the reference. Cones, distances and looks: what the program computes within its bounds, where nothing wraps. What looks say, and whether a place agrees with a sight: the program. Whether a place agrees with a sight: the program. The chapter's examples that every law of the sky asks; what counts as too great a sky. Guesses, and whether they miss a sight. No condition. What the reference's Miss answers; what counts as too great. No condition. -/
import Derived.Test.YtiladlangkjoiaaGreatGen
import Derived.Handy
namespace Go.Proofs.YtiladlangkjoiaaGreat
open Go.RowKit

def within (n lo hi : Int) : Bool := decide (lo ≤ n) && decide (n ≤ hi)
def near (p : Vec) (m : Int) : Bool := within p.x (-m) m && within p.y (-m) m
theorem ret_b {a b : Bool} (h : a = b) : Ending.returned (.bool a) = .returned (.bool b) := by rw [h]
theorem ret_i {a b : Int} (h : a = b) : Ending.returned (.int .i64 a) = .returned (.int .i64 b) := by rw [h]

set_option maxHeartbeats 400000 in
theorem within_c (a b c : Int) (w : World) :
    Calls Tryz.prog 175 #[.int .i64 a, .int .i64 b, .int .i64 c] w fun e w' => e = .returned (.bool (within a b c)) ∧ w = w' := by
  go_enter Tryz.func175, Tryz.ntmps175
  go_wp2
  all_goals go_ret
  all_goals exact ⟨ret_b (by simp [within, *] <;> omega), rfl⟩

set_option maxHeartbeats 400000 in
theorem between_c (a b c : Int) (w : World) :
    Calls Tryz.prog 191 #[.int .i64 a, .int .i64 b, .int .i64 c] w fun e w' => e = .returned (.bool (within a b c)) ∧ w = w' := by
  go_enter Tryz.func191, Tryz.ntmps191
  go_wp2
  all_goals go_ret
  all_goals exact ⟨ret_b (by simp [within, *] <;> omega), rfl⟩

set_option maxHeartbeats 400000 in
theorem near_c (x y m : Int) (w : World) (h0 : 0 ≤ m) (h1 : m ≤ 1152921504606846976) :
    Calls Tryz.prog 243 #[.agg #[.int .i64 x, .int .i64 y], .int .i64 m] w fun e w' => e = .returned (.bool (near ⟨x, y⟩ m)) ∧ Ext w w' := by
  go_enter Tryz.func243, Tryz.ntmps243
  go_wp2_with (go_at_call 175; refine (within_c _ _ _ _).mono ?_; rintro e w' ⟨rfl, rfl⟩)
  all_goals go_ret
  all_goals refine ⟨ret_b (by simp_all [near]), Ext.alloc0 _ _⟩

set_option maxHeartbeats 400000 in
theorem Near_c (x y : Int) (w : World) :
    Calls Tryz.prog 178 #[.agg #[.int .i64 x, .int .i64 y]] w fun e w' => e = .returned (.bool (near ⟨x, y⟩ 33554432)) ∧ Ext w w' := by
  go_enter Tryz.func178, Tryz.ntmps178
  go_wp2_with (go_at_call 191; refine (between_c _ _ _ _).mono ?_; rintro e w' ⟨rfl, rfl⟩)
  all_goals go_ret
  all_goals refine ⟨ret_b (by simp_all [near]), Ext.alloc0 _ _⟩

def idxFrom {α : Type} (p : α → Bool) : List α → Nat → Int
  | [], _ => -1
  | x :: xs, k => if p x then k else idxFrom p xs (k + 1)
def hasP {α : Type} (p : α → Bool) (l : List α) : Bool := decide (0 ≤ idxFrom p l 0)


set_option maxHeartbeats 400000 in
theorem idxVec_c (A : Option Addr) (n c : Nat) (l : List Vec) (fid : Nat) (cap : Array Value) (p : Vec → Bool) (w : World) (hl : Vecs w A n l)
    (hcall : ∀ (xs : Array Value) (W : World), (callFunc fid xs).run Tryz.prog W = .ok (.enter fid xs) W)
    (hf : ∀ x ∈ l, ∀ W, Ext w W → Calls Tryz.prog fid (#[.agg #[.int .i64 x.x, .int .i64 x.y]] ++ cap) W fun e w' => e = .returned (.bool (p x)) ∧ Ext W w') :
    Calls Tryz.prog 285 #[.slice A n c, .func (.func fid) #[] cap] w fun e w' => e = .returned (.int .i64 (idxFrom p l 0)) ∧ Ext w w' := by
  have hn := hl.le
  have Hf := Lib.hid hf
  clear hf
  go_enter Tryz.func285, Tryz.ntmps285
  go_wp2_with fail
  go_loopw [8] (fun i wr => ∃ k : Nat, k ≤ n ∧ i = .int .i64 k ∧ Hid (idxFrom p (l.drop k) k = idxFrom p l 0) ∧ Ext w wr) (fun i _ => n - (intOf i).toNat)
  case atStart => exact ⟨0, Nat.zero_le _, rfl, rfl, Ext.refl _⟩
  case round =>
    obtain ⟨k, hk, rfl, HI, hb⟩ := hrel
    by_cases hlt : k < n
    · obtain ⟨b, off, x, rfl, HD, hxm, hx⟩ := hl.one hlt
      obtain ⟨hx0, hx1⟩ := vecAt.ext hb hx
      go_wp2_with fail
      refine (Hf.out x hxm _ hb).mono ?_
      rintro e w1 ⟨rfl, h1⟩
      cases hp : p x
      · go_wp2_with fail
        go_roundw
        case rel => exact ⟨k + 1, by omega, by go_num, by have := HI.out; rw [HD.out] at this; simpa [Hid, idxFrom, hp] using this, hb.trans h1⟩
        case measure => simp [intOf]; omega
      · go_wp2_with fail
        go_ret
        exact ⟨ret_i (by have := HI.out; rw [HD.out] at this; simpa [idxFrom, hp] using this), hb.trans h1⟩
    · have : k = l.length := by have := hl.len; omega
      subst this
      go_wp2_with fail
      go_ret
      refine ⟨ret_i ?_, hb⟩
      have := HI.out
      simpa [idxFrom] using this

set_option maxHeartbeats 400000 in
theorem hasVec_c (A : Option Addr) (n c : Nat) (l : List Vec) (fid : Nat) (cap : Array Value) (p : Vec → Bool) (w : World) (hl : Vecs w A n l)
    (hcall : ∀ (xs : Array Value) (W : World), (callFunc fid xs).run Tryz.prog W = .ok (.enter fid xs) W)
    (hf : ∀ x ∈ l, ∀ W, Ext w W → Calls Tryz.prog fid (#[.agg #[.int .i64 x.x, .int .i64 x.y]] ++ cap) W fun e w' => e = .returned (.bool (p x)) ∧ Ext W w') :
    Calls Tryz.prog 241 #[.slice A n c, .func (.func fid) #[] cap] w fun e w' => e = .returned (.bool (hasP p l)) ∧ Ext w w' := by
  have Hf := Lib.hid hf
  clear hf
  go_enter Tryz.func241, Tryz.ntmps241
  go_wp2_with fail
  refine (idxVec_c A n c l fid cap p w hl hcall Hf.out).mono ?_
  rintro e w1 ⟨rfl, h1⟩
  go_wp2_with fail
  go_ret
  exact ⟨ret_b (by simp [hasP]), h1⟩


set_option maxHeartbeats 400000 in
theorem checkBody1_c (x y : Int) (w : World) :
    Calls Tryz.prog 242 #[.agg #[.int .i64 x, .int .i64 y]] w fun e w' => e = .returned (.bool (!near ⟨x, y⟩ 33554432)) ∧ Ext w w' := by
  go_enter Tryz.func242, Tryz.ntmps242
  go_wp2_with fail
  refine (near_c _ _ _ _ (by omega) (by omega)).mono ?_
  rintro e w1 ⟨rfl, h1⟩
  go_wp2_with fail
  go_ret
  exact ⟨ret_b (by simp), (Ext.alloc0 _ _).trans h1⟩

def bodyErr (b : Body) : Int :=
  if !(within b.mu 0 1125899906842624) || !(within b.radius 0 1048576) then 2
  else if b.track.length = 0 then 6
  else if 4096 < b.track.length then 8
  else if hasP (fun p => !near p 33554432) b.track then 2
  else 0

set_option maxHeartbeats 400000 in
theorem checkBody_c (mu radius : Int) (A : Option Addr) (n c : Nat) (l : List Vec) (w : World) (hl : Vecs w A n l) :
    Calls Tryz.prog 172 #[.agg #[.int .i64 mu, .int .i64 radius, .slice A n c]] w fun e w' => e = .returned (.int .i64 (bodyErr ⟨mu, radius, l⟩)) ∧ Ext w w' := by
  have hn := hl.le
  have hln := Lib.hid hl.len
  go_enter Tryz.func172, Tryz.ntmps172
  go_wp2_with (first
    | (go_at_call 175; refine (within_c _ _ _ _).mono ?_; rintro e w' ⟨rfl, rfl⟩)
    | (go_at_call 241; refine (hasVec_c A n c l 242 #[] (fun p => !near p 33554432) _ (Vecs.ext (Ext.alloc0 _ _) hl) Tryz.call242 (fun x _ W _ => checkBody1_c x.x x.y W)).mono ?_; rintro e w' ⟨rfl, h1⟩))
  all_goals go_ret
  all_goals refine ⟨ret_i ?_, ext_by⟩
  all_goals (have hln := hln.out; subst hln; simp_all [bodyErr]; try omega)

def bodiesErr : List Body → Int
  | [] => 0
  | b :: r => if bodyErr b = 0 then bodiesErr r else bodyErr b
def wldErr (w : Wld) : Int :=
  if w.bodies.length = 0 then 6
  else if 8 < w.bodies.length then 8
  else if bodiesErr w.bodies ≠ 0 then bodiesErr w.bodies
  else if w.home < 0 ∨ (w.bodies.length : Int) ≤ w.home then 7
  else 0

set_option maxHeartbeats 400000 in
theorem CheckWorld_c (A : Option Addr) (n c : Nat) (home : Int) (l : List Body) (w : World) (hl : Bodies w A n l) :
    Calls Tryz.prog 83 #[.agg #[.slice A n c, .int .i64 home]] w fun e w' => e = .returned (.int .i64 (wldErr ⟨l, home⟩)) ∧ Ext w w' := by
  have hn := hl.le
  have hln := Lib.hid hl.len
  by_cases h8 : 1 ≤ n ∧ n ≤ 8
  · obtain ⟨h1, h8⟩ := h8
    have h0 : ((n : Int) == 0) = false := by simp; omega
    go_enter Tryz.func83, Tryz.ntmps83
    go_wp2_with fail
    go_loopw [19] (fun i wr => ∃ k : Nat, k ≤ n ∧ i = .int .i64 k ∧ Hid (bodiesErr (l.drop k) = bodiesErr l) ∧ Ext (w.alloc (.cells #[.slice A n c, .int .i64 home] 24)) wr) (fun i _ => n - (intOf i).toNat)
    case atStart => exact ⟨0, Nat.zero_le _, rfl, rfl, Ext.refl _⟩
    case round =>
      obtain ⟨k, hk, rfl, HI, hb⟩ := hrel
      obtain ⟨hcb, hfb, hzb⟩ := bcell hb
      simp only [World.size_alloc] at hzb
      by_cases hlt : k < n
      · obtain ⟨b, off, x, rfl, HD, hxm, hx⟩ := hl.one hlt
        obtain ⟨hx0, hx1, A', n', c', hx2, hx3⟩ := bodyAt.ext (Ext.trans (Ext.alloc0 _ _) hb) hx
        go_wp2_with fail
        refine (checkBody_c _ _ _ _ _ x.track _ (Vecs.ext (Ext.alloc0 _ _) hx3)).mono ?_
        rintro e w1 ⟨rfl, h1⟩
        obtain ⟨M, HM⟩ : ∃ M, bodyErr ⟨x.mu, x.radius, x.track⟩ = M := ⟨_, rfl⟩
        rw [HM]
        have HHM := Lib.hid HM; clear HM
        by_cases hp : M = 0
        · subst hp
          go_wp2_with fail
          go_roundw
          case rel => exact ⟨k + 1, by omega, by go_num, by have := HI.out; rw [HD.out] at this; simpa [Hid, bodiesErr, HHM.out] using this, ext_by⟩
          case measure => simp [intOf]; omega
        · have hp' : (M != 0) = true := by simpa using hp
          go_wp2_with fail
          go_ret
          refine ⟨ret_i ?_, ext_by⟩
          have := HI.out; rw [HD.out] at this; have h4 := hln.out; subst h4
          have h5 := HHM.out
          simp [bodiesErr, h5, hp] at this
          have h6 : l ≠ [] := by intro h; subst h; simp at h1
          simp [wldErr, ← this, hp, h6]; omega
      · have : k = n := by omega
        subst this
        go_wp2_with fail
        all_goals go_ret
        all_goals refine ⟨ret_i ?_, ext_by⟩
        all_goals (have h4 := hln.out; have := HI.out; subst h4; simp [bodiesErr] at this; have h6 : l ≠ [] := by (intro h; subst h; simp at h1))
        all_goals (simp [wldErr, ← this, h6]; omega)
  · go_enter Tryz.func83, Tryz.ntmps83
    go_wp2_with fail
    all_goals (first | (exfalso; simp at *; omega) | go_ret)
    all_goals refine ⟨ret_i ?_, ext_by⟩
    all_goals (have hln := hln.out; subst hln; simp_all [wldErr]; try omega)

theorem hasP_eq {α : Type} (p : α → Bool) (l : List α) : hasP p l = l.any p := by
  have h : ∀ (l : List α) (k : Nat), decide (0 ≤ idxFrom p l k) = l.any p := by
    intro l
    induction l with
    | nil => intro k; simp [idxFrom]
    | cons x r ih => intro k; cases hp : p x <;> simp [idxFrom, hp, ih]
  exact h l 0

set_option maxHeartbeats 400000 in
theorem body_c (mu radius : Int) (A : Option Addr) (n c : Nat) (l : List Vec) (w : World) (hl : Vecs w A n l) :
    Calls Tryz.prog 177 #[.agg #[.int .i64 mu, .int .i64 radius, .slice A n c]] w fun e w' => e = .returned (.int .i64 (bodyErr ⟨mu, radius, l⟩)) ∧ Ext w w' := by
  have hn := hl.le
  have hln := Lib.hid hl.len
  have hcase : (within mu 0 1125899906842624 = true ∧ within radius 0 1048576 = true ∧ 1 ≤ n ∧ n ≤ 4096) ∨ (within mu 0 1125899906842624 = false ∨ within radius 0 1048576 = false ∨ n = 0 ∨ 4096 < n) := by
    cases within mu 0 1125899906842624 <;> cases within radius 0 1048576 <;> simp <;> omega
  rcases hcase with ⟨hwa, hwb, h1, h8⟩ | h8
  · 
    have h0 : ((n : Int) == 0) = false := by simp; omega
    go_enter Tryz.func177, Tryz.ntmps177
    go_wp2_with (go_at_call 191; refine (between_c _ _ _ _).mono ?_; rintro e w' ⟨rfl, rfl⟩)
    go_loopw [3] (fun i wr => ∃ k : Nat, k ≤ n ∧ i = .int .i64 k ∧ Hid ((l.drop k).any (fun p => !near p 33554432) = l.any (fun p => !near p 33554432)) ∧ Ext (w.alloc (.cells #[.int .i64 mu, .int .i64 radius, .slice A n c] 128)) wr) (fun i _ => n - (intOf i).toNat)
    case atStart => exact ⟨0, Nat.zero_le _, rfl, rfl, Ext.refl _⟩
    case round =>
      obtain ⟨k, hk, rfl, HI, hb⟩ := hrel
      obtain ⟨hcb, hfb, hzb⟩ := bcell hb
      simp only [World.size_alloc] at hzb
      by_cases hlt : k < n
      · obtain ⟨b, off, x, rfl, HD, hxm, hx⟩ := hl.one hlt
        obtain ⟨hx0, hx1⟩ := vecAt.ext (Ext.trans (Ext.alloc0 _ _) hb) hx
        go_wp2_with fail
        refine (Near_c _ _ _).mono ?_
        rintro e w1 ⟨rfl, h1⟩
        cases hp : near x 33554432
        · go_wp2_with fail
          go_ret
          refine ⟨ret_i ?_, ext_by⟩
          have := HI.out; rw [HD.out] at this; have h4 := hln.out; subst h4
          simp only [List.any_cons, hp] at this
          have h6 : l ≠ [] := by intro h; subst h; simp at h1
          simp [bodyErr, hasP_eq, ← this, hwa, hwb, h6]; omega
        · go_wp2_with fail
          go_roundw
          case rel => exact ⟨k + 1, by omega, by go_num, by have := HI.out; rw [HD.out] at this; simpa [Hid, hp] using this, ext_by⟩
          case measure => simp [intOf]; omega
      · have : k = n := by omega
        subst this
        go_wp2_with fail
        go_ret
        refine ⟨ret_i ?_, ext_by⟩
        have h4 := hln.out; have := HI.out; subst h4; simp only [List.drop_length, List.any_nil] at this
        have h6 : l ≠ [] := by intro h; subst h; simp at h1
        simp [bodyErr, hasP_eq, ← this, hwa, hwb, h6]; omega
  · rcases h8 with h8 | h8 | h8 | h8
    all_goals (first | subst h8 | skip)
    all_goals go_enter Tryz.func177, Tryz.ntmps177
    all_goals go_wp2_with (go_at_call 191; refine (between_c _ _ _ _).mono ?_; rintro e w' ⟨rfl, rfl⟩)
    all_goals go_ret
    all_goals refine ⟨ret_i ?_, ext_by⟩
    all_goals (have hln := hln.out; try subst hln)
    all_goals (first | (simp_all [bodyErr]; done) | (simp_all [bodyErr]; omega))

set_option maxHeartbeats 400000 in
theorem refWorld_c (A : Option Addr) (n c : Nat) (home : Int) (l : List Body) (w : World) (hl : Bodies w A n l) :
    Calls Tryz.prog 87 #[.agg #[.slice A n c, .int .i64 home]] w fun e w' => e = .returned (.int .i64 (wldErr ⟨l, home⟩)) ∧ Ext w w' := by
  have hn := hl.le
  have hln := Lib.hid hl.len
  by_cases h8 : 1 ≤ n ∧ n ≤ 8
  · obtain ⟨h1, h8⟩ := h8
    have h0 : ((n : Int) == 0) = false := by simp; omega
    go_enter Tryz.func87, Tryz.ntmps87
    go_wp2_with fail
    go_loopw [3] (fun i wr => ∃ k : Nat, k ≤ n ∧ i = .int .i64 k ∧ Hid (bodiesErr (l.drop k) = bodiesErr l) ∧ Ext (w.alloc (.cells #[.slice A n c, .int .i64 home] 24)) wr) (fun i _ => n - (intOf i).toNat)
    case atStart => exact ⟨0, Nat.zero_le _, rfl, rfl, Ext.refl _⟩
    case round =>
      obtain ⟨k, hk, rfl, HI, hb⟩ := hrel
      obtain ⟨hcb, hfb, hzb⟩ := bcell hb
      simp only [World.size_alloc] at hzb
      by_cases hlt : k < n
      · obtain ⟨b, off, x, rfl, HD, hxm, hx⟩ := hl.one hlt
        obtain ⟨hx0, hx1, A', n', c', hx2, hx3⟩ := bodyAt.ext (Ext.trans (Ext.alloc0 _ _) hb) hx
        go_wp2_with fail
        refine (body_c _ _ _ _ _ x.track _ hx3).mono ?_
        rintro e w1 ⟨rfl, h1⟩
        obtain ⟨M, HM⟩ : ∃ M, bodyErr ⟨x.mu, x.radius, x.track⟩ = M := ⟨_, rfl⟩
        rw [HM]
        have HHM := Lib.hid HM; clear HM
        by_cases hp : M = 0
        · subst hp
          go_wp2_with fail
          go_roundw
          case rel => exact ⟨k + 1, by omega, by go_num, by have := HI.out; rw [HD.out] at this; simpa [Hid, bodiesErr, HHM.out] using this, ext_by⟩
          case measure => simp [intOf]; omega
        · have hp' : (M != 0) = true := by simpa using hp
          go_wp2_with fail
          go_ret
          refine ⟨ret_i ?_, ext_by⟩
          have := HI.out; rw [HD.out] at this; have h4 := hln.out; subst h4
          have h5 := HHM.out
          simp [bodiesErr, h5, hp] at this
          have h6 : l ≠ [] := by intro h; subst h; simp at h1
          simp [wldErr, ← this, hp, h6]; omega
      · have : k = n := by omega
        subst this
        go_wp2_with fail
        all_goals go_ret
        all_goals refine ⟨ret_i ?_, ext_by⟩
        all_goals (have h4 := hln.out; have := HI.out; subst h4; simp [bodiesErr] at this; have h6 : l ≠ [] := by (intro h; subst h; simp at h1))
        all_goals (simp [wldErr, ← this, h6]; omega)
  · go_enter Tryz.func87, Tryz.ntmps87
    go_wp2_with fail
    all_goals (first | (exfalso; simp at *; omega) | go_ret)
    all_goals refine ⟨ret_i ?_, ext_by⟩
    all_goals (have hln := hln.out; subst hln; simp_all [wldErr]; try omega)
end Go.Proofs.YtiladlangkjoiaaGreat

namespace Go.Proofs.YtiladlangkjoiaaGreat
open Go.RowKit

structure Sp where
  lo : Int
  hi : Int
def fitsP (n : Int) : Bool := within n (-1152921504606846976) 1152921504606846976
theorem fitsP_iff {n : Int} : fitsP n = true ↔ -1152921504606846976 ≤ n ∧ n ≤ 1152921504606846976 := by simp [fitsP, within]
def spErr (s : Sp) : Int := if fitsP s.lo && fitsP s.hi then (if s.hi < s.lo then 11 else 0) else 2
theorem spErr_ok {s : Sp} : spErr s = 0 ↔ -1152921504606846976 ≤ s.lo ∧ s.lo ≤ s.hi ∧ s.hi ≤ 1152921504606846976 := by
  unfold spErr
  cases h1 : fitsP s.lo <;> cases h2 : fitsP s.hi
  all_goals simp only [Bool.and_self, Bool.and_true, Bool.and_false, Bool.false_eq_true, if_false, if_true]
  all_goals simp only [fitsP, within, Bool.and_eq_true, Bool.and_eq_false_imp, decide_eq_true_eq, decide_eq_false_iff_not] at h1 h2
  · constructor
    · intro h; cases h
    · omega
  · constructor
    · intro h; cases h
    · omega
  · constructor
    · intro h; cases h
    · omega
  · by_cases h3 : s.hi < s.lo
    · rw [if_pos h3]
      constructor
      · intro h; cases h
      · omega
    · rw [if_neg h3]
      constructor
      · intro _; omega
      · intro _; rfl
def sp2Err (a b : Sp) : Int := if spErr a = 0 then spErr b else spErr a
structure SpR where
  s : Sp
  e : Int
def noSp (e : Int) : SpR := ⟨⟨0, 0⟩, e⟩
def endsM (lo hi : Int) : SpR := if fitsP lo && fitsP hi then ⟨⟨lo, hi⟩, 0⟩ else noSp 14
def addM (a b : Sp) : SpR := if sp2Err a b = 0 then endsM (a.lo + b.lo) (a.hi + b.hi) else noSp (sp2Err a b)
def subM (a b : Sp) : SpR := if sp2Err a b = 0 then endsM (a.lo - b.hi) (a.hi - b.lo) else noSp (sp2Err a b)
abbrev spRV (r : SpR) : Value := .tuple #[.agg #[.int .i64 r.s.lo, .int .i64 r.s.hi], .int .i64 r.e]
theorem ret_v {a b : Value} (h : a = b) : Ending.returned a = .returned b := by rw [h]

set_option maxHeartbeats 400000 in
theorem sp_within_c (a b c : Int) (w : World) :
    Calls Tryz.prog 276 #[.int .i64 a, .int .i64 b, .int .i64 c] w fun e w' => e = .returned (.bool (within a b c)) ∧ w = w' := by
  go_enter Tryz.func276, Tryz.ntmps276
  go_wp2
  all_goals go_ret
  all_goals exact ⟨ret_b (by simp [within, *] <;> omega), rfl⟩
set_option maxHeartbeats 400000 in
theorem spFits_c (a : Int) (w : World) :
    Calls Tryz.prog 281 #[.int .i64 a] w fun e w' => e = .returned (.bool (fitsP a)) ∧ w = w' := by
  go_enter Tryz.func281, Tryz.ntmps281
  go_wp2_with (go_at_call 276; refine (sp_within_c _ _ _ _).mono ?_; rintro e w' ⟨rfl, rfl⟩)
  go_ret
  exact ⟨rfl, rfl⟩
set_option maxHeartbeats 400000 in
theorem spCheck_c (lo hi : Int) (w : World) :
    Calls Tryz.prog 232 #[.agg #[.int .i64 lo, .int .i64 hi]] w fun e w' => e = .returned (.int .i64 (spErr ⟨lo, hi⟩)) ∧ Ext w w' := by
  unfold spErr
  dsimp only
  have H1 := Lib.hid fun W => spFits_c lo W
  have H2 := Lib.hid fun W => spFits_c hi W
  generalize fitsP lo = f1 at *
  generalize fitsP hi = f2 at *
  go_enter Tryz.func232, Tryz.ntmps232
  cases f1 <;> cases f2
  all_goals go_wp2_with fail
  all_goals refine (H1.out _).mono ?_
  all_goals rintro e _ ⟨rfl, rfl⟩
  all_goals go_wp2_with fail
  all_goals try (refine (H2.out _).mono ?_; rintro e _ ⟨rfl, rfl⟩; go_wp2_with fail)
  all_goals go_ret
  all_goals refine ⟨ret_i ?_, ext_by⟩
  all_goals simp <;> omega
set_option maxHeartbeats 400000 in
theorem spValid_c (al ah bl bh : Int) (w : World) :
    Calls Tryz.prog 211 #[.agg #[.int .i64 al, .int .i64 ah], .agg #[.int .i64 bl, .int .i64 bh]] w fun e w' => e = .returned (.int .i64 (sp2Err ⟨al, ah⟩ ⟨bl, bh⟩)) ∧ Ext w w' := by
  unfold sp2Err
  have H1 := Lib.hid fun W => spCheck_c al ah W
  have H2 := Lib.hid fun W => spCheck_c bl bh W
  generalize spErr ⟨al, ah⟩ = f1 at *
  generalize spErr ⟨bl, bh⟩ = f2 at *
  by_cases h : f1 = 0
  · subst h
    go_enter Tryz.func211, Tryz.ntmps211
    go_wp2_with fail
    refine (H1.out _).mono ?_
    rintro e w1 ⟨rfl, h1⟩
    obtain ⟨hc_w1, hf_w1, hz_w1⟩ := bcell h1
    simp only [World.size_alloc] at hz_w1
    go_wp2_with fail
    refine (H2.out _).mono ?_
    rintro e w2 ⟨rfl, h2⟩
    obtain ⟨hc_w2, hf_w2, hz_w2⟩ := bcell h2; (try simp only [szA] at hz_w2); (try have := wz0 w w2); (try have := wz1 w w2); (try have := wz2 w w2); (try have := wz3 w w2); (try have := wz4 w w2)
    go_wp2_with fail
    go_ret
    exact ⟨rfl, ext_by⟩
  · rw [if_neg h]
    go_enter Tryz.func211, Tryz.ntmps211
    go_wp2_with fail
    refine (H1.out _).mono ?_
    rintro e w1 ⟨rfl, h1⟩
    obtain ⟨hc_w1, hf_w1, hz_w1⟩ := bcell h1
    go_wp2_with fail
    go_ret
    exact ⟨rfl, ext_by⟩
set_option maxHeartbeats 400000 in
theorem ends_c (lo hi : Int) (w : World) :
    Calls Tryz.prog 231 #[.int .i64 lo, .int .i64 hi] w fun e w' => e = .returned (spRV (endsM lo hi)) ∧ Ext w w' := by
  unfold endsM noSp
  have H1 := Lib.hid fun W => spFits_c lo W
  have H2 := Lib.hid fun W => spFits_c hi W
  generalize fitsP lo = f1 at *
  generalize fitsP hi = f2 at *
  go_enter Tryz.func231, Tryz.ntmps231
  cases f1 <;> cases f2
  all_goals go_wp2_with fail
  all_goals refine (H1.out _).mono ?_
  all_goals rintro e _ ⟨rfl, rfl⟩
  all_goals go_wp2_with fail
  all_goals try (refine (H2.out _).mono ?_; rintro e _ ⟨rfl, rfl⟩; go_wp2_with fail)
  all_goals ((try simp only [Exit.inBlock, Exit.then]); apply bodyPost_ret; (focus (simp only [results, Tryz.results231]; go_simp; try rfl)); rfl)
  all_goals exact ⟨rfl, ext_by⟩
set_option maxHeartbeats 400000 in
theorem Add_c (al ah bl bh : Int) (w : World) :
    Calls Tryz.prog 166 #[.agg #[.int .i64 al, .int .i64 ah], .agg #[.int .i64 bl, .int .i64 bh]] w fun e w' => e = .returned (spRV (addM ⟨al, ah⟩ ⟨bl, bh⟩)) ∧ Ext w w' := by
  unfold addM
  have H1 := Lib.hid fun W => spValid_c al ah bl bh W
  have H2 := Lib.hid fun W => ends_c (al + bl) (ah + bh) W
  dsimp only
  by_cases h : sp2Err ⟨al, ah⟩ ⟨bl, bh⟩ = 0
  · have hb : (-1152921504606846976 ≤ al ∧ al ≤ ah ∧ ah ≤ 1152921504606846976) ∧ -1152921504606846976 ≤ bl ∧ bl ≤ bh ∧ bh ≤ 1152921504606846976 := by
      unfold sp2Err at h
      by_cases h1 : spErr ⟨al, ah⟩ = 0
      · rw [if_pos h1] at h
        exact ⟨spErr_ok.1 h1, spErr_ok.1 h⟩
      · rw [if_neg h1] at h
        exact absurd h h1
    obtain ⟨⟨h1, h2, h3⟩, h4, h5, h6⟩ := hb
    rw [h] at H1
    rw [if_pos h]
    generalize endsM (al + bl) (ah + bh) = R at *
    obtain ⟨⟨rl, rh⟩, re⟩ := R
    clear h
    go_enter Tryz.func166, Tryz.ntmps166
    go_wp2_with fail
    refine (H1.out _).mono ?_
    rintro e w1 ⟨rfl, h1⟩
    obtain ⟨hc_w1, hf_w1, hz_w1⟩ := bcell h1; (try simp only [szA] at hz_w1); (try have := wz0 w w1); (try have := wz1 w w1); (try have := wz2 w w1); (try have := wz3 w w1); (try have := wz4 w w1)
    go_wp2_with fail
    refine (H2.out _).mono ?_
    rintro e w2 ⟨rfl, h2⟩
    obtain ⟨hc_w2, hf_w2, hz_w2⟩ := bcell h2; (try simp only [szA] at hz_w2); (try have := wz0 w w2); (try have := wz1 w w2); (try have := wz2 w w2); (try have := wz3 w w2); (try have := wz4 w w2)
    go_wp2_with fail
    (try simp only [Exit.inBlock, Exit.then]); apply bodyPost_ret; (focus (simp only [results, Tryz.results166]; go_simp; try rfl)); rfl
    exact ⟨rfl, ext_by⟩
  · rw [if_neg h]
    generalize sp2Err ⟨al, ah⟩ ⟨bl, bh⟩ = f1 at *
    go_enter Tryz.func166, Tryz.ntmps166
    go_wp2_with fail
    refine (H1.out _).mono ?_
    rintro e w1 ⟨rfl, h1⟩
    obtain ⟨hc_w1, hf_w1, hz_w1⟩ := bcell h1; (try simp only [szA] at hz_w1); (try have := wz0 w w1); (try have := wz1 w w1); (try have := wz2 w w1); (try have := wz3 w w1); (try have := wz4 w w1)
    go_wp2_with fail
    (try simp only [Exit.inBlock, Exit.then]); apply bodyPost_ret; (focus (simp only [results, Tryz.results166]; go_simp; try rfl)); rfl
    exact ⟨rfl, ext_by⟩
set_option maxHeartbeats 400000 in
theorem Sub_c (al ah bl bh : Int) (w : World) :
    Calls Tryz.prog 164 #[.agg #[.int .i64 al, .int .i64 ah], .agg #[.int .i64 bl, .int .i64 bh]] w fun e w' => e = .returned (spRV (subM ⟨al, ah⟩ ⟨bl, bh⟩)) ∧ Ext w w' := by
  unfold subM
  have H1 := Lib.hid fun W => spValid_c al ah bl bh W
  have H2 := Lib.hid fun W => ends_c (al - bh) (ah - bl) W
  dsimp only
  by_cases h : sp2Err ⟨al, ah⟩ ⟨bl, bh⟩ = 0
  · have hb : (-1152921504606846976 ≤ al ∧ al ≤ ah ∧ ah ≤ 1152921504606846976) ∧ -1152921504606846976 ≤ bl ∧ bl ≤ bh ∧ bh ≤ 1152921504606846976 := by
      unfold sp2Err at h
      by_cases h1 : spErr ⟨al, ah⟩ = 0
      · rw [if_pos h1] at h
        exact ⟨spErr_ok.1 h1, spErr_ok.1 h⟩
      · rw [if_neg h1] at h
        exact absurd h h1
    obtain ⟨⟨h1, h2, h3⟩, h4, h5, h6⟩ := hb
    rw [h] at H1
    rw [if_pos h]
    generalize endsM (al - bh) (ah - bl) = R at *
    obtain ⟨⟨rl, rh⟩, re⟩ := R
    clear h
    go_enter Tryz.func164, Tryz.ntmps164
    go_wp2_with fail
    refine (H1.out _).mono ?_
    rintro e w1 ⟨rfl, h1⟩
    obtain ⟨hc_w1, hf_w1, hz_w1⟩ := bcell h1; (try simp only [szA] at hz_w1); (try have := wz0 w w1); (try have := wz1 w w1); (try have := wz2 w w1); (try have := wz3 w w1); (try have := wz4 w w1)
    go_wp2_with fail
    refine (H2.out _).mono ?_
    rintro e w2 ⟨rfl, h2⟩
    obtain ⟨hc_w2, hf_w2, hz_w2⟩ := bcell h2; (try simp only [szA] at hz_w2); (try have := wz0 w w2); (try have := wz1 w w2); (try have := wz2 w w2); (try have := wz3 w w2); (try have := wz4 w w2)
    go_wp2_with fail
    (try simp only [Exit.inBlock, Exit.then]); apply bodyPost_ret; (focus (simp only [results, Tryz.results164]; go_simp; try rfl)); rfl
    exact ⟨rfl, ext_by⟩
  · rw [if_neg h]
    generalize sp2Err ⟨al, ah⟩ ⟨bl, bh⟩ = f1 at *
    go_enter Tryz.func164, Tryz.ntmps164
    go_wp2_with fail
    refine (H1.out _).mono ?_
    rintro e w1 ⟨rfl, h1⟩
    obtain ⟨hc_w1, hf_w1, hz_w1⟩ := bcell h1; (try simp only [szA] at hz_w1); (try have := wz0 w w1); (try have := wz1 w w1); (try have := wz2 w w1); (try have := wz3 w w1); (try have := wz4 w w1)
    go_wp2_with fail
    (try simp only [Exit.inBlock, Exit.then]); apply bodyPost_ret; (focus (simp only [results, Tryz.results164]; go_simp; try rfl)); rfl
    exact ⟨rfl, ext_by⟩
end Go.Proofs.YtiladlangkjoiaaGreat

namespace Go.Proofs.YtiladlangkjoiaaGreat
open Go.RowKit

def stnsErr : List Stn → Int → Int
  | [], _ => 0
  | x :: r, last => if x.id ≤ last then 11 else if !near x.off 1048576 then 2 else stnsErr r x.id
def catsErr : List Cat → Int → Int
  | [], _ => 0
  | x :: r, last => if x.version ≤ last then 11 else if x.lo < -500000 ∨ x.hi < x.lo ∨ 500000 < x.hi then 2 else catsErr r x.version
def skyErr (s : Sky) : Int :=
  if wldErr s.world ≠ 0 then wldErr s.world
  else if 16 < s.stations.length then 8
  else if stnsErr s.stations 0 ≠ 0 then stnsErr s.stations 0
  else if 8 < s.catalogs.length then 8
  else catsErr s.catalogs 0

end Go.Proofs.YtiladlangkjoiaaGreat

namespace Go.Proofs.YtiladlangkjoiaaGreat
open Go.RowKit

theorem SlR.get {α : Type} {sz : Nat} {R : α → Nat → Nat → Prop} {A : Option Addr} {n : Nat} {l : List α} (h : SlR sz R A n l) {i : Nat} {x : α} (hx : l[i]? = some x) :
    i < n ∧ ∃ b off, A = some ⟨b, off, none⟩ ∧ R x b (off + i * sz) := by
  obtain ⟨hi, rfl⟩ := List.getElem?_eq_some_iff.1 hx
  obtain ⟨b, off, hA, hc⟩ := h.at_ (by omega)
  exact ⟨by rw [h.len]; exact hi, b, off, hA, hc i hi⟩


def stnOf (l : List Stn) (id : Int) : Option Stn := l.find? fun x => x.id == id
def catOf (l : List Cat) (v : Int) : Option Cat := l.find? fun x => x.version == v

end Go.Proofs.YtiladlangkjoiaaGreat

namespace Go.Proofs.YtiladlangkjoiaaGreat
open Go.RowKit

theorem within_iff (n lo hi : Int) : within n lo hi = true ↔ lo ≤ n ∧ n ≤ hi := by simp [within]
theorem near_iff (p : Vec) (m : Int) : near p m = true ↔ (-m ≤ p.x ∧ p.x ≤ m) ∧ (-m ≤ p.y ∧ p.y ≤ m) := by simp [near, within]
theorem body_ok {b : Body} (h : bodyErr b = 0) : 0 < b.track.length ∧ b.track.length ≤ 4096 ∧ (0 ≤ b.mu ∧ b.mu ≤ 1125899906842624) ∧ (0 ≤ b.radius ∧ b.radius ≤ 1048576) ∧ ∀ p ∈ b.track, near p 33554432 = true := by
  rw [bodyErr] at h
  by_cases h1 : (!(within b.mu 0 1125899906842624) || !(within b.radius 0 1048576)) = true
  · rw [if_pos h1] at h; omega
  rw [if_neg h1] at h
  by_cases h2 : b.track.length = 0
  · rw [if_pos h2] at h; omega
  rw [if_neg h2] at h
  by_cases h3 : 4096 < b.track.length
  · rw [if_pos h3] at h; omega
  rw [if_neg h3] at h
  by_cases h4 : hasP (fun p => !near p 33554432) b.track = true
  · rw [if_pos h4] at h; omega
  rw [hasP_eq] at h4
  simp [within_iff] at h1 h4
  exact ⟨by omega, by omega, h1.1, h1.2, h4⟩
theorem bodies_ok : ∀ {l : List Body}, bodiesErr l = 0 → ∀ b ∈ l, bodyErr b = 0
  | [], _, _, h => by simp at h
  | c :: r, h, b, hb => by
    rw [bodiesErr] at h
    by_cases h0 : bodyErr c = 0
    · rw [if_pos h0] at h
      rcases List.mem_cons.1 hb with rfl | hb
      · exact h0
      · exact bodies_ok h b hb
    · rw [if_neg h0] at h; exact absurd h h0
theorem wld_ok {w : Wld} (h : wldErr w = 0) : (∃ k : Nat, w.home = k ∧ k < w.bodies.length) ∧ w.bodies.length ≤ 8 ∧ ∀ b ∈ w.bodies, bodyErr b = 0 := by
  rw [wldErr] at h
  by_cases h1 : w.bodies.length = 0
  · rw [if_pos h1] at h; omega
  rw [if_neg h1] at h
  by_cases h2 : 8 < w.bodies.length
  · rw [if_pos h2] at h; omega
  rw [if_neg h2] at h
  by_cases h3 : bodiesErr w.bodies = 0
  · rw [if_neg (by simpa using h3)] at h
    by_cases h4 : w.home < 0 ∨ (w.bodies.length : Int) ≤ w.home
    · rw [if_pos h4] at h; omega
    · exact ⟨⟨w.home.toNat, by omega, by omega⟩, by omega, bodies_ok h3⟩
  · rw [if_pos h3] at h; exact absurd h h3
theorem stns_ok : ∀ {l : List Stn} {last : Int}, stnsErr l last = 0 → ∀ x ∈ l, near x.off 1048576 = true
  | [], _, _, _, h => by simp at h
  | c :: r, last, h, b, hb => by
    rw [stnsErr] at h
    by_cases h0 : c.id ≤ last
    · rw [if_pos h0] at h; omega
    rw [if_neg h0] at h
    cases h1 : near c.off 1048576
    · rw [h1] at h; simp at h
    · rw [h1] at h
      simp at h
      rcases List.mem_cons.1 hb with rfl | hb
      · exact h1
      · exact stns_ok h b hb
theorem cats_ok : ∀ {l : List Cat} {last : Int}, catsErr l last = 0 → ∀ x ∈ l, -500000 ≤ x.lo ∧ x.lo ≤ x.hi ∧ x.hi ≤ 500000
  | [], _, _, _, h => by simp at h
  | c :: r, last, h, b, hb => by
    rw [catsErr] at h
    by_cases h0 : c.version ≤ last
    · rw [if_pos h0] at h; omega
    rw [if_neg h0] at h
    by_cases h1 : c.lo < -500000 ∨ c.hi < c.lo ∨ 500000 < c.hi
    · rw [if_pos h1] at h; omega
    · rw [if_neg h1] at h
      rcases List.mem_cons.1 hb with rfl | hb
      · omega
      · exact cats_ok h b hb
theorem sky_ok {s : Sky} (h : skyErr s = 0) : wldErr s.world = 0 ∧ (∀ x ∈ s.stations, near x.off 1048576 = true) ∧ (∀ x ∈ s.catalogs, -500000 ≤ x.lo ∧ x.lo ≤ x.hi ∧ x.hi ≤ 500000) := by
  rw [skyErr] at h
  by_cases h1 : wldErr s.world = 0
  · rw [if_neg (by simpa using h1)] at h
    by_cases h2 : 16 < s.stations.length
    · rw [if_pos h2] at h; omega
    rw [if_neg h2] at h
    by_cases h3 : stnsErr s.stations 0 = 0
    · rw [if_neg (by simpa using h3)] at h
      by_cases h4 : 8 < s.catalogs.length
      · rw [if_pos h4] at h; omega
      rw [if_neg h4] at h
      exact ⟨h1, stns_ok h3, cats_ok h⟩
    · rw [if_pos h3] at h; exact absurd h h3
  · rw [if_pos h1] at h; exact absurd h h1

def trackAt (l : List Vec) (tick : Int) : Vec := l.getD (tick.toNat % l.length) ⟨0, 0⟩
theorem trackAt_mem {l : List Vec} (h : 0 < l.length) (t : Int) : trackAt l t ∈ l := by
  unfold trackAt
  have := Nat.mod_lt t.toNat h
  rw [List.getD_eq_getElem?_getD, List.getElem?_eq_getElem this]
  exact List.getElem_mem this
theorem trackAt_get {l : List Vec} (h : 0 < l.length) (t : Nat) : l[t % l.length]? = some (trackAt l t) := by
  unfold trackAt
  have := Nat.mod_lt t h
  simp [List.getD_eq_getElem?_getD, List.getElem?_eq_getElem this]
def homeAt (s : Sky) (tick : Int) : Vec := trackAt (s.world.bodies.getD s.world.home.toNat ⟨0, 0, []⟩).track tick
theorem home_ok {s : Sky} (h : skyErr s = 0) (t : Int) : near (homeAt s t) 33554432 = true := by
  obtain ⟨⟨k, hk, hlt⟩, _, hb⟩ := wld_ok (sky_ok h).1
  have : s.world.bodies.getD s.world.home.toNat ⟨0, 0, []⟩ = s.world.bodies[k] := by
    rw [hk]; simp [List.getD_eq_getElem?_getD, List.getElem?_eq_getElem hlt]
  unfold homeAt
  rw [this]
  obtain ⟨h1, _, _, _, h2⟩ := body_ok (hb _ (List.getElem_mem hlt))
  exact h2 _ (trackAt_mem h1 t)
def addV (p q : Vec) : Vec := ⟨p.x + q.x, p.y + q.y⟩
def whereM (s : Sky) (id tick : Int) : Option Vec :=
  if skyErr s = 0 ∧ within tick 0 1073741824 = true then (stnOf s.stations id).map fun x => addV (homeAt s tick) x.off else none
theorem stnOf_mem {l : List Stn} {id : Int} {x : Stn} (h : stnOf l id = some x) : x ∈ l := List.mem_of_find?_eq_some h
end Go.Proofs.YtiladlangkjoiaaGreat

namespace Go.Proofs.YtiladlangkjoiaaGreat
open Go.RowKit

set_option maxHeartbeats 400000 in
theorem trackat_c (A : Option Addr) (n c : Nat) (l : List Vec) (tick : Int) (w : World) (hl : Vecs w A n l) (h0 : 0 < l.length) (ht : 0 ≤ tick) (ht2 : tick ≤ 1073741824) :
    Calls Tryz.prog 176 #[.slice A n c, .int .i64 tick] w fun e w' => e = .returned (.agg #[.int .i64 (trackAt l tick).x, .int .i64 (trackAt l tick).y]) ∧ Ext w w' := by
  obtain ⟨t, rfl⟩ := Int.eq_ofNat_of_zero_le ht
  have hn := hl.le
  have hg := trackAt_get h0 t
  obtain ⟨hi, b, off, rfl, hc⟩ := hl.get hg
  obtain ⟨p, hp⟩ : ∃ p, trackAt l (t : Int) = p := ⟨_, rfl⟩
  rw [hp] at hc ⊢
  obtain rfl := hl.len
  generalize l.length = n at *
  clear hg hp
  have h1 : (1 : Int) ≤ (n : Int) := by omega
  have hm := Nat.mod_lt t h0
  obtain ⟨hx, hy⟩ := vecAt.ext (Ext.alloc0 _ (.cells #[.int .i64 0, .int .i64 0] 28)) hc
  go_enter Tryz.func176, Tryz.ntmps176
  go_wp2_with fail
  (try simp only [Exit.inBlock, Exit.then]); apply bodyPost_ret; (focus (simp only [results, Tryz.results176]; go_simp; try rfl)); rfl
  exact ⟨rfl, ext_by⟩

set_option maxHeartbeats 400000 in
theorem refat_c (A : Option Addr) (n c : Nat) (home : Int) (l : List Body) (i : Nat) (x : Body) (tick : Int) (w : World) (hl : Bodies w A n l) (hx : l[i]? = some x) (h0 : 0 < x.track.length) (ht : 0 ≤ tick) (ht2 : tick ≤ 1073741824) :
    Calls Tryz.prog 192 #[.agg #[.slice A n c, .int .i64 home], .int .i64 i, .int .i64 tick] w fun e w' => e = .returned (.agg #[.int .i64 (trackAt x.track tick).x, .int .i64 (trackAt x.track tick).y]) ∧ Ext w w' := by
  obtain ⟨t, rfl⟩ := Int.eq_ofNat_of_zero_le ht
  have hn := hl.le
  obtain ⟨hin, b, off, rfl, hc⟩ := hl.get hx
  obtain ⟨_, _, A', n', c', hc2, hl'⟩ := hc
  have hn' := hl'.le
  have hg := trackAt_get h0 t
  obtain ⟨hi', b', off', rfl, hc'⟩ := hl'.get hg
  obtain ⟨p, hp⟩ : ∃ p, trackAt x.track (t : Int) = p := ⟨_, rfl⟩
  rw [hp] at hc' ⊢
  obtain rfl := hl'.len
  generalize x.track.length = n' at *
  clear hg hp
  have h1 : (1 : Int) ≤ (n' : Int) := by omega
  have hm := Nat.mod_lt t h0
  obtain ⟨hx1, hy1⟩ := hc'
  have hb0 : b < w.heap.size := World.block_lt_of_cell? w _ hc2
  have hb1 : b < w.heap.size + 1 := by omega
  have hb2 : b' < w.heap.size := World.block_lt_of_cell? w _ hx1
  have hb3 : b' < w.heap.size + 1 := by omega
  clear hl' hl
  go_enter Tryz.func192, Tryz.ntmps192
  go_wp2_with fail
  (try simp only [Exit.inBlock, Exit.then]); apply bodyPost_ret; (focus (simp only [results, Tryz.results192]; go_simp; try rfl)); rfl
  exact ⟨rfl, ext_by⟩

def optV : Option Vec → Vec
  | some p => p
  | none => ⟨0, 0⟩

end Go.Proofs.YtiladlangkjoiaaGreat

namespace Go.Proofs.YtiladlangkjoiaaGreat
open Go.RowKit

theorem mul_bd {a b A B : Int} (ha : -A ≤ a ∧ a ≤ A) (hb : -B ≤ b ∧ b ≤ B) : -(A * B) ≤ a * b ∧ a * b ≤ A * B := by
  have h1 : (a * b).natAbs ≤ A.toNat * B.toNat := by
    rw [Int.natAbs_mul]
    exact Nat.mul_le_mul (by omega) (by omega)
  have h2 : ((A.toNat * B.toNat : Nat) : Int) = A * B := by
    rw [Int.natCast_mul, Int.toNat_of_nonneg (by omega), Int.toNat_of_nonneg (by omega)]
  omega

def dotD (fx fy dx dy x y : Int) : Int := dx * (x - fx) + dy * (y - fy)
structure CB (fx fy dx dy x y : Int) : Prop where
  fx : -34603008 ≤ fx ∧ fx ≤ 34603008
  fy : -34603008 ≤ fy ∧ fy ≤ 34603008
  dx : -4096 ≤ dx ∧ dx ≤ 4096
  dy : -4096 ≤ dy ∧ dy ≤ 4096
  x : -33554432 ≤ x ∧ x ≤ 33554432
  y : -33554432 ≤ y ∧ y ≤ 33554432
theorem CB.prods {fx fy dx dy x y : Int} (h : CB fx fy dx dy x y) :
    (-279172874240 ≤ dx * (y - fy) ∧ dx * (y - fy) ≤ 279172874240) ∧ (-279172874240 ≤ dy * (x - fx) ∧ dy * (x - fx) ≤ 279172874240) ∧
    (-279172874240 ≤ dx * (x - fx) ∧ dx * (x - fx) ≤ 279172874240) ∧ (-279172874240 ≤ dy * (y - fy) ∧ dy * (y - fy) ≤ 279172874240) := by
  obtain ⟨h1, h2, h3, h4, h5, h6⟩ := h
  have e1 : -68157440 ≤ y - fy ∧ y - fy ≤ 68157440 := by omega
  have e2 : -68157440 ≤ x - fx ∧ x - fx ≤ 68157440 := by omega
  exact ⟨mul_bd h3 e1, mul_bd h4 e2, mul_bd h3 e2, mul_bd h4 e1⟩
theorem CB.dot {fx fy dx dy x y : Int} (h : CB fx fy dx dy x y) : -558345748480 ≤ dotD fx fy dx dy x y ∧ dotD fx fy dx dy x y ≤ 558345748480 := by
  obtain ⟨_, _, h1, h2⟩ := h.prods; unfold dotD; omega

end Go.Proofs.YtiladlangkjoiaaGreat

namespace Go.Proofs.YtiladlangkjoiaaGreat
open Go.RowKit

structure SightOK (s : Sky) (x : Sight) : Prop where
  sky : skyErr s = 0
  kind : 1 ≤ x.kind ∧ x.kind ≤ 3
  tick : 0 ≤ x.tick ∧ x.tick ≤ 1073741824
  stn : ∃ st, stnOf s.stations x.station = some st
  cat : x.kind ≠ 2 → ∃ c, catOf s.catalogs x.catalog = some c ∧ -500000 ≤ c.lo ∧ c.lo ≤ c.hi ∧ c.hi ≤ 500000
  dir : x.kind ≠ 2 → (-4096 ≤ x.dx ∧ x.dx ≤ 4096) ∧ (-4096 ≤ x.dy ∧ x.dy ≤ 4096) ∧ (0 ≤ x.err ∧ x.err ≤ 500000) ∧ ¬ (x.dx = 0 ∧ x.dy = 0)
  reach : x.kind = 2 → 0 ≤ x.lo ∧ x.lo ≤ x.hi ∧ x.hi ≤ 134217728
  far : x.kind = 3 → 1 ≤ x.hi ∧ x.hi ≤ 134217728

def orig (s : Sky) (x : Sight) : Vec := optV (whereM s x.station x.tick)
theorem SightOK.orig_bd {s : Sky} {x : Sight} (h : SightOK s x) : (-34603008 ≤ (orig s x).x ∧ (orig s x).x ≤ 34603008) ∧ (-34603008 ≤ (orig s x).y ∧ (orig s x).y ≤ 34603008) := by
  obtain ⟨st, hst⟩ := h.stn
  have h1 : orig s x = addV (homeAt s x.tick) st.off := by
    unfold orig
    rw [whereM, if_pos ⟨h.sky, (within_iff _ _ _).2 h.tick⟩, hst]
    rfl
  have h2 := (near_iff _ _).1 (home_ok h.sky x.tick)
  have h3 := (near_iff _ _).1 ((sky_ok h.sky).2.1 st (stnOf_mem hst))
  rw [h1, addV]
  dsimp only
  omega
end Go.Proofs.YtiladlangkjoiaaGreat

namespace Go.Proofs.YtiladlangkjoiaaGreat
open Go.RowKit

theorem SightOK.cb {s : Sky} {x : Sight} (h : SightOK s x) (hk : x.kind ≠ 2) {px py : Int} (hp : near ⟨px, py⟩ 33554432 = true) : CB (orig s x).x (orig s x).y x.dx x.dy px py := by
  have h1 := h.orig_bd
  obtain ⟨h2, h3, _, _⟩ := h.dir hk
  have h4 := (near_iff _ _).1 hp
  exact ⟨h1.1, h1.2, h2, h3, h4.1, h4.2⟩
end Go.Proofs.YtiladlangkjoiaaGreat

namespace Go.Proofs.YtiladlangkjoiaaGreat
open Go.RowKit

def bigB (b : Body) : Bool := (decide (60 < b.track.length) && decide (b.track.length < 4096)) || decide (4097 < b.track.length)
def bigWld (l : List Body) : Bool := decide (10 < l.length) || l.any bigB
set_option maxRecDepth 20000 in
set_option maxHeartbeats 1000000 in
theorem BigWorld_c (A : Option Addr) (n c : Nat) (home : Int) (l : List Body) (w : World) (hl : Bodies w A n l) :
    Calls Tryz.prog 19 #[.agg #[.slice A n c, .int .i64 home]] w fun e w' => e = .returned (.bool (bigWld l)) ∧ Ext w w' := by
  have hn := hl.le
  have hln := Lib.hid hl.len
  by_cases h8 : n ≤ 10
  · have Hb : Hid (bigWld l = l.any bigB) := by
      have h4 := hln.out; unfold bigWld; rw [← h4]; simp [Hid, show ¬ 10 < n by omega]
    go_enter Tryz.func19, Tryz.ntmps19
    go_wp2_with fail
    go_loopw [3] (fun i wr => ∃ k : Nat, k ≤ n ∧ i = .int .i64 k ∧ Hid ((l.drop k).any bigB = l.any bigB) ∧ Ext (w.alloc (.cells #[.slice A n c, .int .i64 home] 24)) wr) (fun i _ => n - (intOf i).toNat)
    case atStart => exact ⟨0, Nat.zero_le _, rfl, rfl, Ext.refl _⟩
    case round =>
      obtain ⟨k, hk, rfl, HI, hb⟩ := hrel
      obtain ⟨hcb, hfb, hzb⟩ := bcell hb
      by_cases hlt : k < n
      · obtain ⟨b, off, x, rfl, HD, hxm, hx⟩ := hl.one hlt
        obtain ⟨hx0, hx1, A', n', c', hx2, hx3⟩ := bodyAt.ext (Ext.trans (Ext.alloc0 _ _) hb) hx
        have hn' := hx3.le
        have hi := HI.out; rw [HD.out, List.any_cons] at hi
        have hl' := hx3.len
        have Hb' : Hid (bigB x = ((decide (60 < n') && decide (n' < 4096)) || decide (4097 < n'))) := by unfold bigB; rw [← hl']; rfl
        cases hp : bigB x
        · rw [hp, Bool.false_or] at hi
          have Hi := Lib.hid hi
          have Hp := Lib.hid hp
          clear hi hp hl' hx3
          go_wp2_with fail
          all_goals (first
            | (go_ret
               exfalso
               have h1 := Hp.out; rw [Hb'.out] at h1
               simp only [Bool.or_eq_false_iff, Bool.and_eq_false_iff, decide_eq_false_iff_not] at h1
               omega)
            | (go_roundw
               case rel => exact ⟨k + 1, by omega, by go_num, Hi, ext_by⟩
               case measure => simp [intOf]; omega))
        · rw [hp, Bool.true_or] at hi
          have Hi := Lib.hid hi
          have Hp := Lib.hid hp
          clear hi hp hl' hx3
          go_wp2_with fail
          all_goals (first
            | (go_ret
               refine ⟨ret_b ?_, ext_by⟩
               rw [Hb.out, ← Hi.out])
            | (exfalso
               have h1 := Hp.out; rw [Hb'.out] at h1
               simp only [Bool.or_eq_true, Bool.and_eq_true, decide_eq_true_eq] at h1
               omega))
      · have : k = n := by omega
        subst this
        have hi := HI.out; rw [hln.out, List.drop_length, List.any_nil] at hi
        have Hi := Lib.hid hi
        clear hi
        go_wp2_with fail
        go_ret
        exact ⟨ret_b (by rw [Hb.out, ← Hi.out]), ext_by⟩
  · have h8' : 10 < n := by omega
    go_enter Tryz.func19, Tryz.ntmps19
    go_wp2_with fail
    go_ret
    refine ⟨ret_b ?_, ext_by⟩
    have h4 := hln.out; unfold bigWld; rw [← h4]; simp [h8']

theorem Blk.alloc {w : World} {g : Nat} {t : TypeId} {cs : Array Value} (h : Blk w g t cs) (o : Obj) : Blk (w.alloc o) g t cs := Blk.ext h (Ext.alloc0 _ _)
theorem two {α : Type} {a b : α} {P : α → Nat → Prop} (h0 : P a 0) (h1 : P b 1) : ∀ k (h : k < [a, b].length), P ([a, b][k]) k
  | 0, _ => h0
  | 1, _ => h1
end Go.Proofs.YtiladlangkjoiaaGreat

namespace Go.Proofs.YtiladlangkjoiaaGreat
open Go.RowKit

structure GB (g : St) (t0 t : Int) : Prop where
  x : -33554432 ≤ g.x ∧ g.x ≤ 33554432
  y : -33554432 ≤ g.y ∧ g.y ≤ 33554432
  n : -1073741824 ≤ t - t0 ∧ t - t0 ≤ 1073741824
  u : -1125899906842624 ≤ g.u * (t - t0) ∧ g.u * (t - t0) ≤ 1125899906842624
  v : -1125899906842624 ≤ g.v * (t - t0) ∧ g.v * (t - t0) ≤ 1125899906842624
end Go.Proofs.YtiladlangkjoiaaGreat

namespace Go.Proofs.YtiladlangkjoiaaGreat
open Go.RowKit

def trkAt (w : World) (p : List Sight) (b o : Nat) : Prop := ∃ A n c, w.cell? ⟨b, o, none⟩ = some (.slice A n c) ∧ Sights w A n p
abbrev Trks (w : World) (A : Option Addr) (n : Nat) (l : List (List Sight)) : Prop := SlR 1 (trkAt w) A n l
theorem trkAt.ext {w w' : World} (e : Ext w w') {p : List Sight} {b o : Nat} (h : trkAt w p b o) : trkAt w' p b o := by
  obtain ⟨A, n, c, h1, h2⟩ := h
  exact ⟨A, n, c, e.cell h1, Sights.ext e h2⟩
theorem Trks.ext {w w' : World} (e : Ext w w') {A n l} (h : Trks w A n l) : Trks w' A n l := SlR.mono h fun _ _ _ _ => trkAt.ext e
end Go.Proofs.YtiladlangkjoiaaGreat
