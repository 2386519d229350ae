/- What the checks of worlds and skies compute, of the program and of the reference. No condition. Spans: the program's checks, sums and differences. No condition. What the checks of skies compute, of the program and of the reference. No condition. What the look-ups of stations and catalogs compute. No condition. What the checks of sights compute, of the program and of the reference. No condition. What a valid sky gives, in plain words. Where stations are at a tick, of the program and of the reference. Cones, distances and looks: what the program computes within its bounds, where nothing wraps. -/
import Derived.Test.YtfniicgoeljmdaaGreatNameW
import Derived.Handy
namespace Go.Proofs.YtfniicgoeljmdaaGreat
open Go.RowKit

def within (n lo hi : Int) : Bool := decide (lo ≤ n) && decide (n ≤ hi)
def near (p : Vec) (m : Int) : Bool := within p.x (-m) m && within p.y (-m) m
theorem ret_b {a b : Bool} (h : a = b) : Ending.returned (.bool a) = .returned (.bool b) := by rw [h]
theorem ret_i {a b : Int} (h : a = b) : Ending.returned (.int .i64 a) = .returned (.int .i64 b) := by rw [h]

set_option maxHeartbeats 400000 in
theorem within_c (a b c : Int) (w : World) :
    Calls Tryz.prog 152 #[.int .i64 a, .int .i64 b, .int .i64 c] w fun e w' => e = .returned (.bool (within a b c)) ∧ w = w' := by
  go_enter Tryz.func152, Tryz.ntmps152
  go_wp2
  all_goals go_ret
  all_goals exact ⟨ret_b (by simp [within, *] <;> omega), rfl⟩

set_option maxHeartbeats 400000 in
theorem between_c (a b c : Int) (w : World) :
    Calls Tryz.prog 133 #[.int .i64 a, .int .i64 b, .int .i64 c] w fun e w' => e = .returned (.bool (within a b c)) ∧ w = w' := by
  go_enter Tryz.func133, Tryz.ntmps133
  go_wp2
  all_goals go_ret
  all_goals exact ⟨ret_b (by simp [within, *] <;> omega), rfl⟩

set_option maxHeartbeats 400000 in
theorem near_c (x y m : Int) (w : World) (h0 : 0 ≤ m) (h1 : m ≤ 1152921504606846976) :
    Calls Tryz.prog 118 #[.agg #[.int .i64 x, .int .i64 y], .int .i64 m] w fun e w' => e = .returned (.bool (near ⟨x, y⟩ m)) ∧ Ext w w' := by
  go_enter Tryz.func118, Tryz.ntmps118
  go_wp2_with (go_at_call 152; refine (within_c _ _ _ _).mono ?_; rintro e w' ⟨rfl, rfl⟩)
  all_goals go_ret
  all_goals refine ⟨ret_b (by simp_all [near]), Ext.alloc0 _ _⟩

set_option maxHeartbeats 400000 in
theorem Near_c (x y : Int) (w : World) :
    Calls Tryz.prog 132 #[.agg #[.int .i64 x, .int .i64 y]] w fun e w' => e = .returned (.bool (near ⟨x, y⟩ 33554432)) ∧ Ext w w' := by
  go_enter Tryz.func132, Tryz.ntmps132
  go_wp2_with (go_at_call 133; refine (between_c _ _ _ _).mono ?_; rintro e w' ⟨rfl, rfl⟩)
  all_goals go_ret
  all_goals refine ⟨ret_b (by simp_all [near]), Ext.alloc0 _ _⟩

def idxFrom {α : Type} (p : α → Bool) : List α → Nat → Int
  | [], _ => -1
  | x :: xs, k => if p x then k else idxFrom p xs (k + 1)
def hasP {α : Type} (p : α → Bool) (l : List α) : Bool := decide (0 ≤ idxFrom p l 0)


set_option maxHeartbeats 400000 in
theorem idxVec_c (A : Option Addr) (n c : Nat) (l : List Vec) (fid : Nat) (cap : Array Value) (p : Vec → Bool) (w : World) (hl : Vecs w A n l)
    (hcall : ∀ (xs : Array Value) (W : World), (callFunc fid xs).run Tryz.prog W = .ok (.enter fid xs) W)
    (hf : ∀ x ∈ l, ∀ W, Ext w W → Calls Tryz.prog fid (#[.agg #[.int .i64 x.x, .int .i64 x.y]] ++ cap) W fun e w' => e = .returned (.bool (p x)) ∧ Ext W w') :
    Calls Tryz.prog 220 #[.slice A n c, .func (.func fid) #[] cap] w fun e w' => e = .returned (.int .i64 (idxFrom p l 0)) ∧ Ext w w' := by
  have hn := hl.le
  have Hf := Lib.hid hf
  clear hf
  go_enter Tryz.func220, Tryz.ntmps220
  go_wp2_with fail
  go_loopw [8] (fun i wr => ∃ k : Nat, k ≤ n ∧ i = .int .i64 k ∧ Hid (idxFrom p (l.drop k) k = idxFrom p l 0) ∧ Ext w wr) (fun i _ => n - (intOf i).toNat)
  case atStart => exact ⟨0, Nat.zero_le _, rfl, rfl, Ext.refl _⟩
  case round =>
    obtain ⟨k, hk, rfl, HI, hb⟩ := hrel
    by_cases hlt : k < n
    · obtain ⟨b, off, x, rfl, HD, hxm, hx⟩ := hl.one hlt
      obtain ⟨hx0, hx1⟩ := vecAt.ext hb hx
      go_wp2_with fail
      refine (Hf.out x hxm _ hb).mono ?_
      rintro e w1 ⟨rfl, h1⟩
      cases hp : p x
      · go_wp2_with fail
        go_roundw
        case rel => exact ⟨k + 1, by omega, by go_num, by have := HI.out; rw [HD.out] at this; simpa [Hid, idxFrom, hp] using this, hb.trans h1⟩
        case measure => simp [intOf]; omega
      · go_wp2_with fail
        go_ret
        exact ⟨ret_i (by have := HI.out; rw [HD.out] at this; simpa [idxFrom, hp] using this), hb.trans h1⟩
    · have : k = l.length := by have := hl.len; omega
      subst this
      go_wp2_with fail
      go_ret
      refine ⟨ret_i ?_, hb⟩
      have := HI.out
      simpa [idxFrom] using this

set_option maxHeartbeats 400000 in
theorem hasVec_c (A : Option Addr) (n c : Nat) (l : List Vec) (fid : Nat) (cap : Array Value) (p : Vec → Bool) (w : World) (hl : Vecs w A n l)
    (hcall : ∀ (xs : Array Value) (W : World), (callFunc fid xs).run Tryz.prog W = .ok (.enter fid xs) W)
    (hf : ∀ x ∈ l, ∀ W, Ext w W → Calls Tryz.prog fid (#[.agg #[.int .i64 x.x, .int .i64 x.y]] ++ cap) W fun e w' => e = .returned (.bool (p x)) ∧ Ext W w') :
    Calls Tryz.prog 194 #[.slice A n c, .func (.func fid) #[] cap] w fun e w' => e = .returned (.bool (hasP p l)) ∧ Ext w w' := by
  have Hf := Lib.hid hf
  clear hf
  go_enter Tryz.func194, Tryz.ntmps194
  go_wp2_with fail
  refine (idxVec_c A n c l fid cap p w hl hcall Hf.out).mono ?_
  rintro e w1 ⟨rfl, h1⟩
  go_wp2_with fail
  go_ret
  exact ⟨ret_b (by simp [hasP]), h1⟩


set_option maxHeartbeats 400000 in
theorem checkBody1_c (x y : Int) (w : World) :
    Calls Tryz.prog 195 #[.agg #[.int .i64 x, .int .i64 y]] w fun e w' => e = .returned (.bool (!near ⟨x, y⟩ 33554432)) ∧ Ext w w' := by
  go_enter Tryz.func195, Tryz.ntmps195
  go_wp2_with fail
  refine (near_c _ _ _ _ (by omega) (by omega)).mono ?_
  rintro e w1 ⟨rfl, h1⟩
  go_wp2_with fail
  go_ret
  exact ⟨ret_b (by simp), (Ext.alloc0 _ _).trans h1⟩

def bodyErr (b : Body) : Int :=
  if !(within b.mu 0 1125899906842624) || !(within b.radius 0 1048576) then 2
  else if b.track.length = 0 then 6
  else if 4096 < b.track.length then 8
  else if hasP (fun p => !near p 33554432) b.track then 2
  else 0

set_option maxHeartbeats 400000 in
theorem checkBody_c (mu radius : Int) (A : Option Addr) (n c : Nat) (l : List Vec) (w : World) (hl : Vecs w A n l) :
    Calls Tryz.prog 156 #[.agg #[.int .i64 mu, .int .i64 radius, .slice A n c]] w fun e w' => e = .returned (.int .i64 (bodyErr ⟨mu, radius, l⟩)) ∧ Ext w w' := by
  have hn := hl.le
  have hln := Lib.hid hl.len
  go_enter Tryz.func156, Tryz.ntmps156
  go_wp2_with (first
    | (go_at_call 152; refine (within_c _ _ _ _).mono ?_; rintro e w' ⟨rfl, rfl⟩)
    | (go_at_call 194; refine (hasVec_c A n c l 195 #[] (fun p => !near p 33554432) _ (Vecs.ext (Ext.alloc0 _ _) hl) Tryz.call195 (fun x _ W _ => checkBody1_c x.x x.y W)).mono ?_; rintro e w' ⟨rfl, h1⟩))
  all_goals go_ret
  all_goals refine ⟨ret_i ?_, ext_by⟩
  all_goals (have hln := hln.out; subst hln; simp_all [bodyErr]; try omega)

def bodiesErr : List Body → Int
  | [] => 0
  | b :: r => if bodyErr b = 0 then bodiesErr r else bodyErr b
def wldErr (w : Wld) : Int :=
  if w.bodies.length = 0 then 6
  else if 8 < w.bodies.length then 8
  else if bodiesErr w.bodies ≠ 0 then bodiesErr w.bodies
  else if w.home < 0 ∨ (w.bodies.length : Int) ≤ w.home then 7
  else 0

set_option maxHeartbeats 400000 in
theorem CheckWorld_c (A : Option Addr) (n c : Nat) (home : Int) (l : List Body) (w : World) (hl : Bodies w A n l) :
    Calls Tryz.prog 120 #[.agg #[.slice A n c, .int .i64 home]] w fun e w' => e = .returned (.int .i64 (wldErr ⟨l, home⟩)) ∧ Ext w w' := by
  have hn := hl.le
  have hln := Lib.hid hl.len
  by_cases h8 : 1 ≤ n ∧ n ≤ 8
  · obtain ⟨h1, h8⟩ := h8
    have h0 : ((n : Int) == 0) = false := by simp; omega
    go_enter Tryz.func120, Tryz.ntmps120
    go_wp2_with fail
    go_loopw [19] (fun i wr => ∃ k : Nat, k ≤ n ∧ i = .int .i64 k ∧ Hid (bodiesErr (l.drop k) = bodiesErr l) ∧ Ext (w.alloc (.cells #[.slice A n c, .int .i64 home] 24)) wr) (fun i _ => n - (intOf i).toNat)
    case atStart => exact ⟨0, Nat.zero_le _, rfl, rfl, Ext.refl _⟩
    case round =>
      obtain ⟨k, hk, rfl, HI, hb⟩ := hrel
      obtain ⟨hcb, hfb, hzb⟩ := bcell hb
      simp only [World.size_alloc] at hzb
      by_cases hlt : k < n
      · obtain ⟨b, off, x, rfl, HD, hxm, hx⟩ := hl.one hlt
        obtain ⟨hx0, hx1, A', n', c', hx2, hx3⟩ := bodyAt.ext (Ext.trans (Ext.alloc0 _ _) hb) hx
        go_wp2_with fail
        refine (checkBody_c _ _ _ _ _ x.track _ (Vecs.ext (Ext.alloc0 _ _) hx3)).mono ?_
        rintro e w1 ⟨rfl, h1⟩
        obtain ⟨M, HM⟩ : ∃ M, bodyErr ⟨x.mu, x.radius, x.track⟩ = M := ⟨_, rfl⟩
        rw [HM]
        have HHM := Lib.hid HM; clear HM
        by_cases hp : M = 0
        · subst hp
          go_wp2_with fail
          go_roundw
          case rel => exact ⟨k + 1, by omega, by go_num, by have := HI.out; rw [HD.out] at this; simpa [Hid, bodiesErr, HHM.out] using this, ext_by⟩
          case measure => simp [intOf]; omega
        · have hp' : (M != 0) = true := by simpa using hp
          go_wp2_with fail
          go_ret
          refine ⟨ret_i ?_, ext_by⟩
          have := HI.out; rw [HD.out] at this; have h4 := hln.out; subst h4
          have h5 := HHM.out
          simp [bodiesErr, h5, hp] at this
          have h6 : l ≠ [] := by intro h; subst h; simp at h1
          simp [wldErr, ← this, hp, h6]; omega
      · have : k = n := by omega
        subst this
        go_wp2_with fail
        all_goals go_ret
        all_goals refine ⟨ret_i ?_, ext_by⟩
        all_goals (have h4 := hln.out; have := HI.out; subst h4; simp [bodiesErr] at this; have h6 : l ≠ [] := by (intro h; subst h; simp at h1))
        all_goals (simp [wldErr, ← this, h6]; omega)
  · go_enter Tryz.func120, Tryz.ntmps120
    go_wp2_with fail
    all_goals (first | (exfalso; simp at *; omega) | go_ret)
    all_goals refine ⟨ret_i ?_, ext_by⟩
    all_goals (have hln := hln.out; subst hln; simp_all [wldErr]; try omega)

theorem hasP_eq {α : Type} (p : α → Bool) (l : List α) : hasP p l = l.any p := by
  have h : ∀ (l : List α) (k : Nat), decide (0 ≤ idxFrom p l k) = l.any p := by
    intro l
    induction l with
    | nil => intro k; simp [idxFrom]
    | cons x r ih => intro k; cases hp : p x <;> simp [idxFrom, hp, ih]
  exact h l 0

set_option maxHeartbeats 400000 in
theorem body_c (mu radius : Int) (A : Option Addr) (n c : Nat) (l : List Vec) (w : World) (hl : Vecs w A n l) :
    Calls Tryz.prog 158 #[.agg #[.int .i64 mu, .int .i64 radius, .slice A n c]] w fun e w' => e = .returned (.int .i64 (bodyErr ⟨mu, radius, l⟩)) ∧ Ext w w' := by
  have hn := hl.le
  have hln := Lib.hid hl.len
  have hcase : (within mu 0 1125899906842624 = true ∧ within radius 0 1048576 = true ∧ 1 ≤ n ∧ n ≤ 4096) ∨ (within mu 0 1125899906842624 = false ∨ within radius 0 1048576 = false ∨ n = 0 ∨ 4096 < n) := by
    cases within mu 0 1125899906842624 <;> cases within radius 0 1048576 <;> simp <;> omega
  rcases hcase with ⟨hwa, hwb, h1, h8⟩ | h8
  · 
    have h0 : ((n : Int) == 0) = false := by simp; omega
    go_enter Tryz.func158, Tryz.ntmps158
    go_wp2_with (go_at_call 133; refine (between_c _ _ _ _).mono ?_; rintro e w' ⟨rfl, rfl⟩)
    go_loopw [3] (fun i wr => ∃ k : Nat, k ≤ n ∧ i = .int .i64 k ∧ Hid ((l.drop k).any (fun p => !near p 33554432) = l.any (fun p => !near p 33554432)) ∧ Ext (w.alloc (.cells #[.int .i64 mu, .int .i64 radius, .slice A n c] 97)) wr) (fun i _ => n - (intOf i).toNat)
    case atStart => exact ⟨0, Nat.zero_le _, rfl, rfl, Ext.refl _⟩
    case round =>
      obtain ⟨k, hk, rfl, HI, hb⟩ := hrel
      obtain ⟨hcb, hfb, hzb⟩ := bcell hb
      simp only [World.size_alloc] at hzb
      by_cases hlt : k < n
      · obtain ⟨b, off, x, rfl, HD, hxm, hx⟩ := hl.one hlt
        obtain ⟨hx0, hx1⟩ := vecAt.ext (Ext.trans (Ext.alloc0 _ _) hb) hx
        go_wp2_with fail
        refine (Near_c _ _ _).mono ?_
        rintro e w1 ⟨rfl, h1⟩
        cases hp : near x 33554432
        · go_wp2_with fail
          go_ret
          refine ⟨ret_i ?_, ext_by⟩
          have := HI.out; rw [HD.out] at this; have h4 := hln.out; subst h4
          simp only [List.any_cons, hp] at this
          have h6 : l ≠ [] := by intro h; subst h; simp at h1
          simp [bodyErr, hasP_eq, ← this, hwa, hwb, h6]; omega
        · go_wp2_with fail
          go_roundw
          case rel => exact ⟨k + 1, by omega, by go_num, by have := HI.out; rw [HD.out] at this; simpa [Hid, hp] using this, ext_by⟩
          case measure => simp [intOf]; omega
      · have : k = n := by omega
        subst this
        go_wp2_with fail
        go_ret
        refine ⟨ret_i ?_, ext_by⟩
        have h4 := hln.out; have := HI.out; subst h4; simp only [List.drop_length, List.any_nil] at this
        have h6 : l ≠ [] := by intro h; subst h; simp at h1
        simp [bodyErr, hasP_eq, ← this, hwa, hwb, h6]; omega
  · rcases h8 with h8 | h8 | h8 | h8
    all_goals (first | subst h8 | skip)
    all_goals go_enter Tryz.func158, Tryz.ntmps158
    all_goals go_wp2_with (go_at_call 133; refine (between_c _ _ _ _).mono ?_; rintro e w' ⟨rfl, rfl⟩)
    all_goals go_ret
    all_goals refine ⟨ret_i ?_, ext_by⟩
    all_goals (have hln := hln.out; try subst hln)
    all_goals (first | (simp_all [bodyErr]; done) | (simp_all [bodyErr]; omega))

set_option maxHeartbeats 400000 in
theorem refWorld_c (A : Option Addr) (n c : Nat) (home : Int) (l : List Body) (w : World) (hl : Bodies w A n l) :
    Calls Tryz.prog 122 #[.agg #[.slice A n c, .int .i64 home]] w fun e w' => e = .returned (.int .i64 (wldErr ⟨l, home⟩)) ∧ Ext w w' := by
  have hn := hl.le
  have hln := Lib.hid hl.len
  by_cases h8 : 1 ≤ n ∧ n ≤ 8
  · obtain ⟨h1, h8⟩ := h8
    have h0 : ((n : Int) == 0) = false := by simp; omega
    go_enter Tryz.func122, Tryz.ntmps122
    go_wp2_with fail
    go_loopw [3] (fun i wr => ∃ k : Nat, k ≤ n ∧ i = .int .i64 k ∧ Hid (bodiesErr (l.drop k) = bodiesErr l) ∧ Ext (w.alloc (.cells #[.slice A n c, .int .i64 home] 24)) wr) (fun i _ => n - (intOf i).toNat)
    case atStart => exact ⟨0, Nat.zero_le _, rfl, rfl, Ext.refl _⟩
    case round =>
      obtain ⟨k, hk, rfl, HI, hb⟩ := hrel
      obtain ⟨hcb, hfb, hzb⟩ := bcell hb
      simp only [World.size_alloc] at hzb
      by_cases hlt : k < n
      · obtain ⟨b, off, x, rfl, HD, hxm, hx⟩ := hl.one hlt
        obtain ⟨hx0, hx1, A', n', c', hx2, hx3⟩ := bodyAt.ext (Ext.trans (Ext.alloc0 _ _) hb) hx
        go_wp2_with fail
        refine (body_c _ _ _ _ _ x.track _ hx3).mono ?_
        rintro e w1 ⟨rfl, h1⟩
        obtain ⟨M, HM⟩ : ∃ M, bodyErr ⟨x.mu, x.radius, x.track⟩ = M := ⟨_, rfl⟩
        rw [HM]
        have HHM := Lib.hid HM; clear HM
        by_cases hp : M = 0
        · subst hp
          go_wp2_with fail
          go_roundw
          case rel => exact ⟨k + 1, by omega, by go_num, by have := HI.out; rw [HD.out] at this; simpa [Hid, bodiesErr, HHM.out] using this, ext_by⟩
          case measure => simp [intOf]; omega
        · have hp' : (M != 0) = true := by simpa using hp
          go_wp2_with fail
          go_ret
          refine ⟨ret_i ?_, ext_by⟩
          have := HI.out; rw [HD.out] at this; have h4 := hln.out; subst h4
          have h5 := HHM.out
          simp [bodiesErr, h5, hp] at this
          have h6 : l ≠ [] := by intro h; subst h; simp at h1
          simp [wldErr, ← this, hp, h6]; omega
      · have : k = n := by omega
        subst this
        go_wp2_with fail
        all_goals go_ret
        all_goals refine ⟨ret_i ?_, ext_by⟩
        all_goals (have h4 := hln.out; have := HI.out; subst h4; simp [bodiesErr] at this; have h6 : l ≠ [] := by (intro h; subst h; simp at h1))
        all_goals (simp [wldErr, ← this, h6]; omega)
  · go_enter Tryz.func122, Tryz.ntmps122
    go_wp2_with fail
    all_goals (first | (exfalso; simp at *; omega) | go_ret)
    all_goals refine ⟨ret_i ?_, ext_by⟩
    all_goals (have hln := hln.out; subst hln; simp_all [wldErr]; try omega)
end Go.Proofs.YtfniicgoeljmdaaGreat

namespace Go.Proofs.YtfniicgoeljmdaaGreat
open Go.RowKit

structure Sp where
  lo : Int
  hi : Int
def fitsP (n : Int) : Bool := within n (-1152921504606846976) 1152921504606846976
theorem fitsP_iff {n : Int} : fitsP n = true ↔ -1152921504606846976 ≤ n ∧ n ≤ 1152921504606846976 := by simp [fitsP, within]
def spErr (s : Sp) : Int := if fitsP s.lo && fitsP s.hi then (if s.hi < s.lo then 11 else 0) else 2
theorem spErr_ok {s : Sp} : spErr s = 0 ↔ -1152921504606846976 ≤ s.lo ∧ s.lo ≤ s.hi ∧ s.hi ≤ 1152921504606846976 := by
  unfold spErr
  cases h1 : fitsP s.lo <;> cases h2 : fitsP s.hi
  all_goals simp only [Bool.and_self, Bool.and_true, Bool.and_false, Bool.false_eq_true, if_false, if_true]
  all_goals simp only [fitsP, within, Bool.and_eq_true, Bool.and_eq_false_imp, decide_eq_true_eq, decide_eq_false_iff_not] at h1 h2
  · constructor
    · intro h; cases h
    · omega
  · constructor
    · intro h; cases h
    · omega
  · constructor
    · intro h; cases h
    · omega
  · by_cases h3 : s.hi < s.lo
    · rw [if_pos h3]
      constructor
      · intro h; cases h
      · omega
    · rw [if_neg h3]
      constructor
      · intro _; omega
      · intro _; rfl
def sp2Err (a b : Sp) : Int := if spErr a = 0 then spErr b else spErr a
structure SpR where
  s : Sp
  e : Int
def noSp (e : Int) : SpR := ⟨⟨0, 0⟩, e⟩
def endsM (lo hi : Int) : SpR := if fitsP lo && fitsP hi then ⟨⟨lo, hi⟩, 0⟩ else noSp 14
def addM (a b : Sp) : SpR := if sp2Err a b = 0 then endsM (a.lo + b.lo) (a.hi + b.hi) else noSp (sp2Err a b)
def subM (a b : Sp) : SpR := if sp2Err a b = 0 then endsM (a.lo - b.hi) (a.hi - b.lo) else noSp (sp2Err a b)
abbrev spRV (r : SpR) : Value := .tuple #[.agg #[.int .i64 r.s.lo, .int .i64 r.s.hi], .int .i64 r.e]
theorem ret_v {a b : Value} (h : a = b) : Ending.returned a = .returned b := by rw [h]

set_option maxHeartbeats 400000 in
theorem sp_within_c (a b c : Int) (w : World) :
    Calls Tryz.prog 241 #[.int .i64 a, .int .i64 b, .int .i64 c] w fun e w' => e = .returned (.bool (within a b c)) ∧ w = w' := by
  go_enter Tryz.func241, Tryz.ntmps241
  go_wp2
  all_goals go_ret
  all_goals exact ⟨ret_b (by simp [within, *] <;> omega), rfl⟩
set_option maxHeartbeats 400000 in
theorem spFits_c (a : Int) (w : World) :
    Calls Tryz.prog 261 #[.int .i64 a] w fun e w' => e = .returned (.bool (fitsP a)) ∧ w = w' := by
  go_enter Tryz.func261, Tryz.ntmps261
  go_wp2_with (go_at_call 241; refine (sp_within_c _ _ _ _).mono ?_; rintro e w' ⟨rfl, rfl⟩)
  go_ret
  exact ⟨rfl, rfl⟩
set_option maxHeartbeats 400000 in
theorem spCheck_c (lo hi : Int) (w : World) :
    Calls Tryz.prog 240 #[.agg #[.int .i64 lo, .int .i64 hi]] w fun e w' => e = .returned (.int .i64 (spErr ⟨lo, hi⟩)) ∧ Ext w w' := by
  unfold spErr
  dsimp only
  have H1 := Lib.hid fun W => spFits_c lo W
  have H2 := Lib.hid fun W => spFits_c hi W
  generalize fitsP lo = f1 at *
  generalize fitsP hi = f2 at *
  go_enter Tryz.func240, Tryz.ntmps240
  cases f1 <;> cases f2
  all_goals go_wp2_with fail
  all_goals refine (H1.out _).mono ?_
  all_goals rintro e _ ⟨rfl, rfl⟩
  all_goals go_wp2_with fail
  all_goals try (refine (H2.out _).mono ?_; rintro e _ ⟨rfl, rfl⟩; go_wp2_with fail)
  all_goals go_ret
  all_goals refine ⟨ret_i ?_, ext_by⟩
  all_goals simp <;> omega
set_option maxHeartbeats 400000 in
theorem spValid_c (al ah bl bh : Int) (w : World) :
    Calls Tryz.prog 221 #[.agg #[.int .i64 al, .int .i64 ah], .agg #[.int .i64 bl, .int .i64 bh]] w fun e w' => e = .returned (.int .i64 (sp2Err ⟨al, ah⟩ ⟨bl, bh⟩)) ∧ Ext w w' := by
  unfold sp2Err
  have H1 := Lib.hid fun W => spCheck_c al ah W
  have H2 := Lib.hid fun W => spCheck_c bl bh W
  generalize spErr ⟨al, ah⟩ = f1 at *
  generalize spErr ⟨bl, bh⟩ = f2 at *
  by_cases h : f1 = 0
  · subst h
    go_enter Tryz.func221, Tryz.ntmps221
    go_wp2_with fail
    refine (H1.out _).mono ?_
    rintro e w1 ⟨rfl, h1⟩
    obtain ⟨hc_w1, hf_w1, hz_w1⟩ := bcell h1
    simp only [World.size_alloc] at hz_w1
    go_wp2_with fail
    refine (H2.out _).mono ?_
    rintro e w2 ⟨rfl, h2⟩
    obtain ⟨hc_w2, hf_w2, hz_w2⟩ := bcell h2; (try simp only [szA] at hz_w2); (try have := wz0 w w2); (try have := wz1 w w2); (try have := wz2 w w2); (try have := wz3 w w2); (try have := wz4 w w2)
    go_wp2_with fail
    go_ret
    exact ⟨rfl, ext_by⟩
  · rw [if_neg h]
    go_enter Tryz.func221, Tryz.ntmps221
    go_wp2_with fail
    refine (H1.out _).mono ?_
    rintro e w1 ⟨rfl, h1⟩
    obtain ⟨hc_w1, hf_w1, hz_w1⟩ := bcell h1
    go_wp2_with fail
    go_ret
    exact ⟨rfl, ext_by⟩
set_option maxHeartbeats 400000 in
theorem ends_c (lo hi : Int) (w : World) :
    Calls Tryz.prog 248 #[.int .i64 lo, .int .i64 hi] w fun e w' => e = .returned (spRV (endsM lo hi)) ∧ Ext w w' := by
  unfold endsM noSp
  have H1 := Lib.hid fun W => spFits_c lo W
  have H2 := Lib.hid fun W => spFits_c hi W
  generalize fitsP lo = f1 at *
  generalize fitsP hi = f2 at *
  go_enter Tryz.func248, Tryz.ntmps248
  cases f1 <;> cases f2
  all_goals go_wp2_with fail
  all_goals refine (H1.out _).mono ?_
  all_goals rintro e _ ⟨rfl, rfl⟩
  all_goals go_wp2_with fail
  all_goals try (refine (H2.out _).mono ?_; rintro e _ ⟨rfl, rfl⟩; go_wp2_with fail)
  all_goals ((try simp only [Exit.inBlock, Exit.then]); apply bodyPost_ret; (focus (simp only [results, Tryz.results248]; go_simp; try rfl)); rfl)
  all_goals exact ⟨rfl, ext_by⟩
set_option maxHeartbeats 400000 in
theorem Add_c (al ah bl bh : Int) (w : World) :
    Calls Tryz.prog 227 #[.agg #[.int .i64 al, .int .i64 ah], .agg #[.int .i64 bl, .int .i64 bh]] w fun e w' => e = .returned (spRV (addM ⟨al, ah⟩ ⟨bl, bh⟩)) ∧ Ext w w' := by
  unfold addM
  have H1 := Lib.hid fun W => spValid_c al ah bl bh W
  have H2 := Lib.hid fun W => ends_c (al + bl) (ah + bh) W
  dsimp only
  by_cases h : sp2Err ⟨al, ah⟩ ⟨bl, bh⟩ = 0
  · have hb : (-1152921504606846976 ≤ al ∧ al ≤ ah ∧ ah ≤ 1152921504606846976) ∧ -1152921504606846976 ≤ bl ∧ bl ≤ bh ∧ bh ≤ 1152921504606846976 := by
      unfold sp2Err at h
      by_cases h1 : spErr ⟨al, ah⟩ = 0
      · rw [if_pos h1] at h
        exact ⟨spErr_ok.1 h1, spErr_ok.1 h⟩
      · rw [if_neg h1] at h
        exact absurd h h1
    obtain ⟨⟨h1, h2, h3⟩, h4, h5, h6⟩ := hb
    rw [h] at H1
    rw [if_pos h]
    generalize endsM (al + bl) (ah + bh) = R at *
    obtain ⟨⟨rl, rh⟩, re⟩ := R
    clear h
    go_enter Tryz.func227, Tryz.ntmps227
    go_wp2_with fail
    refine (H1.out _).mono ?_
    rintro e w1 ⟨rfl, h1⟩
    obtain ⟨hc_w1, hf_w1, hz_w1⟩ := bcell h1; (try simp only [szA] at hz_w1); (try have := wz0 w w1); (try have := wz1 w w1); (try have := wz2 w w1); (try have := wz3 w w1); (try have := wz4 w w1)
    go_wp2_with fail
    refine (H2.out _).mono ?_
    rintro e w2 ⟨rfl, h2⟩
    obtain ⟨hc_w2, hf_w2, hz_w2⟩ := bcell h2; (try simp only [szA] at hz_w2); (try have := wz0 w w2); (try have := wz1 w w2); (try have := wz2 w w2); (try have := wz3 w w2); (try have := wz4 w w2)
    go_wp2_with fail
    (try simp only [Exit.inBlock, Exit.then]); apply bodyPost_ret; (focus (simp only [results, Tryz.results227]; go_simp; try rfl)); rfl
    exact ⟨rfl, ext_by⟩
  · rw [if_neg h]
    generalize sp2Err ⟨al, ah⟩ ⟨bl, bh⟩ = f1 at *
    go_enter Tryz.func227, Tryz.ntmps227
    go_wp2_with fail
    refine (H1.out _).mono ?_
    rintro e w1 ⟨rfl, h1⟩
    obtain ⟨hc_w1, hf_w1, hz_w1⟩ := bcell h1; (try simp only [szA] at hz_w1); (try have := wz0 w w1); (try have := wz1 w w1); (try have := wz2 w w1); (try have := wz3 w w1); (try have := wz4 w w1)
    go_wp2_with fail
    (try simp only [Exit.inBlock, Exit.then]); apply bodyPost_ret; (focus (simp only [results, Tryz.results227]; go_simp; try rfl)); rfl
    exact ⟨rfl, ext_by⟩
set_option maxHeartbeats 400000 in
theorem Sub_c (al ah bl bh : Int) (w : World) :
    Calls Tryz.prog 264 #[.agg #[.int .i64 al, .int .i64 ah], .agg #[.int .i64 bl, .int .i64 bh]] w fun e w' => e = .returned (spRV (subM ⟨al, ah⟩ ⟨bl, bh⟩)) ∧ Ext w w' := by
  unfold subM
  have H1 := Lib.hid fun W => spValid_c al ah bl bh W
  have H2 := Lib.hid fun W => ends_c (al - bh) (ah - bl) W
  dsimp only
  by_cases h : sp2Err ⟨al, ah⟩ ⟨bl, bh⟩ = 0
  · have hb : (-1152921504606846976 ≤ al ∧ al ≤ ah ∧ ah ≤ 1152921504606846976) ∧ -1152921504606846976 ≤ bl ∧ bl ≤ bh ∧ bh ≤ 1152921504606846976 := by
      unfold sp2Err at h
      by_cases h1 : spErr ⟨al, ah⟩ = 0
      · rw [if_pos h1] at h
        exact ⟨spErr_ok.1 h1, spErr_ok.1 h⟩
      · rw [if_neg h1] at h
        exact absurd h h1
    obtain ⟨⟨h1, h2, h3⟩, h4, h5, h6⟩ := hb
    rw [h] at H1
    rw [if_pos h]
    generalize endsM (al - bh) (ah - bl) = R at *
    obtain ⟨⟨rl, rh⟩, re⟩ := R
    clear h
    go_enter Tryz.func264, Tryz.ntmps264
    go_wp2_with fail
    refine (H1.out _).mono ?_
    rintro e w1 ⟨rfl, h1⟩
    obtain ⟨hc_w1, hf_w1, hz_w1⟩ := bcell h1; (try simp only [szA] at hz_w1); (try have := wz0 w w1); (try have := wz1 w w1); (try have := wz2 w w1); (try have := wz3 w w1); (try have := wz4 w w1)
    go_wp2_with fail
    refine (H2.out _).mono ?_
    rintro e w2 ⟨rfl, h2⟩
    obtain ⟨hc_w2, hf_w2, hz_w2⟩ := bcell h2; (try simp only [szA] at hz_w2); (try have := wz0 w w2); (try have := wz1 w w2); (try have := wz2 w w2); (try have := wz3 w w2); (try have := wz4 w w2)
    go_wp2_with fail
    (try simp only [Exit.inBlock, Exit.then]); apply bodyPost_ret; (focus (simp only [results, Tryz.results264]; go_simp; try rfl)); rfl
    exact ⟨rfl, ext_by⟩
  · rw [if_neg h]
    generalize sp2Err ⟨al, ah⟩ ⟨bl, bh⟩ = f1 at *
    go_enter Tryz.func264, Tryz.ntmps264
    go_wp2_with fail
    refine (H1.out _).mono ?_
    rintro e w1 ⟨rfl, h1⟩
    obtain ⟨hc_w1, hf_w1, hz_w1⟩ := bcell h1; (try simp only [szA] at hz_w1); (try have := wz0 w w1); (try have := wz1 w w1); (try have := wz2 w w1); (try have := wz3 w w1); (try have := wz4 w w1)
    go_wp2_with fail
    (try simp only [Exit.inBlock, Exit.then]); apply bodyPost_ret; (focus (simp only [results, Tryz.results264]; go_simp; try rfl)); rfl
    exact ⟨rfl, ext_by⟩
end Go.Proofs.YtfniicgoeljmdaaGreat

namespace Go.Proofs.YtfniicgoeljmdaaGreat
open Go.RowKit

def stnsErr : List Stn → Int → Int
  | [], _ => 0
  | x :: r, last => if x.id ≤ last then 11 else if !near x.off 1048576 then 2 else stnsErr r x.id
def catsErr : List Cat → Int → Int
  | [], _ => 0
  | x :: r, last => if x.version ≤ last then 11 else if x.lo < -500000 ∨ x.hi < x.lo ∨ 500000 < x.hi then 2 else catsErr r x.version
def skyErr (s : Sky) : Int :=
  if wldErr s.world ≠ 0 then wldErr s.world
  else if 16 < s.stations.length then 8
  else if stnsErr s.stations 0 ≠ 0 then stnsErr s.stations 0
  else if 8 < s.catalogs.length then 8
  else catsErr s.catalogs 0

set_option maxHeartbeats 1000000 in
theorem Check_c (A1 : Option Addr) (n1 c1 : Nat) (home : Int) (A2 : Option Addr) (n2 c2 : Nat) (A3 : Option Addr) (n3 c3 : Nat) (s : Sky) (w : World) (hs : IsSky w A1 n1 home A2 n2 A3 n3 s) :
    Calls Tryz.prog 103 #[.agg #[.slice A1 n1 c1, .int .i64 home, .slice A2 n2 c2, .slice A3 n3 c3]] w fun e w' => e = .returned (.int .i64 (skyErr s)) ∧ Ext w w' := by
  have hl1 := hs.bodies
  have hl2 := hs.stations
  have hl3 := hs.catalogs
  have hn2 := hl2.le
  have hn3 := hl3.le
  have hln2 := Lib.hid hl2.len
  have hln3 := Lib.hid hl3.len
  obtain ⟨M, HM⟩ : ∃ M, wldErr ⟨s.world.bodies, home⟩ = M := ⟨_, rfl⟩
  have HM2 : wldErr s.world = M := by rw [← HM, hs.home]
  have HHM := Lib.hid HM; have HHM2 := Lib.hid HM2; clear HM HM2
  obtain ⟨l2, hl2e⟩ : ∃ l, l = s.stations := ⟨_, rfl⟩
  obtain ⟨l3, hl3e⟩ : ∃ l, l = s.catalogs := ⟨_, rfl⟩
  have HS : skyErr s = if M ≠ 0 then M else if 16 < l2.length then 8 else if stnsErr l2 0 ≠ 0 then stnsErr l2 0 else if 8 < l3.length then 8 else catsErr l3 0 := by
    rw [skyErr, HHM2.out, ← hl2e, ← hl3e]
  have HHS := Lib.hid HS; clear HS
  rw [← hl2e] at hl2 hln2
  rw [← hl3e] at hl3 hln3
  clear hl2e hl3e hs
  by_cases hM : M = 0
  · subst hM
    by_cases h16 : n2 ≤ 16
    · go_enter Tryz.func103, Tryz.ntmps103
      go_wp2_with fail
      refine (CheckWorld_c _ _ _ _ s.world.bodies _ (Bodies.ext (Ext.alloc0 _ _) hl1)).mono ?_
      rw [HHM.out]
      rintro e w1 ⟨rfl, h1⟩; obtain ⟨hc_w1, hf_w1, hz_w1⟩ := bcell h1; (try simp only [szA] at hz_w1); have : w.heap.size < w1.heap.size := (by omega)
      go_wp2_with fail
      go_loopw [4, 22] (fun last i wr => ∃ (k : Nat) (m : Int), k ≤ n2 ∧ i = .int .i64 k ∧ last = .int .i64 m ∧ Hid (stnsErr (l2.drop k) m = stnsErr l2 0) ∧ Ext w1 wr) (fun _ i _ => n2 - (intOf i).toNat)
      case atStart => exact ⟨0, 0, Nat.zero_le _, rfl, rfl, rfl, Ext.refl _⟩
      case round =>
        obtain ⟨k, m, hk, rfl, rfl, HI, hb⟩ := hrel
        obtain ⟨hcb, hfb, hzb⟩ := bcell hb
        by_cases hlt : k < n2
        · obtain ⟨b, off, x, rfl, HD, hxm, hx⟩ := hl2.one hlt
          obtain ⟨hx0, hx1, hx2⟩ := stnAt.ext (Ext.trans ext_by hb) hx
          by_cases hid : x.id ≤ m
          · go_wp2_with fail
            go_ret
            refine ⟨ret_i ?_, ext_by⟩
            have hi := HI.out; rw [HD.out] at hi; have h4 := hln2.out; have h5 := HHS.out
            rw [stnsErr, if_pos hid] at hi
            rw [h5, ← hi, if_neg (by simp), if_neg (by omega), if_pos (by decide)]
          · have hid' : m < x.id := by omega
            have hfin : Hid (near x.off 1048576 = false → skyErr s = 2) := by
              intro h7
              have hi := HI.out; rw [HD.out] at hi; have h4 := hln2.out; have h5 := HHS.out
              rw [stnsErr, if_neg hid, h7, if_pos (by decide)] at hi
              rw [h5, ← hi, if_neg (by simp), if_neg (by omega), if_pos (by decide)]
            have hgo : Hid (near x.off 1048576 = true → stnsErr (List.drop (k + 1) l2) x.id = stnsErr l2 0) := by
              intro h7
              have hi := HI.out; rw [HD.out] at hi
              rw [stnsErr, if_neg hid, h7, if_neg (by decide)] at hi
              exact hi
            cases hN : near ⟨x.off.x, x.off.y⟩ 1048576
            · have HN := Lib.hid hN; clear hN
              go_wp2_with fail
              refine (near_c _ _ _ _ (by omega) (by omega)).mono ?_
              rw [HN.out]
              rintro e w2 ⟨rfl, h2⟩; obtain ⟨hc_w2, hf_w2, hz_w2⟩ := bcell h2; (try simp only [szA] at hz_w2)
              go_wp2_with fail
              go_ret
              exact ⟨ret_i (hfin.out HN.out).symm, ext_by⟩
            · have HN := Lib.hid hN; clear hN
              go_wp2_with fail
              refine (near_c _ _ _ _ (by omega) (by omega)).mono ?_
              rw [HN.out]
              rintro e w2 ⟨rfl, h2⟩; obtain ⟨hc_w2, hf_w2, hz_w2⟩ := bcell h2; (try simp only [szA] at hz_w2)
              go_wp2_with fail
              go_roundw
              case rel => exact ⟨k + 1, x.id, by omega, by go_num, rfl, hgo.out HN.out, ext_by⟩
              case measure => simp [intOf]; omega

        · have : k = n2 := by omega
          subst this
          have hi := HI.out; rw [hln2.out, List.drop_length] at hi
          have Hi2 := Lib.hid hi; clear hi
          have hwr0 : w.heap.size < wr.heap.size := by omega
          by_cases h8 : n3 ≤ 8
          · go_wp2_with fail
            go_loopw [4, 46] (fun last i wr2 => ∃ (j : Nat) (m2 : Int), j ≤ n3 ∧ i = .int .i64 j ∧ last = .int .i64 m2 ∧ Hid (catsErr (l3.drop j) m2 = catsErr l3 0) ∧ Ext wr wr2) (fun _ i _ => n3 - (intOf i).toNat)
            case atStart => exact ⟨0, 0, Nat.zero_le _, rfl, rfl, rfl, Ext.refl _⟩
            case round =>
              obtain ⟨j, m2, hj, rfl, rfl, HJ, hb2⟩ := hrel
              obtain ⟨hcb2, hfb2, hzb2⟩ := bcell hb2
              by_cases hlt2 : j < n3
              · obtain ⟨b, off, x, rfl, HD, hxm, hx⟩ := hl3.one hlt2
                obtain ⟨hx0, hx1, hx2⟩ := catAt.ext (Ext.trans ext_by hb2) hx
                by_cases hid : x.version ≤ m2
                · go_wp2_with fail
                  go_ret
                  refine ⟨ret_i ?_, ext_by⟩
                  have hi := HJ.out; rw [HD.out] at hi; have h4 := hln2.out; have h5 := HHS.out; have h6 := Hi2.out; have h7 := hln3.out
                  rw [catsErr, if_pos hid] at hi
                  simp only [stnsErr] at h6
                  rw [h5, ← h6, ← hi, if_neg (by simp), if_neg (by omega), if_neg (by decide), if_neg (by omega)]
                · have hid' : m2 < x.version := by omega
                  by_cases ha : x.lo < -500000 ∨ x.hi < x.lo ∨ 500000 < x.hi
                  · have hi := HJ.out; rw [HD.out] at hi; rw [catsErr, if_neg hid, if_pos ha] at hi
                    have Hi := Lib.hid hi; clear hi
                    rcases ha with ha | ha | ha
                    all_goals go_wp2_with fail
                    all_goals go_ret
                    all_goals refine ⟨ret_i ?_, ext_by⟩
                    all_goals have h4 := hln2.out; have h5 := HHS.out; have h6 := Hi2.out; have h7 := hln3.out; have hi := Hi.out
                    all_goals simp only [stnsErr] at h6
                    all_goals rw [h5, ← h6, ← hi, if_neg (by simp), if_neg (by omega), if_neg (by decide), if_neg (by omega)]
                  · have hi := HJ.out; rw [HD.out] at hi; rw [catsErr, if_neg hid, if_neg ha] at hi
                    have Hi := Lib.hid hi; clear hi
                    have ha1 : -500000 ≤ x.lo := by omega
                    have ha2 : x.lo ≤ x.hi := by omega
                    have ha3 : x.hi ≤ 500000 := by omega
                    clear ha
                    go_wp2_with fail
                    go_roundw
                    case rel => exact ⟨j + 1, x.version, by omega, by go_num, rfl, Hi, ext_by⟩
                    case measure => simp [intOf]; omega
              · have : j = n3 := by omega
                subst this
                go_wp2_with fail
                go_ret
                refine ⟨ret_i ?_, ext_by⟩
                have hi := HJ.out; have h4 := hln2.out; have h5 := HHS.out; have h6 := Hi2.out; have h7 := hln3.out
                rw [h7, List.drop_length] at hi
                simp only [stnsErr, catsErr] at h6 hi
                rw [h5, ← h6, ← hi, if_neg (by simp), if_neg (by omega), if_neg (by decide), if_neg (by omega)]
          · have h8' : 8 < n3 := by omega
            go_wp2_with fail
            go_ret
            refine ⟨ret_i ?_, ext_by⟩
            have h4 := hln2.out; have h5 := HHS.out; have h6 := Hi2.out; have h7 := hln3.out
            simp only [stnsErr] at h6
            rw [h5, ← h6, if_neg (by simp), if_neg (by omega), if_neg (by decide), if_pos (by omega)]
    · have h16' : 16 < n2 := by omega
      go_enter Tryz.func103, Tryz.ntmps103
      go_wp2_with fail
      refine (CheckWorld_c _ _ _ _ s.world.bodies _ (Bodies.ext (Ext.alloc0 _ _) hl1)).mono ?_
      rw [HHM.out]
      rintro e w1 ⟨rfl, h1⟩; obtain ⟨hc_w1, hf_w1, hz_w1⟩ := bcell h1; (try simp only [szA] at hz_w1); have : w.heap.size < w1.heap.size := (by omega)
      go_wp2_with fail
      go_ret
      refine ⟨ret_i ?_, ext_by⟩
      have h4 := hln2.out; have h5 := HHS.out
      rw [h5, if_neg (by simp), if_pos (by omega)]
  · have hM' : (M != 0) = true := by simpa using hM
    go_enter Tryz.func103, Tryz.ntmps103
    go_wp2_with fail
    refine (CheckWorld_c _ _ _ _ s.world.bodies _ (Bodies.ext (Ext.alloc0 _ _) hl1)).mono ?_
    rw [HHM.out]
    rintro e w1 ⟨rfl, h1⟩; obtain ⟨hc_w1, hf_w1, hz_w1⟩ := bcell h1; (try simp only [szA] at hz_w1); have : w.heap.size < w1.heap.size := (by omega)
    go_wp2_with fail
    go_ret
    refine ⟨ret_i ?_, ext_by⟩
    have h5 := HHS.out
    rw [h5, if_pos hM]


set_option maxHeartbeats 1000000 in
theorem refCheck_c (A1 : Option Addr) (n1 c1 : Nat) (home : Int) (A2 : Option Addr) (n2 c2 : Nat) (A3 : Option Addr) (n3 c3 : Nat) (s : Sky) (w : World) (hs : IsSky w A1 n1 home A2 n2 A3 n3 s) :
    Calls Tryz.prog 112 #[.agg #[.slice A1 n1 c1, .int .i64 home, .slice A2 n2 c2, .slice A3 n3 c3]] w fun e w' => e = .returned (.int .i64 (skyErr s)) ∧ Ext w w' := by
  have hl1 := hs.bodies
  have hl2 := hs.stations
  have hl3 := hs.catalogs
  have hn2 := hl2.le
  have hn3 := hl3.le
  have hln2 := Lib.hid hl2.len
  have hln3 := Lib.hid hl3.len
  obtain ⟨M, HM⟩ : ∃ M, wldErr ⟨s.world.bodies, home⟩ = M := ⟨_, rfl⟩
  have HM2 : wldErr s.world = M := by rw [← HM, hs.home]
  have HHM := Lib.hid HM; have HHM2 := Lib.hid HM2; clear HM HM2
  obtain ⟨l2, hl2e⟩ : ∃ l, l = s.stations := ⟨_, rfl⟩
  obtain ⟨l3, hl3e⟩ : ∃ l, l = s.catalogs := ⟨_, rfl⟩
  have HS : skyErr s = if M ≠ 0 then M else if 16 < l2.length then 8 else if stnsErr l2 0 ≠ 0 then stnsErr l2 0 else if 8 < l3.length then 8 else catsErr l3 0 := by
    rw [skyErr, HHM2.out, ← hl2e, ← hl3e]
  have HHS := Lib.hid HS; clear HS
  rw [← hl2e] at hl2 hln2
  rw [← hl3e] at hl3 hln3
  clear hl2e hl3e hs
  by_cases hM : M = 0
  · subst hM
    by_cases h16 : n2 ≤ 16
    · go_enter Tryz.func112, Tryz.ntmps112
      go_wp2_with fail
      refine (refWorld_c _ _ _ _ s.world.bodies _ (Bodies.ext (Ext.alloc0 _ _) hl1)).mono ?_
      rw [HHM.out]
      rintro e w1 ⟨rfl, h1⟩; obtain ⟨hc_w1, hf_w1, hz_w1⟩ := bcell h1; (try simp only [szA] at hz_w1); have : w.heap.size < w1.heap.size := (by omega)
      go_wp2_with fail
      go_loopw [4, 5] (fun last i wr => ∃ (k : Nat) (m : Int), k ≤ n2 ∧ i = .int .i64 k ∧ last = .int .i64 m ∧ Hid (stnsErr (l2.drop k) m = stnsErr l2 0) ∧ Ext w1 wr) (fun _ i _ => n2 - (intOf i).toNat)
      case atStart => exact ⟨0, 0, Nat.zero_le _, rfl, rfl, rfl, Ext.refl _⟩
      case round =>
        obtain ⟨k, m, hk, rfl, rfl, HI, hb⟩ := hrel
        obtain ⟨hcb, hfb, hzb⟩ := bcell hb
        by_cases hlt : k < n2
        · obtain ⟨b, off, x, rfl, HD, hxm, hx⟩ := hl2.one hlt
          obtain ⟨hx0, hx1, hx2⟩ := stnAt.ext (Ext.trans ext_by hb) hx
          by_cases hid : x.id ≤ m
          · go_wp2_with fail
            go_ret
            refine ⟨ret_i ?_, ext_by⟩
            have hi := HI.out; rw [HD.out] at hi; have h4 := hln2.out; have h5 := HHS.out
            rw [stnsErr, if_pos hid] at hi
            rw [h5, ← hi, if_neg (by simp), if_neg (by omega), if_pos (by decide)]
          · have hid' : m < x.id := by omega
            have hfin : Hid (near x.off 1048576 = false → skyErr s = 2) := by
              intro h7
              have hi := HI.out; rw [HD.out] at hi; have h4 := hln2.out; have h5 := HHS.out
              rw [stnsErr, if_neg hid, h7, if_pos (by decide)] at hi
              rw [h5, ← hi, if_neg (by simp), if_neg (by omega), if_pos (by decide)]
            have hgo : Hid (near x.off 1048576 = true → stnsErr (List.drop (k + 1) l2) x.id = stnsErr l2 0) := by
              intro h7
              have hi := HI.out; rw [HD.out] at hi
              rw [stnsErr, if_neg hid, h7, if_neg (by decide)] at hi
              exact hi
            cases hX : within x.off.x (-1048576) 1048576
            · have h7 : Hid (near x.off 1048576 = false) := by simp [Hid, near, hX]
              go_wp2_with (go_at_call 133; refine (between_c _ _ _ _).mono ?_; rintro e w1 ⟨rfl, rfl⟩)
              go_ret
              exact ⟨ret_i (hfin.out h7.out).symm, ext_by⟩
            cases hY : within x.off.y (-1048576) 1048576
            · have h7 : Hid (near x.off 1048576 = false) := by simp [Hid, near, hY]
              go_wp2_with (go_at_call 133; refine (between_c _ _ _ _).mono ?_; rintro e w1 ⟨rfl, rfl⟩)
              go_ret
              exact ⟨ret_i (hfin.out h7.out).symm, ext_by⟩
            · have h7 : Hid (near x.off 1048576 = true) := by simp [Hid, near, hX, hY]
              go_wp2_with (go_at_call 133; refine (between_c _ _ _ _).mono ?_; rintro e w1 ⟨rfl, rfl⟩)
              go_roundw
              case rel => exact ⟨k + 1, x.id, by omega, by go_num, rfl, hgo.out h7.out, ext_by⟩
              case measure => simp [intOf]; omega

        · have : k = n2 := by omega
          subst this
          have hi := HI.out; rw [hln2.out, List.drop_length] at hi
          have Hi2 := Lib.hid hi; clear hi
          have hwr0 : w.heap.size < wr.heap.size := by omega
          by_cases h8 : n3 ≤ 8
          · go_wp2_with fail
            go_loopw [4, 7] (fun last i wr2 => ∃ (j : Nat) (m2 : Int), j ≤ n3 ∧ i = .int .i64 j ∧ last = .int .i64 m2 ∧ Hid (catsErr (l3.drop j) m2 = catsErr l3 0) ∧ Ext wr wr2) (fun _ i _ => n3 - (intOf i).toNat)
            case atStart => exact ⟨0, 0, Nat.zero_le _, rfl, rfl, rfl, Ext.refl _⟩
            case round =>
              obtain ⟨j, m2, hj, rfl, rfl, HJ, hb2⟩ := hrel
              obtain ⟨hcb2, hfb2, hzb2⟩ := bcell hb2
              by_cases hlt2 : j < n3
              · obtain ⟨b, off, x, rfl, HD, hxm, hx⟩ := hl3.one hlt2
                obtain ⟨hx0, hx1, hx2⟩ := catAt.ext (Ext.trans ext_by hb2) hx
                by_cases hid : x.version ≤ m2
                · go_wp2_with fail
                  go_ret
                  refine ⟨ret_i ?_, ext_by⟩
                  have hi := HJ.out; rw [HD.out] at hi; have h4 := hln2.out; have h5 := HHS.out; have h6 := Hi2.out; have h7 := hln3.out
                  rw [catsErr, if_pos hid] at hi
                  simp only [stnsErr] at h6
                  rw [h5, ← h6, ← hi, if_neg (by simp), if_neg (by omega), if_neg (by decide), if_neg (by omega)]
                · have hid' : m2 < x.version := by omega
                  by_cases ha : x.lo < -500000 ∨ x.hi < x.lo ∨ 500000 < x.hi
                  · have hi := HJ.out; rw [HD.out] at hi; rw [catsErr, if_neg hid, if_pos ha] at hi
                    have Hi := Lib.hid hi; clear hi
                    rcases ha with ha | ha | ha
                    all_goals go_wp2_with fail
                    all_goals go_ret
                    all_goals refine ⟨ret_i ?_, ext_by⟩
                    all_goals have h4 := hln2.out; have h5 := HHS.out; have h6 := Hi2.out; have h7 := hln3.out; have hi := Hi.out
                    all_goals simp only [stnsErr] at h6
                    all_goals rw [h5, ← h6, ← hi, if_neg (by simp), if_neg (by omega), if_neg (by decide), if_neg (by omega)]
                  · have hi := HJ.out; rw [HD.out] at hi; rw [catsErr, if_neg hid, if_neg ha] at hi
                    have Hi := Lib.hid hi; clear hi
                    have ha1 : -500000 ≤ x.lo := by omega
                    have ha2 : x.lo ≤ x.hi := by omega
                    have ha3 : x.hi ≤ 500000 := by omega
                    clear ha
                    go_wp2_with fail
                    go_roundw
                    case rel => exact ⟨j + 1, x.version, by omega, by go_num, rfl, Hi, ext_by⟩
                    case measure => simp [intOf]; omega
              · have : j = n3 := by omega
                subst this
                go_wp2_with fail
                go_ret
                refine ⟨ret_i ?_, ext_by⟩
                have hi := HJ.out; have h4 := hln2.out; have h5 := HHS.out; have h6 := Hi2.out; have h7 := hln3.out
                rw [h7, List.drop_length] at hi
                simp only [stnsErr, catsErr] at h6 hi
                rw [h5, ← h6, ← hi, if_neg (by simp), if_neg (by omega), if_neg (by decide), if_neg (by omega)]
          · have h8' : 8 < n3 := by omega
            go_wp2_with fail
            go_ret
            refine ⟨ret_i ?_, ext_by⟩
            have h4 := hln2.out; have h5 := HHS.out; have h6 := Hi2.out; have h7 := hln3.out
            simp only [stnsErr] at h6
            rw [h5, ← h6, if_neg (by simp), if_neg (by omega), if_neg (by decide), if_pos (by omega)]
    · have h16' : 16 < n2 := by omega
      go_enter Tryz.func112, Tryz.ntmps112
      go_wp2_with fail
      refine (refWorld_c _ _ _ _ s.world.bodies _ (Bodies.ext (Ext.alloc0 _ _) hl1)).mono ?_
      rw [HHM.out]
      rintro e w1 ⟨rfl, h1⟩; obtain ⟨hc_w1, hf_w1, hz_w1⟩ := bcell h1; (try simp only [szA] at hz_w1); have : w.heap.size < w1.heap.size := (by omega)
      go_wp2_with fail
      go_ret
      refine ⟨ret_i ?_, ext_by⟩
      have h4 := hln2.out; have h5 := HHS.out
      rw [h5, if_neg (by simp), if_pos (by omega)]
  · have hM' : (M != 0) = true := by simpa using hM
    go_enter Tryz.func112, Tryz.ntmps112
    go_wp2_with fail
    refine (refWorld_c _ _ _ _ s.world.bodies _ (Bodies.ext (Ext.alloc0 _ _) hl1)).mono ?_
    rw [HHM.out]
    rintro e w1 ⟨rfl, h1⟩; obtain ⟨hc_w1, hf_w1, hz_w1⟩ := bcell h1; (try simp only [szA] at hz_w1); have : w.heap.size < w1.heap.size := (by omega)
    go_wp2_with fail
    go_ret
    refine ⟨ret_i ?_, ext_by⟩
    have h5 := HHS.out
    rw [h5, if_pos hM]

end Go.Proofs.YtfniicgoeljmdaaGreat

namespace Go.Proofs.YtfniicgoeljmdaaGreat
open Go.RowKit

theorem idx_cases {α : Type} (p : α → Bool) (l : List α) : (idxFrom p l 0 = -1 ∧ l.find? p = none) ∨ ∃ (i : Nat) (x : α), i < l.length ∧ idxFrom p l 0 = i ∧ l[i]? = some x ∧ l.find? p = some x := by
  have h : ∀ (l : List α) (k : Nat), (idxFrom p l k = -1 ∧ l.find? p = none) ∨ ∃ (i : Nat) (x : α), i < l.length ∧ idxFrom p l k = ((k + i : Nat) : Int) ∧ l[i]? = some x ∧ l.find? p = some x := by
    intro l
    induction l with
    | nil => intro k; exact .inl ⟨rfl, rfl⟩
    | cons y r ih =>
      intro k
      cases hp : p y
      · rcases ih (k + 1) with ⟨h1, h2⟩ | ⟨i, x, h1, h2, h3, h4⟩
        · exact .inl ⟨by simp [idxFrom, hp, h1], by simp [hp, h2]⟩
        · exact .inr ⟨i + 1, x, by simp; omega, by simp only [idxFrom, hp]; simp [h2]; omega, by simpa using h3, by simp [hp, h4]⟩
      · exact .inr ⟨0, y, by simp, by simp [idxFrom, hp], rfl, by simp [hp]⟩
  rcases h l 0 with h | ⟨i, x, h1, h2, h3, h4⟩
  · exact .inl h
  · exact .inr ⟨i, x, h1, by simpa using h2, h3, h4⟩

theorem SlR.get {α : Type} {sz : Nat} {R : α → Nat → Nat → Prop} {A : Option Addr} {n : Nat} {l : List α} (h : SlR sz R A n l) {i : Nat} {x : α} (hx : l[i]? = some x) :
    i < n ∧ ∃ b off, A = some ⟨b, off, none⟩ ∧ R x b (off + i * sz) := by
  obtain ⟨hi, rfl⟩ := List.getElem?_eq_some_iff.1 hx
  obtain ⟨b, off, hA, hc⟩ := h.at_ (by omega)
  exact ⟨by rw [h.len]; exact hi, b, off, hA, hc i hi⟩


set_option maxHeartbeats 400000 in
theorem idxStn_c (A : Option Addr) (n c : Nat) (l : List Stn) (fid : Nat) (cap : Array Value) (p : Stn → Bool) (w : World) (hl : Stns w A n l)
    (hcall : ∀ (xs : Array Value) (W : World), (callFunc fid xs).run Tryz.prog W = .ok (.enter fid xs) W)
    (hf : ∀ x ∈ l, ∀ W, Ext w W → Calls Tryz.prog fid (#[.agg #[.int .i64 x.id, .int .i64 x.off.x, .int .i64 x.off.y]] ++ cap) W fun e w' => e = .returned (.bool (p x)) ∧ Ext W w') :
    Calls Tryz.prog 189 #[.slice A n c, .func (.func fid) #[] cap] w fun e w' => e = .returned (.int .i64 (idxFrom p l 0)) ∧ Ext w w' := by
  have hn := hl.le
  have Hf := Lib.hid hf
  clear hf
  go_enter Tryz.func189, Tryz.ntmps189
  go_wp2_with fail
  go_loopw [8] (fun i wr => ∃ k : Nat, k ≤ n ∧ i = .int .i64 k ∧ Hid (idxFrom p (l.drop k) k = idxFrom p l 0) ∧ Ext w wr) (fun i _ => n - (intOf i).toNat)
  case atStart => exact ⟨0, Nat.zero_le _, rfl, rfl, Ext.refl _⟩
  case round =>
    obtain ⟨k, hk, rfl, HI, hb⟩ := hrel
    by_cases hlt : k < n
    · obtain ⟨b, off, x, rfl, HD, hxm, hx⟩ := hl.one hlt
      obtain ⟨hx0, hx1, hx2⟩ := stnAt.ext hb hx
      go_wp2_with fail
      refine (Hf.out x hxm _ hb).mono ?_
      rintro e w1 ⟨rfl, h1⟩
      cases hp : p x
      · go_wp2_with fail
        go_roundw
        case rel => exact ⟨k + 1, by omega, by go_num, by have := HI.out; rw [HD.out] at this; simpa [Hid, idxFrom, hp] using this, hb.trans h1⟩
        case measure => simp [intOf]; omega
      · go_wp2_with fail
        go_ret
        exact ⟨ret_i (by have := HI.out; rw [HD.out] at this; simpa [idxFrom, hp] using this), hb.trans h1⟩
    · have : k = l.length := by have := hl.len; omega
      subst this
      go_wp2_with fail
      go_ret
      refine ⟨ret_i ?_, hb⟩
      have := HI.out
      simpa [idxFrom] using this


set_option maxHeartbeats 400000 in
theorem idxCat_c (A : Option Addr) (n c : Nat) (l : List Cat) (fid : Nat) (cap : Array Value) (p : Cat → Bool) (w : World) (hl : Cats w A n l)
    (hcall : ∀ (xs : Array Value) (W : World), (callFunc fid xs).run Tryz.prog W = .ok (.enter fid xs) W)
    (hf : ∀ x ∈ l, ∀ W, Ext w W → Calls Tryz.prog fid (#[.agg #[.int .i64 x.version, .int .i64 x.lo, .int .i64 x.hi]] ++ cap) W fun e w' => e = .returned (.bool (p x)) ∧ Ext W w') :
    Calls Tryz.prog 191 #[.slice A n c, .func (.func fid) #[] cap] w fun e w' => e = .returned (.int .i64 (idxFrom p l 0)) ∧ Ext w w' := by
  have hn := hl.le
  have Hf := Lib.hid hf
  clear hf
  go_enter Tryz.func191, Tryz.ntmps191
  go_wp2_with fail
  go_loopw [8] (fun i wr => ∃ k : Nat, k ≤ n ∧ i = .int .i64 k ∧ Hid (idxFrom p (l.drop k) k = idxFrom p l 0) ∧ Ext w wr) (fun i _ => n - (intOf i).toNat)
  case atStart => exact ⟨0, Nat.zero_le _, rfl, rfl, Ext.refl _⟩
  case round =>
    obtain ⟨k, hk, rfl, HI, hb⟩ := hrel
    by_cases hlt : k < n
    · obtain ⟨b, off, x, rfl, HD, hxm, hx⟩ := hl.one hlt
      obtain ⟨hx0, hx1, hx2⟩ := catAt.ext hb hx
      go_wp2_with fail
      refine (Hf.out x hxm _ hb).mono ?_
      rintro e w1 ⟨rfl, h1⟩
      cases hp : p x
      · go_wp2_with fail
        go_roundw
        case rel => exact ⟨k + 1, by omega, by go_num, by have := HI.out; rw [HD.out] at this; simpa [Hid, idxFrom, hp] using this, hb.trans h1⟩
        case measure => simp [intOf]; omega
      · go_wp2_with fail
        go_ret
        exact ⟨ret_i (by have := HI.out; rw [HD.out] at this; simpa [idxFrom, hp] using this), hb.trans h1⟩
    · have : k = l.length := by have := hl.len; omega
      subst this
      go_wp2_with fail
      go_ret
      refine ⟨ret_i ?_, hb⟩
      have := HI.out
      simpa [idxFrom] using this


set_option maxHeartbeats 400000 in
theorem station1_c (a x y id : Int) (b : Nat) (w : World) (hb : w.cell? ⟨b, 0, none⟩ = some (.int .i64 id)) :
    Calls Tryz.prog 190 #[.agg #[.int .i64 a, .int .i64 x, .int .i64 y], .pointer (some ⟨b, 0, none⟩)] w fun e w' => e = .returned (.bool (a == id)) ∧ Ext w w' := by
  have hlt := World.block_lt_of_cell? w _ hb
  go_enter Tryz.func190, Tryz.ntmps190
  go_wp2_with fail
  go_ret
  exact ⟨ret_b (by simp), Ext.alloc0 _ _⟩
set_option maxHeartbeats 400000 in
theorem catalog1_c (a x y id : Int) (b : Nat) (w : World) (hb : w.cell? ⟨b, 0, none⟩ = some (.int .i64 id)) :
    Calls Tryz.prog 192 #[.agg #[.int .i64 a, .int .i64 x, .int .i64 y], .pointer (some ⟨b, 0, none⟩)] w fun e w' => e = .returned (.bool (a == id)) ∧ Ext w w' := by
  have hlt := World.block_lt_of_cell? w _ hb
  go_enter Tryz.func192, Tryz.ntmps192
  go_wp2_with fail
  go_ret
  exact ⟨ret_b (by simp), Ext.alloc0 _ _⟩

def stnOf (l : List Stn) (id : Int) : Option Stn := l.find? fun x => x.id == id
def catOf (l : List Cat) (v : Int) : Option Cat := l.find? fun x => x.version == v

set_option maxHeartbeats 400000 in
theorem station_c (A1 : Option Addr) (n1 c1 : Nat) (home : Int) (A2 : Option Addr) (n2 c2 : Nat) (A3 : Option Addr) (n3 c3 : Nat) (id : Int) (l : List Stn) (w : World) (hl : Stns w A2 n2 l) :
    Calls Tryz.prog 153 #[.agg #[.slice A1 n1 c1, .int .i64 home, .slice A2 n2 c2, .slice A3 n3 c3], .int .i64 id] w fun e w' =>
      e = .returned (.tuple #[.agg #[.int .i64 ((stnOf l id).getD ⟨0, ⟨0, 0⟩⟩).id, .int .i64 ((stnOf l id).getD ⟨0, ⟨0, 0⟩⟩).off.x, .int .i64 ((stnOf l id).getD ⟨0, ⟨0, 0⟩⟩).off.y], .bool (stnOf l id).isSome]) ∧ Ext w w' := by
  have hn := hl.le
  rcases idx_cases (fun x : Stn => x.id == id) l with ⟨hi, hf⟩ | ⟨i, x, hi1, hi, hx, hf⟩
  · have Hi := Lib.hid hi; clear hi
    have Hf := Lib.hid hf; clear hf
    go_enter Tryz.func153, Tryz.ntmps153
    go_wp2_with fail
    refine (idxStn_c A2 n2 c2 l 190 #[.pointer (some ⟨w.heap.size + 1, 0, none⟩)] (fun x => x.id == id) _ (Stns.ext ext_by hl) Tryz.call190 (fun x _ W hW => station1_c x.id x.off.x x.off.y id _ W (hW.cell (by go_simp)))).mono ?_
    rw [Hi.out]
    rintro e w1 ⟨rfl, h1⟩; obtain ⟨hc_w1, hf_w1, hz_w1⟩ := bcell h1; (try simp only [szA] at hz_w1); have : w.heap.size < w1.heap.size := (by omega); have : w.heap.size + 1 < w1.heap.size := (by omega); have : w.heap.size + 2 < w1.heap.size := (by omega)
    go_wp2_with fail
    (try simp only [Exit.inBlock, Exit.then]); apply bodyPost_ret; (focus (simp only [results, Tryz.results153]; go_simp; try rfl)); rfl
    have h1 : stnOf l id = none := Hf.out
    rw [h1]
    exact ⟨rfl, ext_by⟩
  · obtain ⟨hin, b, off, rfl, hc⟩ := hl.get hx
    have Hi := Lib.hid hi; clear hi
    have Hf := Lib.hid hf; clear hf
    have Hx := Lib.hid hx; clear hx
    go_enter Tryz.func153, Tryz.ntmps153
    go_wp2_with fail
    refine (idxStn_c _ n2 c2 l 190 #[.pointer (some ⟨w.heap.size + 1, 0, none⟩)] (fun x => x.id == id) _ (Stns.ext ext_by hl) Tryz.call190 (fun x _ W hW => station1_c x.id x.off.x x.off.y id _ W (hW.cell (by go_simp)))).mono ?_
    rw [Hi.out]
    rintro e w1 ⟨rfl, h1⟩; obtain ⟨hc_w1, hf_w1, hz_w1⟩ := bcell h1; (try simp only [szA] at hz_w1); have : w.heap.size < w1.heap.size := (by omega); have : w.heap.size + 1 < w1.heap.size := (by omega); have : w.heap.size + 2 < w1.heap.size := (by omega)
    obtain ⟨hx0, hx1, hx2⟩ := stnAt.ext (Ext.trans ext_by h1) hc
    go_wp2_with fail
    (try simp only [Exit.inBlock, Exit.then]); apply bodyPost_ret; (focus (simp only [results, Tryz.results153]; go_simp; try rfl)); rfl
    have h1 : stnOf l id = some x := Hf.out
    rw [h1]
    exact ⟨rfl, ext_by⟩

set_option maxHeartbeats 400000 in
theorem catalog_c (A1 : Option Addr) (n1 c1 : Nat) (home : Int) (A2 : Option Addr) (n2 c2 : Nat) (A3 : Option Addr) (n3 c3 : Nat) (id : Int) (l : List Cat) (w : World) (hl : Cats w A3 n3 l) :
    Calls Tryz.prog 154 #[.agg #[.slice A1 n1 c1, .int .i64 home, .slice A2 n2 c2, .slice A3 n3 c3], .int .i64 id] w fun e w' =>
      e = .returned (.tuple #[.agg #[.int .i64 ((catOf l id).getD ⟨0, 0, 0⟩).version, .int .i64 ((catOf l id).getD ⟨0, 0, 0⟩).lo, .int .i64 ((catOf l id).getD ⟨0, 0, 0⟩).hi], .bool (catOf l id).isSome]) ∧ Ext w w' := by
  have hn := hl.le
  rcases idx_cases (fun x : Cat => x.version == id) l with ⟨hi, hf⟩ | ⟨i, x, hi1, hi, hx, hf⟩
  · have Hi := Lib.hid hi; clear hi
    have Hf := Lib.hid hf; clear hf
    go_enter Tryz.func154, Tryz.ntmps154
    go_wp2_with fail
    refine (idxCat_c A3 n3 c3 l 192 #[.pointer (some ⟨w.heap.size + 1, 0, none⟩)] (fun x => x.version == id) _ (Cats.ext ext_by hl) Tryz.call192 (fun x _ W hW => catalog1_c x.version x.lo x.hi id _ W (hW.cell (by go_simp)))).mono ?_
    rw [Hi.out]
    rintro e w1 ⟨rfl, h1⟩; obtain ⟨hc_w1, hf_w1, hz_w1⟩ := bcell h1; (try simp only [szA] at hz_w1); have : w.heap.size < w1.heap.size := (by omega); have : w.heap.size + 1 < w1.heap.size := (by omega); have : w.heap.size + 2 < w1.heap.size := (by omega)
    go_wp2_with fail
    (try simp only [Exit.inBlock, Exit.then]); apply bodyPost_ret; (focus (simp only [results, Tryz.results154]; go_simp; try rfl)); rfl
    have h1 : catOf l id = none := Hf.out
    rw [h1]
    exact ⟨rfl, ext_by⟩
  · obtain ⟨hin, b, off, rfl, hc⟩ := hl.get hx
    have Hi := Lib.hid hi; clear hi
    have Hf := Lib.hid hf; clear hf
    have Hx := Lib.hid hx; clear hx
    go_enter Tryz.func154, Tryz.ntmps154
    go_wp2_with fail
    refine (idxCat_c _ n3 c3 l 192 #[.pointer (some ⟨w.heap.size + 1, 0, none⟩)] (fun x => x.version == id) _ (Cats.ext ext_by hl) Tryz.call192 (fun x _ W hW => catalog1_c x.version x.lo x.hi id _ W (hW.cell (by go_simp)))).mono ?_
    rw [Hi.out]
    rintro e w1 ⟨rfl, h1⟩; obtain ⟨hc_w1, hf_w1, hz_w1⟩ := bcell h1; (try simp only [szA] at hz_w1); have : w.heap.size < w1.heap.size := (by omega); have : w.heap.size + 1 < w1.heap.size := (by omega); have : w.heap.size + 2 < w1.heap.size := (by omega)
    obtain ⟨hx0, hx1, hx2⟩ := catAt.ext (Ext.trans ext_by h1) hc
    go_wp2_with fail
    (try simp only [Exit.inBlock, Exit.then]); apply bodyPost_ret; (focus (simp only [results, Tryz.results154]; go_simp; try rfl)); rfl
    have h1 : catOf l id = some x := Hf.out
    rw [h1]
    exact ⟨rfl, ext_by⟩

set_option maxHeartbeats 400000 in
theorem refStation_c (A1 : Option Addr) (n1 c1 : Nat) (home : Int) (A2 : Option Addr) (n2 c2 : Nat) (A3 : Option Addr) (n3 c3 : Nat) (id : Int) (l : List Stn) (w : World) (hl : Stns w A2 n2 l) :
    Calls Tryz.prog 150 #[.agg #[.slice A1 n1 c1, .int .i64 home, .slice A2 n2 c2, .slice A3 n3 c3], .int .i64 id] w fun e w' =>
      e = .returned (.int .i64 (idxFrom (fun x : Stn => x.id == id) l 0)) ∧ Ext w w' := by
  have hn := hl.le
  go_enter Tryz.func150, Tryz.ntmps150
  go_wp2_with fail
  go_loopw [5] (fun i wr => ∃ k : Nat, k ≤ n2 ∧ i = .int .i64 k ∧ Hid (idxFrom (fun x : Stn => x.id == id) (l.drop k) k = idxFrom (fun x : Stn => x.id == id) l 0) ∧ Ext (w.alloc (.cells #[.slice A1 n1 c1, .int .i64 home, .slice A2 n2 c2, .slice A3 n3 c3] 53)) wr) (fun i _ => n2 - (intOf i).toNat)
  case atStart => exact ⟨0, Nat.zero_le _, rfl, rfl, Ext.refl _⟩
  case round =>
    obtain ⟨k, hk, rfl, HI, hb⟩ := hrel
    obtain ⟨hcb, hfb, hzb⟩ := bcell hb
    by_cases hlt : k < n2
    · obtain ⟨b, off, x, rfl, HD, hxm, hx⟩ := hl.one hlt
      obtain ⟨hx0, hx1, hx2⟩ := stnAt.ext (Ext.trans (Ext.alloc0 _ _) hb) hx
      have hi := HI.out; rw [HD.out] at hi
      cases hp : (x.id == id)
      · have hi' : idxFrom (fun x : Stn => x.id == id) (l.drop (k + 1)) (k + 1) = idxFrom (fun x : Stn => x.id == id) l 0 := by rw [← hi]; simp only [idxFrom, hp]; simp
        have Hi := Lib.hid hi'; clear hi hi'
        go_wp2_with fail
        go_roundw
        case rel => exact ⟨k + 1, by omega, by go_num, Hi, ext_by⟩
        case measure => simp [intOf]; omega
      · have hi' : (k : Int) = idxFrom (fun x : Stn => x.id == id) l 0 := by rw [← hi]; simp only [idxFrom, hp]; simp
        have Hi := Lib.hid hi'; clear hi hi'
        go_wp2_with fail
        go_ret
        exact ⟨ret_i Hi.out, ext_by⟩
    · have : k = n2 := by omega
      subst this
      have hi := HI.out; rw [hl.len, List.drop_length] at hi
      have Hi := Lib.hid hi; clear hi
      go_wp2_with fail
      go_ret
      exact ⟨ret_i Hi.out, ext_by⟩

end Go.Proofs.YtfniicgoeljmdaaGreat

namespace Go.Proofs.YtfniicgoeljmdaaGreat
open Go.RowKit

def dirErr (x : Sight) : Bool := !near ⟨x.dx, x.dy⟩ 4096 || (x.dx == 0 && x.dy == 0) || !within x.err 0 500000
def sightErr (s : Sky) (x : Sight) : Int :=
  if x.kind < 1 ∨ 3 < x.kind then 4
  else if within x.tick 0 1073741824 = false then 2
  else if (stnOf s.stations x.station).isSome = false then 7
  else if x.kind = 2 then (if x.lo < 0 ∨ x.hi < x.lo ∨ 134217728 < x.hi then 2 else 0)
  else if (catOf s.catalogs x.catalog).isSome = false then 7
  else if dirErr x = true then 2
  else if x.kind = 3 then (if within x.hi 1 134217728 = false then 2 else 0)
  else 0
def sightErr2 (s : Sky) (x : Sight) : Int := if skyErr s ≠ 0 then skyErr s else sightErr s x

set_option maxRecDepth 4000 in
set_option maxHeartbeats 2000000 in
theorem CheckSight_c (A1 : Option Addr) (n1 c1 : Nat) (home : Int) (A2 : Option Addr) (n2 c2 : Nat) (A3 : Option Addr) (n3 c3 : Nat) (s : Sky) (kind st cat tick dx dy er lo hi : Int) (w : World) (hs : IsSky w A1 n1 home A2 n2 A3 n3 s) :
    Calls Tryz.prog 117 #[.agg #[.slice A1 n1 c1, .int .i64 home, .slice A2 n2 c2, .slice A3 n3 c3], .agg #[.int .i64 kind, .int .i64 st, .int .i64 cat, .int .i64 tick, .int .i64 dx, .int .i64 dy, .int .i64 er, .int .i64 lo, .int .i64 hi]] w fun e w' =>
      e = .returned (.int .i64 (sightErr2 s ⟨kind, st, cat, tick, dx, dy, er, lo, hi⟩)) ∧ Ext w w' := by
  go_enter Tryz.func117, Tryz.ntmps117
  go_wp2_with (first
    | (go_at_call 103; refine (Check_c _ _ _ _ _ _ _ _ _ _ s _ (IsSky.ext ext_by hs)).mono ?_; rintro e w1 ⟨rfl, h1⟩; obtain ⟨hc_w1, hf_w1, hz_w1⟩ := bcell h1; (try simp only [szA] at hz_w1); have : w.heap.size < w1.heap.size := (by omega); have : w.heap.size + 1 < w1.heap.size := (by omega))
    | (go_at_call 152; refine (within_c _ _ _ _).mono ?_; rintro e w' ⟨rfl, rfl⟩)
    | (go_at_call 118; refine (near_c _ _ _ _ (by omega) (by omega)).mono ?_; rintro e w1 ⟨rfl, h1⟩; obtain ⟨hc_w1, hf_w1, hz_w1⟩ := bcell h1; (try simp only [szA] at hz_w1); have : w.heap.size < w1.heap.size := (by omega); have : w.heap.size + 1 < w1.heap.size := (by omega))
    | (go_at_call 153; refine (station_c _ _ _ _ _ _ _ _ _ _ _ s.stations _ (IsSky.ext ext_by hs).stations).mono ?_; rintro e w1 ⟨rfl, h1⟩; obtain ⟨hc_w1, hf_w1, hz_w1⟩ := bcell h1; (try simp only [szA] at hz_w1); have : w.heap.size < w1.heap.size := (by omega); have : w.heap.size + 1 < w1.heap.size := (by omega))
    | (go_at_call 154; refine (catalog_c _ _ _ _ _ _ _ _ _ _ _ s.catalogs _ (IsSky.ext ext_by hs).catalogs).mono ?_; rintro e w1 ⟨rfl, h1⟩; obtain ⟨hc_w1, hf_w1, hz_w1⟩ := bcell h1; (try simp only [szA] at hz_w1); have : w.heap.size < w1.heap.size := (by omega); have : w.heap.size + 1 < w1.heap.size := (by omega)))
  all_goals go_ret
  all_goals refine ⟨ret_i ?_, ext_by⟩
  all_goals clear hs
  all_goals (first | (simp_all [sightErr2, sightErr, dirErr]; done) | (simp_all [sightErr2, sightErr]; omega))

end Go.Proofs.YtfniicgoeljmdaaGreat

namespace Go.Proofs.YtfniicgoeljmdaaGreat
open Go.RowKit

theorem within_iff (n lo hi : Int) : within n lo hi = true ↔ lo ≤ n ∧ n ≤ hi := by simp [within]
theorem near_iff (p : Vec) (m : Int) : near p m = true ↔ (-m ≤ p.x ∧ p.x ≤ m) ∧ (-m ≤ p.y ∧ p.y ≤ m) := by simp [near, within]
theorem body_ok {b : Body} (h : bodyErr b = 0) : 0 < b.track.length ∧ b.track.length ≤ 4096 ∧ (0 ≤ b.mu ∧ b.mu ≤ 1125899906842624) ∧ (0 ≤ b.radius ∧ b.radius ≤ 1048576) ∧ ∀ p ∈ b.track, near p 33554432 = true := by
  rw [bodyErr] at h
  by_cases h1 : (!(within b.mu 0 1125899906842624) || !(within b.radius 0 1048576)) = true
  · rw [if_pos h1] at h; omega
  rw [if_neg h1] at h
  by_cases h2 : b.track.length = 0
  · rw [if_pos h2] at h; omega
  rw [if_neg h2] at h
  by_cases h3 : 4096 < b.track.length
  · rw [if_pos h3] at h; omega
  rw [if_neg h3] at h
  by_cases h4 : hasP (fun p => !near p 33554432) b.track = true
  · rw [if_pos h4] at h; omega
  rw [hasP_eq] at h4
  simp [within_iff] at h1 h4
  exact ⟨by omega, by omega, h1.1, h1.2, h4⟩
theorem bodies_ok : ∀ {l : List Body}, bodiesErr l = 0 → ∀ b ∈ l, bodyErr b = 0
  | [], _, _, h => by simp at h
  | c :: r, h, b, hb => by
    rw [bodiesErr] at h
    by_cases h0 : bodyErr c = 0
    · rw [if_pos h0] at h
      rcases List.mem_cons.1 hb with rfl | hb
      · exact h0
      · exact bodies_ok h b hb
    · rw [if_neg h0] at h; exact absurd h h0
theorem wld_ok {w : Wld} (h : wldErr w = 0) : (∃ k : Nat, w.home = k ∧ k < w.bodies.length) ∧ w.bodies.length ≤ 8 ∧ ∀ b ∈ w.bodies, bodyErr b = 0 := by
  rw [wldErr] at h
  by_cases h1 : w.bodies.length = 0
  · rw [if_pos h1] at h; omega
  rw [if_neg h1] at h
  by_cases h2 : 8 < w.bodies.length
  · rw [if_pos h2] at h; omega
  rw [if_neg h2] at h
  by_cases h3 : bodiesErr w.bodies = 0
  · rw [if_neg (by simpa using h3)] at h
    by_cases h4 : w.home < 0 ∨ (w.bodies.length : Int) ≤ w.home
    · rw [if_pos h4] at h; omega
    · exact ⟨⟨w.home.toNat, by omega, by omega⟩, by omega, bodies_ok h3⟩
  · rw [if_pos h3] at h; exact absurd h h3
theorem stns_ok : ∀ {l : List Stn} {last : Int}, stnsErr l last = 0 → ∀ x ∈ l, near x.off 1048576 = true
  | [], _, _, _, h => by simp at h
  | c :: r, last, h, b, hb => by
    rw [stnsErr] at h
    by_cases h0 : c.id ≤ last
    · rw [if_pos h0] at h; omega
    rw [if_neg h0] at h
    cases h1 : near c.off 1048576
    · rw [h1] at h; simp at h
    · rw [h1] at h
      simp at h
      rcases List.mem_cons.1 hb with rfl | hb
      · exact h1
      · exact stns_ok h b hb
theorem cats_ok : ∀ {l : List Cat} {last : Int}, catsErr l last = 0 → ∀ x ∈ l, -500000 ≤ x.lo ∧ x.lo ≤ x.hi ∧ x.hi ≤ 500000
  | [], _, _, _, h => by simp at h
  | c :: r, last, h, b, hb => by
    rw [catsErr] at h
    by_cases h0 : c.version ≤ last
    · rw [if_pos h0] at h; omega
    rw [if_neg h0] at h
    by_cases h1 : c.lo < -500000 ∨ c.hi < c.lo ∨ 500000 < c.hi
    · rw [if_pos h1] at h; omega
    · rw [if_neg h1] at h
      rcases List.mem_cons.1 hb with rfl | hb
      · omega
      · exact cats_ok h b hb
theorem sky_ok {s : Sky} (h : skyErr s = 0) : wldErr s.world = 0 ∧ (∀ x ∈ s.stations, near x.off 1048576 = true) ∧ (∀ x ∈ s.catalogs, -500000 ≤ x.lo ∧ x.lo ≤ x.hi ∧ x.hi ≤ 500000) := by
  rw [skyErr] at h
  by_cases h1 : wldErr s.world = 0
  · rw [if_neg (by simpa using h1)] at h
    by_cases h2 : 16 < s.stations.length
    · rw [if_pos h2] at h; omega
    rw [if_neg h2] at h
    by_cases h3 : stnsErr s.stations 0 = 0
    · rw [if_neg (by simpa using h3)] at h
      by_cases h4 : 8 < s.catalogs.length
      · rw [if_pos h4] at h; omega
      rw [if_neg h4] at h
      exact ⟨h1, stns_ok h3, cats_ok h⟩
    · rw [if_pos h3] at h; exact absurd h h3
  · rw [if_pos h1] at h; exact absurd h h1

def trackAt (l : List Vec) (tick : Int) : Vec := l.getD (tick.toNat % l.length) ⟨0, 0⟩
theorem trackAt_mem {l : List Vec} (h : 0 < l.length) (t : Int) : trackAt l t ∈ l := by
  unfold trackAt
  have := Nat.mod_lt t.toNat h
  rw [List.getD_eq_getElem?_getD, List.getElem?_eq_getElem this]
  exact List.getElem_mem this
theorem trackAt_get {l : List Vec} (h : 0 < l.length) (t : Nat) : l[t % l.length]? = some (trackAt l t) := by
  unfold trackAt
  have := Nat.mod_lt t h
  simp [List.getD_eq_getElem?_getD, List.getElem?_eq_getElem this]
def homeAt (s : Sky) (tick : Int) : Vec := trackAt (s.world.bodies.getD s.world.home.toNat ⟨0, 0, []⟩).track tick
theorem home_ok {s : Sky} (h : skyErr s = 0) (t : Int) : near (homeAt s t) 33554432 = true := by
  obtain ⟨⟨k, hk, hlt⟩, _, hb⟩ := wld_ok (sky_ok h).1
  have : s.world.bodies.getD s.world.home.toNat ⟨0, 0, []⟩ = s.world.bodies[k] := by
    rw [hk]; simp [List.getD_eq_getElem?_getD, List.getElem?_eq_getElem hlt]
  unfold homeAt
  rw [this]
  obtain ⟨h1, _, _, _, h2⟩ := body_ok (hb _ (List.getElem_mem hlt))
  exact h2 _ (trackAt_mem h1 t)
def addV (p q : Vec) : Vec := ⟨p.x + q.x, p.y + q.y⟩
def whereM (s : Sky) (id tick : Int) : Option Vec :=
  if skyErr s = 0 ∧ within tick 0 1073741824 = true then (stnOf s.stations id).map fun x => addV (homeAt s tick) x.off else none
theorem stnOf_mem {l : List Stn} {id : Int} {x : Stn} (h : stnOf l id = some x) : x ∈ l := List.mem_of_find?_eq_some h
theorem catOf_mem {l : List Cat} {id : Int} {x : Cat} (h : catOf l id = some x) : x ∈ l := List.mem_of_find?_eq_some h
end Go.Proofs.YtfniicgoeljmdaaGreat

namespace Go.Proofs.YtfniicgoeljmdaaGreat
open Go.RowKit

set_option maxHeartbeats 400000 in
theorem trackat_c (A : Option Addr) (n c : Nat) (l : List Vec) (tick : Int) (w : World) (hl : Vecs w A n l) (h0 : 0 < l.length) (ht : 0 ≤ tick) (ht2 : tick ≤ 1073741824) :
    Calls Tryz.prog 193 #[.slice A n c, .int .i64 tick] w fun e w' => e = .returned (.agg #[.int .i64 (trackAt l tick).x, .int .i64 (trackAt l tick).y]) ∧ Ext w w' := by
  obtain ⟨t, rfl⟩ := Int.eq_ofNat_of_zero_le ht
  have hn := hl.le
  have hg := trackAt_get h0 t
  obtain ⟨hi, b, off, rfl, hc⟩ := hl.get hg
  obtain ⟨p, hp⟩ : ∃ p, trackAt l (t : Int) = p := ⟨_, rfl⟩
  rw [hp] at hc ⊢
  obtain rfl := hl.len
  generalize l.length = n at *
  clear hg hp
  have h1 : (1 : Int) ≤ (n : Int) := by omega
  have hm := Nat.mod_lt t h0
  obtain ⟨hx, hy⟩ := vecAt.ext (Ext.alloc0 _ (.cells #[.int .i64 0, .int .i64 0] 85)) hc
  go_enter Tryz.func193, Tryz.ntmps193
  go_wp2_with fail
  (try simp only [Exit.inBlock, Exit.then]); apply bodyPost_ret; (focus (simp only [results, Tryz.results193]; go_simp; try rfl)); rfl
  exact ⟨rfl, ext_by⟩

set_option maxHeartbeats 400000 in
theorem refat_c (A : Option Addr) (n c : Nat) (home : Int) (l : List Body) (i : Nat) (x : Body) (tick : Int) (w : World) (hl : Bodies w A n l) (hx : l[i]? = some x) (h0 : 0 < x.track.length) (ht : 0 ≤ tick) (ht2 : tick ≤ 1073741824) :
    Calls Tryz.prog 188 #[.agg #[.slice A n c, .int .i64 home], .int .i64 i, .int .i64 tick] w fun e w' => e = .returned (.agg #[.int .i64 (trackAt x.track tick).x, .int .i64 (trackAt x.track tick).y]) ∧ Ext w w' := by
  obtain ⟨t, rfl⟩ := Int.eq_ofNat_of_zero_le ht
  have hn := hl.le
  obtain ⟨hin, b, off, rfl, hc⟩ := hl.get hx
  obtain ⟨_, _, A', n', c', hc2, hl'⟩ := hc
  have hn' := hl'.le
  have hg := trackAt_get h0 t
  obtain ⟨hi', b', off', rfl, hc'⟩ := hl'.get hg
  obtain ⟨p, hp⟩ : ∃ p, trackAt x.track (t : Int) = p := ⟨_, rfl⟩
  rw [hp] at hc' ⊢
  obtain rfl := hl'.len
  generalize x.track.length = n' at *
  clear hg hp
  have h1 : (1 : Int) ≤ (n' : Int) := by omega
  have hm := Nat.mod_lt t h0
  obtain ⟨hx1, hy1⟩ := hc'
  have hb0 : b < w.heap.size := World.block_lt_of_cell? w _ hc2
  have hb1 : b < w.heap.size + 1 := by omega
  have hb2 : b' < w.heap.size := World.block_lt_of_cell? w _ hx1
  have hb3 : b' < w.heap.size + 1 := by omega
  clear hl' hl
  go_enter Tryz.func188, Tryz.ntmps188
  go_wp2_with fail
  (try simp only [Exit.inBlock, Exit.then]); apply bodyPost_ret; (focus (simp only [results, Tryz.results188]; go_simp; try rfl)); rfl
  exact ⟨rfl, ext_by⟩

theorem home_get {s : Sky} (h : skyErr s = 0) : ∃ (k : Nat) (x : Body), s.world.home = k ∧ s.world.bodies[k]? = some x ∧ 0 < x.track.length ∧ ∀ t, homeAt s t = trackAt x.track t := by
  obtain ⟨⟨k, hk, hlt⟩, _, hb⟩ := wld_ok (sky_ok h).1
  have h1 : s.world.bodies[k]? = some s.world.bodies[k] := List.getElem?_eq_getElem hlt
  refine ⟨k, _, hk, h1, (body_ok (hb _ (List.getElem_mem hlt))).1, fun t => ?_⟩
  unfold homeAt
  rw [hk, Int.toNat_natCast, List.getD_eq_getElem?_getD, h1]
  rfl

set_option maxRecDepth 4000 in
set_option maxHeartbeats 1000000 in
theorem refwhere_c (A1 : Option Addr) (n1 c1 : Nat) (home : Int) (A2 : Option Addr) (n2 c2 : Nat) (A3 : Option Addr) (n3 c3 : Nat) (s : Sky) (i : Nat) (x : Stn) (tick : Int) (w : World) (hs : IsSky w A1 n1 home A2 n2 A3 n3 s)
    (hok : skyErr s = 0) (hx : s.stations[i]? = some x) (ht : 0 ≤ tick) (ht2 : tick ≤ 1073741824) :
    Calls Tryz.prog 151 #[.agg #[.slice A1 n1 c1, .int .i64 home, .slice A2 n2 c2, .slice A3 n3 c3], .int .i64 i, .int .i64 tick] w fun e w' =>
      e = .returned (.agg #[.int .i64 (addV (homeAt s tick) x.off).x, .int .i64 (addV (homeAt s tick) x.off).y]) ∧ Ext w w' := by
  obtain ⟨k, y, hk, hy, hy0, hh⟩ := home_get hok
  have hnear := (near_iff _ _).1 (home_ok hok tick)
  have hoff := (near_iff _ _).1 ((sky_ok hok).2.1 x (List.mem_of_getElem? hx))
  obtain rfl := hs.home
  rw [hk]
  rw [hh] at hnear ⊢
  obtain ⟨hin, b, off, rfl, hc⟩ := hs.stations.get hx
  have hn2 := hs.stations.le
  obtain ⟨hc0, hc1, hc2⟩ := hc
  have hb0 : b < w.heap.size := World.block_lt_of_cell? w _ hc0
  obtain ⟨p, hp⟩ : ∃ p, trackAt y.track tick = p := ⟨_, rfl⟩
  rw [hp] at hnear ⊢
  obtain ⟨⟨hp1, hp2⟩, hp3, hp4⟩ := hnear
  obtain ⟨⟨ho1, ho2⟩, ho3, ho4⟩ := hoff
  have hlb := hs.bodies
  have HP := Lib.hid hp
  clear hp hh hok hk hs hx
  go_enter Tryz.func151, Tryz.ntmps151
  go_wp2_with fail
  refine (refat_c _ _ _ _ s.world.bodies k y tick _ (Bodies.ext ext_by hlb) hy hy0 ht ht2).mono ?_
  rw [HP.out]
  clear hlb hy
  rintro e w1 ⟨rfl, h1⟩; obtain ⟨hc_w1, hf_w1, hz_w1⟩ := bcell h1; (try simp only [szA] at hz_w1); have : w.heap.size < w1.heap.size := (by omega); have : w.heap.size + 1 < w1.heap.size := (by omega)
  obtain ⟨hc0, hc1, hc2⟩ := stnAt.ext (Ext.trans ext_by h1) (show stnAt w x b (off + i * 3) from ⟨hc0, hc1, hc2⟩)
  have hb0' : b < w1.heap.size := by omega
  have hne1 : w1.heap.size ≠ w.heap.size + 1 := by omega
  have hne2 : b ≠ w.heap.size + 1 := by omega
  go_wp2_with fail
  refine wp_region_tail 21 (Wr _ (w.heap.size + 1)) _ (Wr.pst _ _ 85 #[.int .i64 0, .int .i64 0]) (fun _ h => h.1) (Wr.pre ?_) (by kernel_rfl) (by kernel_rfl) ?_
  · exact Blk.ext (Blk.newAt (by simp)) (Ext.trans h1 ext_by)
  repeat' (first | (refine bl_off (by rfl) ?_; simp only [putX]) | (apply bl_op; rfl; (intro w1 h1; obtain ⟨hc, hf, hz⟩ := Wr.cells h1; go_simp; (try go_bits); (first | exact ⟨rfl, Ext.refl _⟩)); simp only [putX]) | (refine bl_split rfl rfl (fun hx => ?_) (fun hx => ?_) <;> simp only [hx]))
  refine bl_nil ?_
  refine tw_put rfl rfl (vs := #[.int .i64 (p.x + x.off.x), .int .i64 (p.y + x.off.y)]) (fun w2 h2 hB => ?_) ?_
  · have hcB := hB.cell; have hfB := hB.frozen
    refine ⟨_, by go_simp, (h2.set rfl _).set rfl _, (hB.set_ 0 _).set_ 1 _⟩
  refine tw_nil ?_
  rintro w2 ⟨h2, hB⟩
  have hcB := hB.cell; have hfB := hB.frozen
  go_wp2_with fail
  (try simp only [Exit.inBlock, Exit.then]); apply bodyPost_ret; (focus (simp only [results, Tryz.results151]; go_simp; try rfl)); rfl
  exact ⟨rfl, h2.ext ext_by (by omega)⟩

def optV : Option Vec → Vec
  | some p => p
  | none => ⟨0, 0⟩

set_option maxRecDepth 4000 in
set_option maxHeartbeats 1000000 in
theorem Where_c (A1 : Option Addr) (n1 c1 : Nat) (home : Int) (A2 : Option Addr) (n2 c2 : Nat) (A3 : Option Addr) (n3 c3 : Nat) (s : Sky) (id tick : Int) (w : World) (hs : IsSky w A1 n1 home A2 n2 A3 n3 s) :
    Calls Tryz.prog 155 #[.agg #[.slice A1 n1 c1, .int .i64 home, .slice A2 n2 c2, .slice A3 n3 c3], .int .i64 id, .int .i64 tick] w fun e w' =>
      e = .returned (.tuple #[.agg #[.int .i64 (optV (whereM s id tick)).x, .int .i64 (optV (whereM s id tick)).y], .bool (whereM s id tick).isSome]) ∧ Ext w w' := by
  by_cases hok : skyErr s = 0 ∧ within tick 0 1073741824 = true
  · have hM : whereM s id tick = (stnOf s.stations id).map fun x => addV (homeAt s tick) x.off := by rw [whereM, if_pos hok]
    obtain ⟨h0, ht⟩ := hok
    obtain ⟨ht1, ht2⟩ := (within_iff _ _ _).1 ht
    cases hx : stnOf s.stations id with
    | none =>
      rw [hx] at hM
      rw [hM]
      have HhM := Lib.hid hM; clear hM; have Hhx := Lib.hid hx; clear hx; have Hh0 := Lib.hid h0; clear h0
      go_enter Tryz.func155, Tryz.ntmps155
      go_wp2_with fail
      refine (Check_c _ _ _ _ _ _ _ _ _ _ s _ (IsSky.ext ext_by hs)).mono ?_
      rw [Hh0.out]
      rintro e w1 ⟨rfl, h1⟩; obtain ⟨hc_w1, hf_w1, hz_w1⟩ := bcell h1; (try simp only [szA] at hz_w1); have : w.heap.size < w1.heap.size := (by omega); have : w.heap.size + 1 < w1.heap.size := (by omega)
      go_wp2_with (go_at_call 152; refine (within_c _ _ _ _).mono ?_; rintro e w' ⟨rfl, rfl⟩)
      refine (station_c _ _ _ _ _ _ _ _ _ _ _ s.stations _ (IsSky.ext ext_by hs).stations).mono ?_
      rw [Hhx.out]
      rintro e w1 ⟨rfl, h1⟩; obtain ⟨hc_w1, hf_w1, hz_w1⟩ := bcell h1; (try simp only [szA] at hz_w1); have : w.heap.size < w1.heap.size := (by omega); have : w.heap.size + 1 < w1.heap.size := (by omega)
      go_wp2_with fail
      (try simp only [Exit.inBlock, Exit.then]); apply bodyPost_ret; (focus (simp only [results, Tryz.results155]; go_simp; try rfl)); rfl
      exact ⟨rfl, ext_by⟩
    | some x =>
      rw [hx] at hM
      rw [hM]
      obtain ⟨k, y, hk, hy, hy0, hh⟩ := home_get h0
      have hnear := (near_iff _ _).1 (home_ok h0 tick)
      have hoff := (near_iff _ _).1 ((sky_ok h0).2.1 x (stnOf_mem hx))
      obtain rfl := hs.home
      rw [hk]
      simp only [Option.map]
      rw [hh] at hnear ⊢
      obtain ⟨p, hp⟩ : ∃ p, trackAt y.track tick = p := ⟨_, rfl⟩
      rw [hp] at hnear ⊢
      obtain ⟨⟨hp1, hp2⟩, hp3, hp4⟩ := hnear
      obtain ⟨⟨ho1, ho2⟩, ho3, ho4⟩ := hoff
      have hs' := hs
      rw [hk] at hs'
      obtain ⟨hin, b, off, rfl, hc⟩ := hs.bodies.get hy
      have hn1 := hs.bodies.le
      clear hk hs hh hM
      have Hhp := Lib.hid hp; clear hp; have Hhx := Lib.hid hx; clear hx; have Hh0 := Lib.hid h0; clear h0
      go_enter Tryz.func155, Tryz.ntmps155
      go_wp2_with fail
      refine (Check_c _ _ _ _ _ _ _ _ _ _ s _ (IsSky.ext ext_by hs')).mono ?_
      rw [Hh0.out]
      rintro e w1 ⟨rfl, h1⟩; obtain ⟨hc_w1, hf_w1, hz_w1⟩ := bcell h1; (try simp only [szA] at hz_w1); have : w.heap.size < w1.heap.size := (by omega); have : w.heap.size + 1 < w1.heap.size := (by omega)
      go_wp2_with (go_at_call 152; refine (within_c _ _ _ _).mono ?_; rintro e w' ⟨rfl, rfl⟩)
      refine (station_c _ _ _ _ _ _ _ _ _ _ _ s.stations _ (IsSky.ext ext_by hs').stations).mono ?_
      rw [Hhx.out]
      rintro e w2 ⟨rfl, h2⟩; obtain ⟨hc_w2, hf_w2, hz_w2⟩ := bcell h2; (try simp only [szA] at hz_w2); have : w.heap.size < w2.heap.size := (by omega); have : w.heap.size + 1 < w2.heap.size := (by omega)
      obtain ⟨hd0, hd1, A', n', c', hd2, hl'⟩ := bodyAt.ext (show Ext w w2 by exact ext_by) hc
      have hb0 := World.block_lt_of_cell? w2 _ hd0
      dsimp only at hb0
      go_wp2_with fail
      refine (trackat_c _ _ _ y.track tick _ (Vecs.ext ext_by hl') hy0 ht1 ht2).mono ?_
      rw [Hhp.out]
      rintro e w3 ⟨rfl, h3⟩; obtain ⟨hc_w3, hf_w3, hz_w3⟩ := bcell h3; (try simp only [szA] at hz_w3); have : w.heap.size < w3.heap.size := (by omega); have : w.heap.size + 1 < w3.heap.size := (by omega)
      have hw2 : w2.heap.size < w3.heap.size := by omega
      go_wp2_with fail
      (try simp only [Exit.inBlock, Exit.then]); apply bodyPost_ret; (focus (simp only [results, Tryz.results155]; go_simp; try rfl)); rfl
      exact ⟨rfl, ext_by⟩
  · have hM : whereM s id tick = none := by rw [whereM, if_neg hok]
    rw [hM]
    by_cases h0 : skyErr s = 0
    · have ht : within tick 0 1073741824 = false := by
        cases hw : within tick 0 1073741824
        · rfl
        · exact absurd ⟨h0, hw⟩ hok
      have Hh0 := Lib.hid h0; clear h0
      go_enter Tryz.func155, Tryz.ntmps155
      go_wp2_with fail
      refine (Check_c _ _ _ _ _ _ _ _ _ _ s _ (IsSky.ext ext_by hs)).mono ?_
      rw [Hh0.out]
      rintro e w1 ⟨rfl, h1⟩; obtain ⟨hc_w1, hf_w1, hz_w1⟩ := bcell h1; (try simp only [szA] at hz_w1); have : w.heap.size < w1.heap.size := (by omega); have : w.heap.size + 1 < w1.heap.size := (by omega)
      go_wp2_with (go_at_call 152; refine (within_c _ _ _ _).mono ?_; rintro e w' ⟨rfl, rfl⟩)
      (try simp only [Exit.inBlock, Exit.then]); apply bodyPost_ret; (focus (simp only [results, Tryz.results155]; go_simp; try rfl)); rfl
      exact ⟨rfl, ext_by⟩
    · have h0' : (skyErr s != 0) = true := by simpa using h0
      go_enter Tryz.func155, Tryz.ntmps155
      go_wp2_with fail
      refine (Check_c _ _ _ _ _ _ _ _ _ _ s _ (IsSky.ext ext_by hs)).mono ?_
      rintro e w1 ⟨rfl, h1⟩; obtain ⟨hc_w1, hf_w1, hz_w1⟩ := bcell h1; (try simp only [szA] at hz_w1); have : w.heap.size < w1.heap.size := (by omega); have : w.heap.size + 1 < w1.heap.size := (by omega)
      go_wp2_with fail
      (try simp only [Exit.inBlock, Exit.then]); apply bodyPost_ret; (focus (simp only [results, Tryz.results155]; go_simp; try rfl)); rfl
      exact ⟨rfl, ext_by⟩
end Go.Proofs.YtfniicgoeljmdaaGreat

namespace Go.Proofs.YtfniicgoeljmdaaGreat
open Go.RowKit

theorem mul_bd {a b A B : Int} (ha : -A ≤ a ∧ a ≤ A) (hb : -B ≤ b ∧ b ≤ B) : -(A * B) ≤ a * b ∧ a * b ≤ A * B := by
  have h1 : (a * b).natAbs ≤ A.toNat * B.toNat := by
    rw [Int.natAbs_mul]
    exact Nat.mul_le_mul (by omega) (by omega)
  have h2 : ((A.toNat * B.toNat : Nat) : Int) = A * B := by
    rw [Int.natCast_mul, Int.toNat_of_nonneg (by omega), Int.toNat_of_nonneg (by omega)]
  omega

def crossD (fx fy dx dy x y : Int) : Int := dx * (y - fy) - dy * (x - fx)
def dotD (fx fy dx dy x y : Int) : Int := dx * (x - fx) + dy * (y - fy)
def distD (ax ay bx by_ : Int) : Int := (ax - bx) * (ax - bx) + (ay - by_) * (ay - by_)
def behindB (fx fy dx dy x y : Int) : Bool := decide (dotD fx fy dx dy x y ≤ 0)
def belowB (fx fy dx dy lo x y : Int) : Bool := decide (1000000 * crossD fx fy dx dy x y < lo * dotD fx fy dx dy x y)
def aboveB (fx fy dx dy hi x y : Int) : Bool := decide (hi * dotD fx fy dx dy x y < 1000000 * crossD fx fy dx dy x y)
def inB (fx fy dx dy lo hi x y : Int) : Bool := !behindB fx fy dx dy x y && !belowB fx fy dx dy lo x y && !aboveB fx fy dx dy hi x y

structure CB (fx fy dx dy x y : Int) : Prop where
  fx : -34603008 ≤ fx ∧ fx ≤ 34603008
  fy : -34603008 ≤ fy ∧ fy ≤ 34603008
  dx : -4096 ≤ dx ∧ dx ≤ 4096
  dy : -4096 ≤ dy ∧ dy ≤ 4096
  x : -33554432 ≤ x ∧ x ≤ 33554432
  y : -33554432 ≤ y ∧ y ≤ 33554432
theorem CB.prods {fx fy dx dy x y : Int} (h : CB fx fy dx dy x y) :
    (-279172874240 ≤ dx * (y - fy) ∧ dx * (y - fy) ≤ 279172874240) ∧ (-279172874240 ≤ dy * (x - fx) ∧ dy * (x - fx) ≤ 279172874240) ∧
    (-279172874240 ≤ dx * (x - fx) ∧ dx * (x - fx) ≤ 279172874240) ∧ (-279172874240 ≤ dy * (y - fy) ∧ dy * (y - fy) ≤ 279172874240) := by
  obtain ⟨h1, h2, h3, h4, h5, h6⟩ := h
  have e1 : -68157440 ≤ y - fy ∧ y - fy ≤ 68157440 := by omega
  have e2 : -68157440 ≤ x - fx ∧ x - fx ≤ 68157440 := by omega
  exact ⟨mul_bd h3 e1, mul_bd h4 e2, mul_bd h3 e2, mul_bd h4 e1⟩
theorem CB.cross {fx fy dx dy x y : Int} (h : CB fx fy dx dy x y) : -558345748480 ≤ crossD fx fy dx dy x y ∧ crossD fx fy dx dy x y ≤ 558345748480 := by
  obtain ⟨h1, h2, _, _⟩ := h.prods; unfold crossD; omega
theorem CB.dot {fx fy dx dy x y : Int} (h : CB fx fy dx dy x y) : -558345748480 ≤ dotD fx fy dx dy x y ∧ dotD fx fy dx dy x y ≤ 558345748480 := by
  obtain ⟨_, _, h1, h2⟩ := h.prods; unfold dotD; omega

set_option maxRecDepth 4000 in
set_option maxHeartbeats 1000000 in
theorem turns_c (fx fy dx dy lo hi x y : Int) (w : World) (h : CB fx fy dx dy x y) :
    Calls Tryz.prog 217 #[.agg #[.int .i64 fx, .int .i64 fy, .int .i64 dx, .int .i64 dy, .int .i64 lo, .int .i64 hi], .agg #[.int .i64 x, .int .i64 y]] w fun e w' =>
      e = .returned (.tuple #[.int .i64 (crossD fx fy dx dy x y), .int .i64 (dotD fx fy dx dy x y)]) ∧ Ext w w' := by
  obtain ⟨⟨p1, p2⟩, ⟨p3, p4⟩, ⟨p5, p6⟩, p7, p8⟩ := h.prods
  obtain ⟨⟨h1, h2⟩, ⟨h3, h4⟩, ⟨h5, h6⟩, ⟨h7, h8⟩, ⟨h9, h10⟩, h11, h12⟩ := h
  go_enter Tryz.func217, Tryz.ntmps217
  go_wp2_with fail
  refine wp_region_text (by kernel_rfl) (by kernel_rfl) ?_
  repeat' (first | (refine bl_off (by rfl) ?_; simp only [putX]) | (apply bl_op; rfl; (intro w1 h1; obtain ⟨hc, hf, hz⟩ := bcell h1; go_simp; (try go_bits); (first | exact ⟨rfl, Ext.refl _⟩)); simp only [putX]) | (refine bl_split rfl rfl (fun hx => ?_) (fun hx => ?_) <;> simp only [hx]))
  refine bl_nil ?_
  intro w1 h1
  obtain ⟨hc_w1, hf_w1, hz_w1⟩ := bcell h1; (try simp only [szA] at hz_w1); have : w.heap.size < w1.heap.size := (by omega); have : w.heap.size + 1 < w1.heap.size := (by omega)
  go_wp2_with fail
  refine wp_region_text (by kernel_rfl) (by kernel_rfl) ?_
  repeat' (first | (refine bl_off (by rfl) ?_; simp only [putX]) | (apply bl_op; rfl; (intro w1 h1; obtain ⟨hc, hf, hz⟩ := bcell h1; go_simp; (try go_bits); (first | exact ⟨rfl, Ext.refl _⟩)); simp only [putX]) | (refine bl_split rfl rfl (fun hx => ?_) (fun hx => ?_) <;> simp only [hx]))
  refine bl_nil ?_
  intro w2 h2
  go_wp2_with fail
  go_ret2
  exact ⟨rfl, ext_by⟩

set_option maxRecDepth 4000 in
set_option maxHeartbeats 1000000 in
theorem sides_c (fx fy dx dy lo hi x y : Int) (w : World) (h : CB fx fy dx dy x y) (hlo : -1000000 ≤ lo ∧ lo ≤ 1000000) (hhi : -1000000 ≤ hi ∧ hi ≤ 1000000) :
    Calls Tryz.prog 176 #[.agg #[.int .i64 fx, .int .i64 fy, .int .i64 dx, .int .i64 dy, .int .i64 lo, .int .i64 hi], .agg #[.int .i64 x, .int .i64 y]] w fun e w' =>
      e = .returned (.tuple #[.bool (behindB fx fy dx dy x y), .bool (belowB fx fy dx dy lo x y), .bool (aboveB fx fy dx dy hi x y)]) ∧ Ext w w' := by
  obtain ⟨c1, c2⟩ := h.cross
  have hd := h.dot
  obtain ⟨q1, q2⟩ := mul_bd hlo hd
  obtain ⟨q3, q4⟩ := mul_bd hhi hd
  obtain ⟨d1, d2⟩ := hd
  unfold behindB belowB aboveB
  have HT := Lib.hid fun W => turns_c fx fy dx dy lo hi x y W h
  generalize crossD fx fy dx dy x y = C at *
  generalize dotD fx fy dx dy x y = D at *
  clear h hlo hhi
  go_enter Tryz.func176, Tryz.ntmps176
  go_wp2_with fail
  refine (HT.out _).mono ?_
  rintro e w1 ⟨rfl, h1⟩; obtain ⟨hc_w1, hf_w1, hz_w1⟩ := bcell h1; (try simp only [szA] at hz_w1); have : w.heap.size < w1.heap.size := (by omega); have : w.heap.size + 1 < w1.heap.size := (by omega)
  go_wp2_with fail
  refine wp_region_text (by kernel_rfl) (by kernel_rfl) ?_
  repeat' (first | (refine bl_off (by rfl) ?_; simp only [putX]) | (apply bl_op; rfl; (intro w1 h1; obtain ⟨hc, hf, hz⟩ := bcell h1; go_simp; (try go_bits); (first | exact ⟨rfl, Ext.refl _⟩)); simp only [putX]) | (refine bl_split rfl rfl (fun hx => ?_) (fun hx => ?_) <;> simp only [hx]))
  refine bl_nil ?_
  intro w2 h2
  go_wp2_with fail
  go_ret3
  exact ⟨rfl, ext_by⟩

set_option maxHeartbeats 1000000 in
theorem has_c (fx fy dx dy lo hi x y : Int) (w : World) (h : CB fx fy dx dy x y) (hlo : -1000000 ≤ lo ∧ lo ≤ 1000000) (hhi : -1000000 ≤ hi ∧ hi ≤ 1000000) :
    Calls Tryz.prog 182 #[.agg #[.int .i64 fx, .int .i64 fy, .int .i64 dx, .int .i64 dy, .int .i64 lo, .int .i64 hi], .agg #[.int .i64 x, .int .i64 y]] w fun e w' =>
      e = .returned (.bool (inB fx fy dx dy lo hi x y)) ∧ Ext w w' := by
  unfold inB
  have HT := Lib.hid fun W => sides_c fx fy dx dy lo hi x y W h hlo hhi
  generalize behindB fx fy dx dy x y = a at *
  generalize belowB fx fy dx dy lo x y = b at *
  generalize aboveB fx fy dx dy hi x y = c at *
  clear h hlo hhi
  go_enter Tryz.func182, Tryz.ntmps182
  go_wp2_with fail
  refine (HT.out _).mono ?_
  rintro e w1 ⟨rfl, h1⟩; obtain ⟨hc_w1, hf_w1, hz_w1⟩ := bcell h1; (try simp only [szA] at hz_w1); have : w.heap.size < w1.heap.size := (by omega); have : w.heap.size + 1 < w1.heap.size := (by omega)
  cases a <;> cases b <;> cases c
  all_goals go_wp2_with fail
  all_goals go_ret
  all_goals exact ⟨rfl, ext_by⟩

set_option maxHeartbeats 1000000 in
theorem distance_c (ax ay bx by_ : Int) (w : World) (h1 : -68157440 ≤ ax - bx ∧ ax - bx ≤ 68157440) (h2 : -68157440 ≤ ay - by_ ∧ ay - by_ ≤ 68157440) :
    Calls Tryz.prog 178 #[.agg #[.int .i64 ax, .int .i64 ay], .agg #[.int .i64 bx, .int .i64 by_]] w fun e w' =>
      e = .returned (.int .i64 (distD ax ay bx by_)) ∧ Ext w w' := by
  obtain ⟨q1, q2⟩ := mul_bd h1 h1
  obtain ⟨q3, q4⟩ := mul_bd h2 h2
  obtain ⟨h1, h1'⟩ := h1
  obtain ⟨h2, h2'⟩ := h2
  go_enter Tryz.func178, Tryz.ntmps178
  go_wp2_with fail
  go_ret
  exact ⟨rfl, ext_by⟩
end Go.Proofs.YtfniicgoeljmdaaGreat
