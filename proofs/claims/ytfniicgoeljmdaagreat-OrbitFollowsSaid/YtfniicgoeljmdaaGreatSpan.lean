/- What the checks of worlds and skies compute, of the program and of the reference. No condition. Spans: the program's checks, sums and differences. No condition. -/
import Derived.Test.YtfniicgoeljmdaaGreatRegion
import Derived.Handy
namespace Go.Proofs.YtfniicgoeljmdaaGreat
open Go.RowKit

def within (n lo hi : Int) : Bool := decide (lo ≤ n) && decide (n ≤ hi)
def near (p : Vec) (m : Int) : Bool := within p.x (-m) m && within p.y (-m) m
theorem ret_b {a b : Bool} (h : a = b) : Ending.returned (.bool a) = .returned (.bool b) := by rw [h]
theorem ret_i {a b : Int} (h : a = b) : Ending.returned (.int .i64 a) = .returned (.int .i64 b) := by rw [h]

set_option maxHeartbeats 400000 in
theorem within_c (a b c : Int) (w : World) :
    Calls Tryz.prog 152 #[.int .i64 a, .int .i64 b, .int .i64 c] w fun e w' => e = .returned (.bool (within a b c)) ∧ w = w' := by
  go_enter Tryz.func152, Tryz.ntmps152
  go_wp2
  all_goals go_ret
  all_goals exact ⟨ret_b (by simp [within, *] <;> omega), rfl⟩

set_option maxHeartbeats 400000 in
theorem between_c (a b c : Int) (w : World) :
    Calls Tryz.prog 133 #[.int .i64 a, .int .i64 b, .int .i64 c] w fun e w' => e = .returned (.bool (within a b c)) ∧ w = w' := by
  go_enter Tryz.func133, Tryz.ntmps133
  go_wp2
  all_goals go_ret
  all_goals exact ⟨ret_b (by simp [within, *] <;> omega), rfl⟩

set_option maxHeartbeats 400000 in
theorem near_c (x y m : Int) (w : World) (h0 : 0 ≤ m) (h1 : m ≤ 1152921504606846976) :
    Calls Tryz.prog 118 #[.agg #[.int .i64 x, .int .i64 y], .int .i64 m] w fun e w' => e = .returned (.bool (near ⟨x, y⟩ m)) ∧ Ext w w' := by
  go_enter Tryz.func118, Tryz.ntmps118
  go_wp2_with (go_at_call 152; refine (within_c _ _ _ _).mono ?_; rintro e w' ⟨rfl, rfl⟩)
  all_goals go_ret
  all_goals refine ⟨ret_b (by simp_all [near]), Ext.alloc0 _ _⟩

set_option maxHeartbeats 400000 in
theorem Near_c (x y : Int) (w : World) :
    Calls Tryz.prog 132 #[.agg #[.int .i64 x, .int .i64 y]] w fun e w' => e = .returned (.bool (near ⟨x, y⟩ 33554432)) ∧ Ext w w' := by
  go_enter Tryz.func132, Tryz.ntmps132
  go_wp2_with (go_at_call 133; refine (between_c _ _ _ _).mono ?_; rintro e w' ⟨rfl, rfl⟩)
  all_goals go_ret
  all_goals refine ⟨ret_b (by simp_all [near]), Ext.alloc0 _ _⟩

/-- The number of the first element, from k on, of which p is true; -1 if there is none. -/
def idxFrom {α : Type} (p : α → Bool) : List α → Nat → Int
  | [], _ => -1
  | x :: xs, k => if p x then k else idxFrom p xs (k + 1)
def hasP {α : Type} (p : α → Bool) (l : List α) : Bool := decide (0 ≤ idxFrom p l 0)


set_option maxHeartbeats 400000 in
theorem idxVec_c (A : Option Addr) (n c : Nat) (l : List Vec) (fid : Nat) (cap : Array Value) (p : Vec → Bool) (w : World) (hl : Vecs w A n l)
    (hcall : ∀ (xs : Array Value) (W : World), (callFunc fid xs).run Tryz.prog W = .ok (.enter fid xs) W)
    (hf : ∀ x ∈ l, ∀ W, Ext w W → Calls Tryz.prog fid (#[.agg #[.int .i64 x.x, .int .i64 x.y]] ++ cap) W fun e w' => e = .returned (.bool (p x)) ∧ Ext W w') :
    Calls Tryz.prog 220 #[.slice A n c, .func (.func fid) #[] cap] w fun e w' => e = .returned (.int .i64 (idxFrom p l 0)) ∧ Ext w w' := by
  have hn := hl.le
  have Hf := Lib.hid hf
  clear hf
  go_enter Tryz.func220, Tryz.ntmps220
  go_wp2_with fail
  go_loopw [8] (fun i wr => ∃ k : Nat, k ≤ n ∧ i = .int .i64 k ∧ Hid (idxFrom p (l.drop k) k = idxFrom p l 0) ∧ Ext w wr) (fun i _ => n - (intOf i).toNat)
  case atStart => exact ⟨0, Nat.zero_le _, rfl, rfl, Ext.refl _⟩
  case round =>
    obtain ⟨k, hk, rfl, HI, hb⟩ := hrel
    by_cases hlt : k < n
    · obtain ⟨b, off, x, rfl, HD, hxm, hx⟩ := hl.one hlt
      obtain ⟨hx0, hx1⟩ := vecAt.ext hb hx
      go_wp2_with fail
      refine (Hf.out x hxm _ hb).mono ?_
      rintro e w1 ⟨rfl, h1⟩
      cases hp : p x
      · go_wp2_with fail
        go_roundw
        case rel => exact ⟨k + 1, by omega, by go_num, by have := HI.out; rw [HD.out] at this; simpa [Hid, idxFrom, hp] using this, hb.trans h1⟩
        case measure => simp [intOf]; omega
      · go_wp2_with fail
        go_ret
        exact ⟨ret_i (by have := HI.out; rw [HD.out] at this; simpa [idxFrom, hp] using this), hb.trans h1⟩
    · have : k = l.length := by have := hl.len; omega
      subst this
      go_wp2_with fail
      go_ret
      refine ⟨ret_i ?_, hb⟩
      have := HI.out
      simpa [idxFrom] using this

set_option maxHeartbeats 400000 in
theorem hasVec_c (A : Option Addr) (n c : Nat) (l : List Vec) (fid : Nat) (cap : Array Value) (p : Vec → Bool) (w : World) (hl : Vecs w A n l)
    (hcall : ∀ (xs : Array Value) (W : World), (callFunc fid xs).run Tryz.prog W = .ok (.enter fid xs) W)
    (hf : ∀ x ∈ l, ∀ W, Ext w W → Calls Tryz.prog fid (#[.agg #[.int .i64 x.x, .int .i64 x.y]] ++ cap) W fun e w' => e = .returned (.bool (p x)) ∧ Ext W w') :
    Calls Tryz.prog 194 #[.slice A n c, .func (.func fid) #[] cap] w fun e w' => e = .returned (.bool (hasP p l)) ∧ Ext w w' := by
  have Hf := Lib.hid hf
  clear hf
  go_enter Tryz.func194, Tryz.ntmps194
  go_wp2_with fail
  refine (idxVec_c A n c l fid cap p w hl hcall Hf.out).mono ?_
  rintro e w1 ⟨rfl, h1⟩
  go_wp2_with fail
  go_ret
  exact ⟨ret_b (by simp [hasP]), h1⟩


set_option maxHeartbeats 400000 in
theorem checkBody1_c (x y : Int) (w : World) :
    Calls Tryz.prog 195 #[.agg #[.int .i64 x, .int .i64 y]] w fun e w' => e = .returned (.bool (!near ⟨x, y⟩ 33554432)) ∧ Ext w w' := by
  go_enter Tryz.func195, Tryz.ntmps195
  go_wp2_with fail
  refine (near_c _ _ _ _ (by omega) (by omega)).mono ?_
  rintro e w1 ⟨rfl, h1⟩
  go_wp2_with fail
  go_ret
  exact ⟨ret_b (by simp), (Ext.alloc0 _ _).trans h1⟩

def bodyErr (b : Body) : Int :=
  if !(within b.mu 0 1125899906842624) || !(within b.radius 0 1048576) then 2
  else if b.track.length = 0 then 6
  else if 4096 < b.track.length then 8
  else if hasP (fun p => !near p 33554432) b.track then 2
  else 0

set_option maxHeartbeats 400000 in
theorem checkBody_c (mu radius : Int) (A : Option Addr) (n c : Nat) (l : List Vec) (w : World) (hl : Vecs w A n l) :
    Calls Tryz.prog 156 #[.agg #[.int .i64 mu, .int .i64 radius, .slice A n c]] w fun e w' => e = .returned (.int .i64 (bodyErr ⟨mu, radius, l⟩)) ∧ Ext w w' := by
  have hn := hl.le
  have hln := Lib.hid hl.len
  go_enter Tryz.func156, Tryz.ntmps156
  go_wp2_with (first
    | (go_at_call 152; refine (within_c _ _ _ _).mono ?_; rintro e w' ⟨rfl, rfl⟩)
    | (go_at_call 194; refine (hasVec_c A n c l 195 #[] (fun p => !near p 33554432) _ (Vecs.ext (Ext.alloc0 _ _) hl) Tryz.call195 (fun x _ W _ => checkBody1_c x.x x.y W)).mono ?_; rintro e w' ⟨rfl, h1⟩))
  all_goals go_ret
  all_goals refine ⟨ret_i ?_, by (repeat' (first | exact Ext.refl _ | assumption | apply Ext.alloc | apply Ext.drew | refine Ext.set ?_ (by dsimp only; omega) _ | refine Ext.trans ?_ (by assumption)))⟩
  all_goals (have hln := hln.out; subst hln; simp_all [bodyErr]; try omega)

/-- The first error of the bodies. -/
def bodiesErr : List Body → Int
  | [] => 0
  | b :: r => if bodyErr b = 0 then bodiesErr r else bodyErr b
def wldErr (w : Wld) : Int :=
  if w.bodies.length = 0 then 6
  else if 8 < w.bodies.length then 8
  else if bodiesErr w.bodies ≠ 0 then bodiesErr w.bodies
  else if w.home < 0 ∨ (w.bodies.length : Int) ≤ w.home then 7
  else 0

set_option maxHeartbeats 400000 in
theorem CheckWorld_c (A : Option Addr) (n c : Nat) (home : Int) (l : List Body) (w : World) (hl : Bodies w A n l) :
    Calls Tryz.prog 120 #[.agg #[.slice A n c, .int .i64 home]] w fun e w' => e = .returned (.int .i64 (wldErr ⟨l, home⟩)) ∧ Ext w w' := by
  have hn := hl.le
  have hln := Lib.hid hl.len
  by_cases h8 : 1 ≤ n ∧ n ≤ 8
  · obtain ⟨h1, h8⟩ := h8
    have h0 : ((n : Int) == 0) = false := by simp; omega
    go_enter Tryz.func120, Tryz.ntmps120
    go_wp2_with fail
    go_loopw [19] (fun i wr => ∃ k : Nat, k ≤ n ∧ i = .int .i64 k ∧ Hid (bodiesErr (l.drop k) = bodiesErr l) ∧ Ext (w.alloc (.cells #[.slice A n c, .int .i64 home] 24)) wr) (fun i _ => n - (intOf i).toNat)
    case atStart => exact ⟨0, Nat.zero_le _, rfl, rfl, Ext.refl _⟩
    case round =>
      obtain ⟨k, hk, rfl, HI, hb⟩ := hrel
      obtain ⟨hcb, hfb, hzb⟩ := bcell hb
      simp only [World.size_alloc] at hzb
      by_cases hlt : k < n
      · obtain ⟨b, off, x, rfl, HD, hxm, hx⟩ := hl.one hlt
        obtain ⟨hx0, hx1, A', n', c', hx2, hx3⟩ := bodyAt.ext (Ext.trans (Ext.alloc0 _ _) hb) hx
        go_wp2_with fail
        refine (checkBody_c _ _ _ _ _ x.track _ (Vecs.ext (Ext.alloc0 _ _) hx3)).mono ?_
        rintro e w1 ⟨rfl, h1⟩
        obtain ⟨M, HM⟩ : ∃ M, bodyErr ⟨x.mu, x.radius, x.track⟩ = M := ⟨_, rfl⟩
        rw [HM]
        have HHM := Lib.hid HM; clear HM
        by_cases hp : M = 0
        · subst hp
          go_wp2_with fail
          go_roundw
          case rel => exact ⟨k + 1, by omega, by go_num, by have := HI.out; rw [HD.out] at this; simpa [Hid, bodiesErr, HHM.out] using this, by (repeat' (first | exact Ext.refl _ | assumption | apply Ext.alloc | apply Ext.drew | refine Ext.set ?_ (by dsimp only; omega) _ | refine Ext.trans ?_ (by assumption)))⟩
          case measure => simp [intOf]; omega
        · have hp' : (M != 0) = true := by simpa using hp
          go_wp2_with fail
          go_ret
          refine ⟨ret_i ?_, by (repeat' (first | exact Ext.refl _ | assumption | apply Ext.alloc | apply Ext.drew | refine Ext.set ?_ (by dsimp only; omega) _ | refine Ext.trans ?_ (by assumption)))⟩
          have := HI.out; rw [HD.out] at this; have h4 := hln.out; subst h4
          have h5 := HHM.out
          simp [bodiesErr, h5, hp] at this
          have h6 : l ≠ [] := by intro h; subst h; simp at h1
          simp [wldErr, ← this, hp, h6]; omega
      · have : k = n := by omega
        subst this
        go_wp2_with fail
        all_goals go_ret
        all_goals refine ⟨ret_i ?_, by (repeat' (first | exact Ext.refl _ | assumption | apply Ext.alloc | apply Ext.drew | refine Ext.set ?_ (by dsimp only; omega) _ | refine Ext.trans ?_ (by assumption)))⟩
        all_goals (have h4 := hln.out; have := HI.out; subst h4; simp [bodiesErr] at this; have h6 : l ≠ [] := by (intro h; subst h; simp at h1))
        all_goals (simp [wldErr, ← this, h6]; omega)
  · go_enter Tryz.func120, Tryz.ntmps120
    go_wp2_with fail
    all_goals (first | (exfalso; simp at *; omega) | go_ret)
    all_goals refine ⟨ret_i ?_, by (repeat' (first | exact Ext.refl _ | assumption | apply Ext.alloc | apply Ext.drew | refine Ext.set ?_ (by dsimp only; omega) _ | refine Ext.trans ?_ (by assumption)))⟩
    all_goals (have hln := hln.out; subst hln; simp_all [wldErr]; try omega)

theorem hasP_eq {α : Type} (p : α → Bool) (l : List α) : hasP p l = l.any p := by
  have h : ∀ (l : List α) (k : Nat), decide (0 ≤ idxFrom p l k) = l.any p := by
    intro l
    induction l with
    | nil => intro k; simp [idxFrom]
    | cons x r ih => intro k; cases hp : p x <;> simp [idxFrom, hp, ih]
  exact h l 0

set_option maxHeartbeats 400000 in
theorem body_c (mu radius : Int) (A : Option Addr) (n c : Nat) (l : List Vec) (w : World) (hl : Vecs w A n l) :
    Calls Tryz.prog 158 #[.agg #[.int .i64 mu, .int .i64 radius, .slice A n c]] w fun e w' => e = .returned (.int .i64 (bodyErr ⟨mu, radius, l⟩)) ∧ Ext w w' := by
  have hn := hl.le
  have hln := Lib.hid hl.len
  have hcase : (within mu 0 1125899906842624 = true ∧ within radius 0 1048576 = true ∧ 1 ≤ n ∧ n ≤ 4096) ∨ (within mu 0 1125899906842624 = false ∨ within radius 0 1048576 = false ∨ n = 0 ∨ 4096 < n) := by
    cases within mu 0 1125899906842624 <;> cases within radius 0 1048576 <;> simp <;> omega
  rcases hcase with ⟨hwa, hwb, h1, h8⟩ | h8
  · 
    have h0 : ((n : Int) == 0) = false := by simp; omega
    go_enter Tryz.func158, Tryz.ntmps158
    go_wp2_with (go_at_call 133; refine (between_c _ _ _ _).mono ?_; rintro e w' ⟨rfl, rfl⟩)
    go_loopw [3] (fun i wr => ∃ k : Nat, k ≤ n ∧ i = .int .i64 k ∧ Hid ((l.drop k).any (fun p => !near p 33554432) = l.any (fun p => !near p 33554432)) ∧ Ext (w.alloc (.cells #[.int .i64 mu, .int .i64 radius, .slice A n c] 97)) wr) (fun i _ => n - (intOf i).toNat)
    case atStart => exact ⟨0, Nat.zero_le _, rfl, rfl, Ext.refl _⟩
    case round =>
      obtain ⟨k, hk, rfl, HI, hb⟩ := hrel
      obtain ⟨hcb, hfb, hzb⟩ := bcell hb
      simp only [World.size_alloc] at hzb
      by_cases hlt : k < n
      · obtain ⟨b, off, x, rfl, HD, hxm, hx⟩ := hl.one hlt
        obtain ⟨hx0, hx1⟩ := vecAt.ext (Ext.trans (Ext.alloc0 _ _) hb) hx
        go_wp2_with fail
        refine (Near_c _ _ _).mono ?_
        rintro e w1 ⟨rfl, h1⟩
        cases hp : near x 33554432
        · go_wp2_with fail
          go_ret
          refine ⟨ret_i ?_, by (repeat' (first | exact Ext.refl _ | assumption | apply Ext.alloc | apply Ext.drew | refine Ext.set ?_ (by dsimp only; omega) _ | refine Ext.trans ?_ (by assumption)))⟩
          have := HI.out; rw [HD.out] at this; have h4 := hln.out; subst h4
          simp only [List.any_cons, hp] at this
          have h6 : l ≠ [] := by intro h; subst h; simp at h1
          simp [bodyErr, hasP_eq, ← this, hwa, hwb, h6]; omega
        · go_wp2_with fail
          go_roundw
          case rel => exact ⟨k + 1, by omega, by go_num, by have := HI.out; rw [HD.out] at this; simpa [Hid, hp] using this, by (repeat' (first | exact Ext.refl _ | assumption | apply Ext.alloc | apply Ext.drew | refine Ext.set ?_ (by dsimp only; omega) _ | refine Ext.trans ?_ (by assumption)))⟩
          case measure => simp [intOf]; omega
      · have : k = n := by omega
        subst this
        go_wp2_with fail
        go_ret
        refine ⟨ret_i ?_, by (repeat' (first | exact Ext.refl _ | assumption | apply Ext.alloc | apply Ext.drew | refine Ext.set ?_ (by dsimp only; omega) _ | refine Ext.trans ?_ (by assumption)))⟩
        have h4 := hln.out; have := HI.out; subst h4; simp only [List.drop_length, List.any_nil] at this
        have h6 : l ≠ [] := by intro h; subst h; simp at h1
        simp [bodyErr, hasP_eq, ← this, hwa, hwb, h6]; omega
  · rcases h8 with h8 | h8 | h8 | h8
    all_goals (first | subst h8 | skip)
    all_goals go_enter Tryz.func158, Tryz.ntmps158
    all_goals go_wp2_with (go_at_call 133; refine (between_c _ _ _ _).mono ?_; rintro e w' ⟨rfl, rfl⟩)
    all_goals go_ret
    all_goals refine ⟨ret_i ?_, by (repeat' (first | exact Ext.refl _ | assumption | apply Ext.alloc | apply Ext.drew | refine Ext.set ?_ (by dsimp only; omega) _ | refine Ext.trans ?_ (by assumption)))⟩
    all_goals (have hln := hln.out; try subst hln)
    all_goals (first | (simp_all [bodyErr]; done) | (simp_all [bodyErr]; omega))

set_option maxHeartbeats 400000 in
theorem refWorld_c (A : Option Addr) (n c : Nat) (home : Int) (l : List Body) (w : World) (hl : Bodies w A n l) :
    Calls Tryz.prog 122 #[.agg #[.slice A n c, .int .i64 home]] w fun e w' => e = .returned (.int .i64 (wldErr ⟨l, home⟩)) ∧ Ext w w' := by
  have hn := hl.le
  have hln := Lib.hid hl.len
  by_cases h8 : 1 ≤ n ∧ n ≤ 8
  · obtain ⟨h1, h8⟩ := h8
    have h0 : ((n : Int) == 0) = false := by simp; omega
    go_enter Tryz.func122, Tryz.ntmps122
    go_wp2_with fail
    go_loopw [3] (fun i wr => ∃ k : Nat, k ≤ n ∧ i = .int .i64 k ∧ Hid (bodiesErr (l.drop k) = bodiesErr l) ∧ Ext (w.alloc (.cells #[.slice A n c, .int .i64 home] 24)) wr) (fun i _ => n - (intOf i).toNat)
    case atStart => exact ⟨0, Nat.zero_le _, rfl, rfl, Ext.refl _⟩
    case round =>
      obtain ⟨k, hk, rfl, HI, hb⟩ := hrel
      obtain ⟨hcb, hfb, hzb⟩ := bcell hb
      simp only [World.size_alloc] at hzb
      by_cases hlt : k < n
      · obtain ⟨b, off, x, rfl, HD, hxm, hx⟩ := hl.one hlt
        obtain ⟨hx0, hx1, A', n', c', hx2, hx3⟩ := bodyAt.ext (Ext.trans (Ext.alloc0 _ _) hb) hx
        go_wp2_with fail
        refine (body_c _ _ _ _ _ x.track _ hx3).mono ?_
        rintro e w1 ⟨rfl, h1⟩
        obtain ⟨M, HM⟩ : ∃ M, bodyErr ⟨x.mu, x.radius, x.track⟩ = M := ⟨_, rfl⟩
        rw [HM]
        have HHM := Lib.hid HM; clear HM
        by_cases hp : M = 0
        · subst hp
          go_wp2_with fail
          go_roundw
          case rel => exact ⟨k + 1, by omega, by go_num, by have := HI.out; rw [HD.out] at this; simpa [Hid, bodiesErr, HHM.out] using this, by (repeat' (first | exact Ext.refl _ | assumption | apply Ext.alloc | apply Ext.drew | refine Ext.set ?_ (by dsimp only; omega) _ | refine Ext.trans ?_ (by assumption)))⟩
          case measure => simp [intOf]; omega
        · have hp' : (M != 0) = true := by simpa using hp
          go_wp2_with fail
          go_ret
          refine ⟨ret_i ?_, by (repeat' (first | exact Ext.refl _ | assumption | apply Ext.alloc | apply Ext.drew | refine Ext.set ?_ (by dsimp only; omega) _ | refine Ext.trans ?_ (by assumption)))⟩
          have := HI.out; rw [HD.out] at this; have h4 := hln.out; subst h4
          have h5 := HHM.out
          simp [bodiesErr, h5, hp] at this
          have h6 : l ≠ [] := by intro h; subst h; simp at h1
          simp [wldErr, ← this, hp, h6]; omega
      · have : k = n := by omega
        subst this
        go_wp2_with fail
        all_goals go_ret
        all_goals refine ⟨ret_i ?_, by (repeat' (first | exact Ext.refl _ | assumption | apply Ext.alloc | apply Ext.drew | refine Ext.set ?_ (by dsimp only; omega) _ | refine Ext.trans ?_ (by assumption)))⟩
        all_goals (have h4 := hln.out; have := HI.out; subst h4; simp [bodiesErr] at this; have h6 : l ≠ [] := by (intro h; subst h; simp at h1))
        all_goals (simp [wldErr, ← this, h6]; omega)
  · go_enter Tryz.func122, Tryz.ntmps122
    go_wp2_with fail
    all_goals (first | (exfalso; simp at *; omega) | go_ret)
    all_goals refine ⟨ret_i ?_, by (repeat' (first | exact Ext.refl _ | assumption | apply Ext.alloc | apply Ext.drew | refine Ext.set ?_ (by dsimp only; omega) _ | refine Ext.trans ?_ (by assumption)))⟩
    all_goals (have hln := hln.out; subst hln; simp_all [wldErr]; try omega)
end Go.Proofs.YtfniicgoeljmdaaGreat

namespace Go.Proofs.YtfniicgoeljmdaaGreat
open Go.RowKit

structure Sp where
  lo : Int
  hi : Int
def fitsP (n : Int) : Bool := within n (-1152921504606846976) 1152921504606846976
theorem fitsP_iff {n : Int} : fitsP n = true ↔ -1152921504606846976 ≤ n ∧ n ≤ 1152921504606846976 := by simp [fitsP, within]
def spErr (s : Sp) : Int := if fitsP s.lo && fitsP s.hi then (if s.hi < s.lo then 11 else 0) else 2
theorem spErr_ok {s : Sp} : spErr s = 0 ↔ -1152921504606846976 ≤ s.lo ∧ s.lo ≤ s.hi ∧ s.hi ≤ 1152921504606846976 := by
  unfold spErr
  cases h1 : fitsP s.lo <;> cases h2 : fitsP s.hi
  all_goals simp only [Bool.and_self, Bool.and_true, Bool.and_false, Bool.false_eq_true, if_false, if_true]
  all_goals simp only [fitsP, within, Bool.and_eq_true, Bool.and_eq_false_imp, decide_eq_true_eq, decide_eq_false_iff_not] at h1 h2
  · constructor
    · intro h; cases h
    · omega
  · constructor
    · intro h; cases h
    · omega
  · constructor
    · intro h; cases h
    · omega
  · by_cases h3 : s.hi < s.lo
    · rw [if_pos h3]
      constructor
      · intro h; cases h
      · omega
    · rw [if_neg h3]
      constructor
      · intro _; omega
      · intro _; rfl
def sp2Err (a b : Sp) : Int := if spErr a = 0 then spErr b else spErr a
/-- A span, or an error. -/
structure SpR where
  s : Sp
  e : Int
def noSp (e : Int) : SpR := ⟨⟨0, 0⟩, e⟩
def endsM (lo hi : Int) : SpR := if fitsP lo && fitsP hi then ⟨⟨lo, hi⟩, 0⟩ else noSp 14
def addM (a b : Sp) : SpR := if sp2Err a b = 0 then endsM (a.lo + b.lo) (a.hi + b.hi) else noSp (sp2Err a b)
def subM (a b : Sp) : SpR := if sp2Err a b = 0 then endsM (a.lo - b.hi) (a.hi - b.lo) else noSp (sp2Err a b)
abbrev spRV (r : SpR) : Value := .tuple #[.agg #[.int .i64 r.s.lo, .int .i64 r.s.hi], .int .i64 r.e]
theorem ret_v {a b : Value} (h : a = b) : Ending.returned a = .returned b := by rw [h]

set_option maxHeartbeats 400000 in
theorem sp_within_c (a b c : Int) (w : World) :
    Calls Tryz.prog 241 #[.int .i64 a, .int .i64 b, .int .i64 c] w fun e w' => e = .returned (.bool (within a b c)) ∧ w = w' := by
  go_enter Tryz.func241, Tryz.ntmps241
  go_wp2
  all_goals go_ret
  all_goals exact ⟨ret_b (by simp [within, *] <;> omega), rfl⟩
set_option maxHeartbeats 400000 in
theorem spFits_c (a : Int) (w : World) :
    Calls Tryz.prog 261 #[.int .i64 a] w fun e w' => e = .returned (.bool (fitsP a)) ∧ w = w' := by
  go_enter Tryz.func261, Tryz.ntmps261
  go_wp2_with (go_at_call 241; refine (sp_within_c _ _ _ _).mono ?_; rintro e w' ⟨rfl, rfl⟩)
  go_ret
  exact ⟨rfl, rfl⟩
set_option maxHeartbeats 400000 in
theorem spCheck_c (lo hi : Int) (w : World) :
    Calls Tryz.prog 240 #[.agg #[.int .i64 lo, .int .i64 hi]] w fun e w' => e = .returned (.int .i64 (spErr ⟨lo, hi⟩)) ∧ Ext w w' := by
  unfold spErr
  dsimp only
  have H1 := Lib.hid fun W => spFits_c lo W
  have H2 := Lib.hid fun W => spFits_c hi W
  generalize fitsP lo = f1 at *
  generalize fitsP hi = f2 at *
  go_enter Tryz.func240, Tryz.ntmps240
  cases f1 <;> cases f2
  all_goals go_wp2_with fail
  all_goals refine (H1.out _).mono ?_
  all_goals rintro e _ ⟨rfl, rfl⟩
  all_goals go_wp2_with fail
  all_goals try (refine (H2.out _).mono ?_; rintro e _ ⟨rfl, rfl⟩; go_wp2_with fail)
  all_goals go_ret
  all_goals refine ⟨ret_i ?_, by (repeat' (first | exact Ext.refl _ | assumption | apply Ext.alloc | apply Ext.drew | refine Ext.set ?_ (by dsimp only; omega) _ | refine Ext.trans ?_ (by assumption)))⟩
  all_goals simp <;> omega
set_option maxHeartbeats 400000 in
theorem spValid_c (al ah bl bh : Int) (w : World) :
    Calls Tryz.prog 221 #[.agg #[.int .i64 al, .int .i64 ah], .agg #[.int .i64 bl, .int .i64 bh]] w fun e w' => e = .returned (.int .i64 (sp2Err ⟨al, ah⟩ ⟨bl, bh⟩)) ∧ Ext w w' := by
  unfold sp2Err
  have H1 := Lib.hid fun W => spCheck_c al ah W
  have H2 := Lib.hid fun W => spCheck_c bl bh W
  generalize spErr ⟨al, ah⟩ = f1 at *
  generalize spErr ⟨bl, bh⟩ = f2 at *
  by_cases h : f1 = 0
  · subst h
    go_enter Tryz.func221, Tryz.ntmps221
    go_wp2_with fail
    refine (H1.out _).mono ?_
    rintro e w1 ⟨rfl, h1⟩
    obtain ⟨hc_w1, hf_w1, hz_w1⟩ := bcell h1
    simp only [World.size_alloc] at hz_w1
    go_wp2_with fail
    refine (H2.out _).mono ?_
    rintro e w2 ⟨rfl, h2⟩
    obtain ⟨hc_w2, hf_w2, hz_w2⟩ := bcell h2; (repeat (first | rw [World.size_alloc] at hz_w2 | rw [World.size_drew] at hz_w2 | rw [World.size_setCell] at hz_w2)); (try (have : w.heap.size < w2.heap.size := (by omega))); (try (have : w.heap.size + 1 < w2.heap.size := (by omega))); (try (have : w.heap.size + 1 + 1 < w2.heap.size := (by omega))); (try (have : w.heap.size + 1 + 1 + 1 < w2.heap.size := (by omega))); (try (have : w.heap.size + 1 + 1 + 1 + 1 < w2.heap.size := (by omega)))
    go_wp2_with fail
    go_ret
    exact ⟨rfl, by (repeat' (first | exact Ext.refl _ | assumption | apply Ext.alloc | apply Ext.drew | refine Ext.set ?_ (by dsimp only; omega) _ | refine Ext.trans ?_ (by assumption)))⟩
  · rw [if_neg h]
    go_enter Tryz.func221, Tryz.ntmps221
    go_wp2_with fail
    refine (H1.out _).mono ?_
    rintro e w1 ⟨rfl, h1⟩
    obtain ⟨hc_w1, hf_w1, hz_w1⟩ := bcell h1
    go_wp2_with fail
    go_ret
    exact ⟨rfl, by (repeat' (first | exact Ext.refl _ | assumption | apply Ext.alloc | apply Ext.drew | refine Ext.set ?_ (by dsimp only; omega) _ | refine Ext.trans ?_ (by assumption)))⟩
set_option maxHeartbeats 400000 in
theorem ends_c (lo hi : Int) (w : World) :
    Calls Tryz.prog 248 #[.int .i64 lo, .int .i64 hi] w fun e w' => e = .returned (spRV (endsM lo hi)) ∧ Ext w w' := by
  unfold endsM noSp
  have H1 := Lib.hid fun W => spFits_c lo W
  have H2 := Lib.hid fun W => spFits_c hi W
  generalize fitsP lo = f1 at *
  generalize fitsP hi = f2 at *
  go_enter Tryz.func248, Tryz.ntmps248
  cases f1 <;> cases f2
  all_goals go_wp2_with fail
  all_goals refine (H1.out _).mono ?_
  all_goals rintro e _ ⟨rfl, rfl⟩
  all_goals go_wp2_with fail
  all_goals try (refine (H2.out _).mono ?_; rintro e _ ⟨rfl, rfl⟩; go_wp2_with fail)
  all_goals ((try simp only [Exit.inBlock, Exit.then]); apply bodyPost_ret; (focus (simp only [results, Tryz.results248]; go_simp; try rfl)); rfl)
  all_goals exact ⟨rfl, by (repeat' (first | exact Ext.refl _ | assumption | apply Ext.alloc | apply Ext.drew | refine Ext.set ?_ (by dsimp only; omega) _ | refine Ext.trans ?_ (by assumption)))⟩
set_option maxHeartbeats 400000 in
theorem Add_c (al ah bl bh : Int) (w : World) :
    Calls Tryz.prog 227 #[.agg #[.int .i64 al, .int .i64 ah], .agg #[.int .i64 bl, .int .i64 bh]] w fun e w' => e = .returned (spRV (addM ⟨al, ah⟩ ⟨bl, bh⟩)) ∧ Ext w w' := by
  unfold addM
  have H1 := Lib.hid fun W => spValid_c al ah bl bh W
  have H2 := Lib.hid fun W => ends_c (al + bl) (ah + bh) W
  dsimp only
  by_cases h : sp2Err ⟨al, ah⟩ ⟨bl, bh⟩ = 0
  · have hb : (-1152921504606846976 ≤ al ∧ al ≤ ah ∧ ah ≤ 1152921504606846976) ∧ -1152921504606846976 ≤ bl ∧ bl ≤ bh ∧ bh ≤ 1152921504606846976 := by
      unfold sp2Err at h
      by_cases h1 : spErr ⟨al, ah⟩ = 0
      · rw [if_pos h1] at h
        exact ⟨spErr_ok.1 h1, spErr_ok.1 h⟩
      · rw [if_neg h1] at h
        exact absurd h h1
    obtain ⟨⟨h1, h2, h3⟩, h4, h5, h6⟩ := hb
    rw [h] at H1
    rw [if_pos h]
    generalize endsM (al + bl) (ah + bh) = R at *
    obtain ⟨⟨rl, rh⟩, re⟩ := R
    clear h
    go_enter Tryz.func227, Tryz.ntmps227
    go_wp2_with fail
    refine (H1.out _).mono ?_
    rintro e w1 ⟨rfl, h1⟩
    obtain ⟨hc_w1, hf_w1, hz_w1⟩ := bcell h1; (repeat (first | rw [World.size_alloc] at hz_w1 | rw [World.size_drew] at hz_w1 | rw [World.size_setCell] at hz_w1)); (try (have : w.heap.size < w1.heap.size := (by omega))); (try (have : w.heap.size + 1 < w1.heap.size := (by omega))); (try (have : w.heap.size + 1 + 1 < w1.heap.size := (by omega))); (try (have : w.heap.size + 1 + 1 + 1 < w1.heap.size := (by omega))); (try (have : w.heap.size + 1 + 1 + 1 + 1 < w1.heap.size := (by omega)))
    go_wp2_with fail
    refine (H2.out _).mono ?_
    rintro e w2 ⟨rfl, h2⟩
    obtain ⟨hc_w2, hf_w2, hz_w2⟩ := bcell h2; (repeat (first | rw [World.size_alloc] at hz_w2 | rw [World.size_drew] at hz_w2 | rw [World.size_setCell] at hz_w2)); (try (have : w.heap.size < w2.heap.size := (by omega))); (try (have : w.heap.size + 1 < w2.heap.size := (by omega))); (try (have : w.heap.size + 1 + 1 < w2.heap.size := (by omega))); (try (have : w.heap.size + 1 + 1 + 1 < w2.heap.size := (by omega))); (try (have : w.heap.size + 1 + 1 + 1 + 1 < w2.heap.size := (by omega)))
    go_wp2_with fail
    (try simp only [Exit.inBlock, Exit.then]); apply bodyPost_ret; (focus (simp only [results, Tryz.results227]; go_simp; try rfl)); rfl
    exact ⟨rfl, by (repeat' (first | exact Ext.refl _ | assumption | apply Ext.alloc | apply Ext.drew | refine Ext.set ?_ (by dsimp only; omega) _ | refine Ext.trans ?_ (by assumption)))⟩
  · rw [if_neg h]
    generalize sp2Err ⟨al, ah⟩ ⟨bl, bh⟩ = f1 at *
    go_enter Tryz.func227, Tryz.ntmps227
    go_wp2_with fail
    refine (H1.out _).mono ?_
    rintro e w1 ⟨rfl, h1⟩
    obtain ⟨hc_w1, hf_w1, hz_w1⟩ := bcell h1; (repeat (first | rw [World.size_alloc] at hz_w1 | rw [World.size_drew] at hz_w1 | rw [World.size_setCell] at hz_w1)); (try (have : w.heap.size < w1.heap.size := (by omega))); (try (have : w.heap.size + 1 < w1.heap.size := (by omega))); (try (have : w.heap.size + 1 + 1 < w1.heap.size := (by omega))); (try (have : w.heap.size + 1 + 1 + 1 < w1.heap.size := (by omega))); (try (have : w.heap.size + 1 + 1 + 1 + 1 < w1.heap.size := (by omega)))
    go_wp2_with fail
    (try simp only [Exit.inBlock, Exit.then]); apply bodyPost_ret; (focus (simp only [results, Tryz.results227]; go_simp; try rfl)); rfl
    exact ⟨rfl, by (repeat' (first | exact Ext.refl _ | assumption | apply Ext.alloc | apply Ext.drew | refine Ext.set ?_ (by dsimp only; omega) _ | refine Ext.trans ?_ (by assumption)))⟩
set_option maxHeartbeats 400000 in
theorem Sub_c (al ah bl bh : Int) (w : World) :
    Calls Tryz.prog 264 #[.agg #[.int .i64 al, .int .i64 ah], .agg #[.int .i64 bl, .int .i64 bh]] w fun e w' => e = .returned (spRV (subM ⟨al, ah⟩ ⟨bl, bh⟩)) ∧ Ext w w' := by
  unfold subM
  have H1 := Lib.hid fun W => spValid_c al ah bl bh W
  have H2 := Lib.hid fun W => ends_c (al - bh) (ah - bl) W
  dsimp only
  by_cases h : sp2Err ⟨al, ah⟩ ⟨bl, bh⟩ = 0
  · have hb : (-1152921504606846976 ≤ al ∧ al ≤ ah ∧ ah ≤ 1152921504606846976) ∧ -1152921504606846976 ≤ bl ∧ bl ≤ bh ∧ bh ≤ 1152921504606846976 := by
      unfold sp2Err at h
      by_cases h1 : spErr ⟨al, ah⟩ = 0
      · rw [if_pos h1] at h
        exact ⟨spErr_ok.1 h1, spErr_ok.1 h⟩
      · rw [if_neg h1] at h
        exact absurd h h1
    obtain ⟨⟨h1, h2, h3⟩, h4, h5, h6⟩ := hb
    rw [h] at H1
    rw [if_pos h]
    generalize endsM (al - bh) (ah - bl) = R at *
    obtain ⟨⟨rl, rh⟩, re⟩ := R
    clear h
    go_enter Tryz.func264, Tryz.ntmps264
    go_wp2_with fail
    refine (H1.out _).mono ?_
    rintro e w1 ⟨rfl, h1⟩
    obtain ⟨hc_w1, hf_w1, hz_w1⟩ := bcell h1; (repeat (first | rw [World.size_alloc] at hz_w1 | rw [World.size_drew] at hz_w1 | rw [World.size_setCell] at hz_w1)); (try (have : w.heap.size < w1.heap.size := (by omega))); (try (have : w.heap.size + 1 < w1.heap.size := (by omega))); (try (have : w.heap.size + 1 + 1 < w1.heap.size := (by omega))); (try (have : w.heap.size + 1 + 1 + 1 < w1.heap.size := (by omega))); (try (have : w.heap.size + 1 + 1 + 1 + 1 < w1.heap.size := (by omega)))
    go_wp2_with fail
    refine (H2.out _).mono ?_
    rintro e w2 ⟨rfl, h2⟩
    obtain ⟨hc_w2, hf_w2, hz_w2⟩ := bcell h2; (repeat (first | rw [World.size_alloc] at hz_w2 | rw [World.size_drew] at hz_w2 | rw [World.size_setCell] at hz_w2)); (try (have : w.heap.size < w2.heap.size := (by omega))); (try (have : w.heap.size + 1 < w2.heap.size := (by omega))); (try (have : w.heap.size + 1 + 1 < w2.heap.size := (by omega))); (try (have : w.heap.size + 1 + 1 + 1 < w2.heap.size := (by omega))); (try (have : w.heap.size + 1 + 1 + 1 + 1 < w2.heap.size := (by omega)))
    go_wp2_with fail
    (try simp only [Exit.inBlock, Exit.then]); apply bodyPost_ret; (focus (simp only [results, Tryz.results264]; go_simp; try rfl)); rfl
    exact ⟨rfl, by (repeat' (first | exact Ext.refl _ | assumption | apply Ext.alloc | apply Ext.drew | refine Ext.set ?_ (by dsimp only; omega) _ | refine Ext.trans ?_ (by assumption)))⟩
  · rw [if_neg h]
    generalize sp2Err ⟨al, ah⟩ ⟨bl, bh⟩ = f1 at *
    go_enter Tryz.func264, Tryz.ntmps264
    go_wp2_with fail
    refine (H1.out _).mono ?_
    rintro e w1 ⟨rfl, h1⟩
    obtain ⟨hc_w1, hf_w1, hz_w1⟩ := bcell h1; (repeat (first | rw [World.size_alloc] at hz_w1 | rw [World.size_drew] at hz_w1 | rw [World.size_setCell] at hz_w1)); (try (have : w.heap.size < w1.heap.size := (by omega))); (try (have : w.heap.size + 1 < w1.heap.size := (by omega))); (try (have : w.heap.size + 1 + 1 < w1.heap.size := (by omega))); (try (have : w.heap.size + 1 + 1 + 1 < w1.heap.size := (by omega))); (try (have : w.heap.size + 1 + 1 + 1 + 1 < w1.heap.size := (by omega)))
    go_wp2_with fail
    (try simp only [Exit.inBlock, Exit.then]); apply bodyPost_ret; (focus (simp only [results, Tryz.results264]; go_simp; try rfl)); rfl
    exact ⟨rfl, by (repeat' (first | exact Ext.refl _ | assumption | apply Ext.alloc | apply Ext.drew | refine Ext.set ?_ (by dsimp only; omega) _ | refine Ext.trans ?_ (by assumption)))⟩
end Go.Proofs.YtfniicgoeljmdaaGreat
