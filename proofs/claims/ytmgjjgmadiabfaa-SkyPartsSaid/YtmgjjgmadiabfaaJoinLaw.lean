/- Links and the order of two tracklets: the plain law. No condition. -/
import Derived.Test.YtmgjjgmadiabfaaLink
namespace Go.Proofs.Ytmgjjgmadiabfaa
open Go.RowKit

theorem idx_shift {α : Type} (p : α → Bool) : ∀ (l : List α) (k : Nat), idxFrom p l k = if idxFrom p l 0 < 0 then -1 else idxFrom p l 0 + k
  | [], k => by simp [idxFrom]
  | x :: r, k => by
    have h1 := idx_shift p r (k + 1)
    have h2 := idx_shift p r 1
    have h3 : -1 ≤ idxFrom p r 0 := by
      rcases idx_cases p r with ⟨h, _⟩ | ⟨i, _, _, h, _⟩ <;> omega
    unfold idxFrom
    cases p x
    · simp only [Bool.false_eq_true, if_false, Nat.zero_add]
      rw [h1, h2]
      split <;> split <;> omega
    · simp
theorem idx_append {α : Type} (p : α → Bool) : ∀ (a b : List α), idxFrom p (a ++ b) 0 = if idxFrom p a 0 < 0 then (if idxFrom p b 0 < 0 then -1 else (a.length : Int) + idxFrom p b 0) else idxFrom p a 0
  | [], b => by
    have h : -1 ≤ idxFrom p b 0 := by
      rcases idx_cases p b with ⟨h, _⟩ | ⟨i, _, _, h, _⟩ <;> omega
    have e : idxFrom p [] 0 = -1 := rfl
    rw [List.nil_append, e, if_pos (by omega), List.length_nil]
    split <;> omega
  | x :: r, b => by
    have h := idx_append p r b
    have h1 := idx_shift p (r ++ b) 1
    have h2 := idx_shift p r 1
    have h3 : -1 ≤ idxFrom p r 0 := by
      rcases idx_cases p r with ⟨h, _⟩ | ⟨i, _, _, h, _⟩ <;> omega
    have h4 : -1 ≤ idxFrom p b 0 := by
      rcases idx_cases p b with ⟨h, _⟩ | ⟨i, _, _, h, _⟩ <;> omega
    have e0 : ∀ l, idxFrom p (x :: l) 0 = if p x then ((0 : Nat) : Int) else idxFrom p l 1 := fun _ => rfl
    rw [List.cons_append, List.length_cons, e0, e0]
    generalize idxFrom p (r ++ b) 0 = u at *
    generalize idxFrom p (r ++ b) 1 = u1 at *
    generalize idxFrom p r 0 = y at *
    generalize idxFrom p r 1 = y1 at *
    generalize idxFrom p b 0 = z at *
    cases p x
    · simp only [Bool.false_eq_true, if_false]
      repeat' split at h
      all_goals repeat' split at h1
      all_goals repeat' split at h2
      all_goals repeat' split
      all_goals omega
    · simp

/-- What a search for a guess gives: the first guess that misses nothing, or all that is missed. -/
theorem link_cases (F : St → Int) : ∀ (gs : List St) (k : Nat) (acc : List Int),
    (linkFrom F gs k acc = (-1, acc ++ gs.map F) ∧ ∀ g ∈ gs, ¬ F g < 0) ∨
    ∃ (n : Nat) (h : n < gs.length), linkFrom F gs k acc = (((k + n : Nat) : Int), []) ∧ F gs[n] < 0 ∧ ∀ (j : Nat) (hj : j < gs.length), j < n → ¬ F gs[j] < 0
  | [], k, acc => .inl ⟨by simp [linkFrom], by intro g hg; cases hg⟩
  | g :: r, k, acc => by
    rw [linkFrom]
    by_cases h : F g < 0
    · rw [if_pos h]
      exact .inr ⟨0, by simp, rfl, h, fun j _ hj => by omega⟩
    · rw [if_neg h]
      rcases link_cases F r (k + 1) (acc ++ [F g]) with ⟨h1, h2⟩ | ⟨n, hn, h1, h2, h3⟩
      · refine .inl ⟨by rw [h1]; simp, fun x hx => ?_⟩
        rcases List.mem_cons.1 hx with rfl | hx
        · exact h
        · exact h2 x hx
      · refine .inr ⟨n + 1, by simp; omega, by rw [h1]; congr 2; omega, by simpa using h2, fun j hj hlt => ?_⟩
        cases j with
        | zero => simpa using h
        | succ j => simpa using h3 j (by simpa using hj) (by omega)
theorem link_first (F : St → Int) (gs : List St) (n : Nat) (hn : n < gs.length) (h1 : F gs[n] < 0) (h2 : ∀ (j : Nat) (hj : j < gs.length), j < n → ¬ F gs[j] < 0) : linkFrom F gs 0 [] = ((n : Int), []) := by
  rcases link_cases F gs 0 [] with ⟨_, h⟩ | ⟨m, hm, e, h3, h4⟩
  · exact absurd h1 (h _ (List.getElem_mem hn))
  · have : m = n := by
      rcases Nat.lt_trichotomy m n with h | h | h
      · exact absurd h3 (h2 m hm h)
      · exact h
      · exact absurd h1 (h4 n hn h)
    subst this
    rw [e]; simp
theorem link_more (F : St → Int) (gs X : List St) (n : Nat) (hn : n < gs.length) (h1 : F gs[n] < 0) (h2 : ∀ (j : Nat) (hj : j < gs.length), j < n → ¬ F gs[j] < 0) : linkFrom F (gs ++ X) 0 [] = ((n : Int), []) := by
  refine link_first F (gs ++ X) n (by rw [List.length_append]; omega) (by rw [List.getElem_append_left hn]; exact h1) fun j hj hlt => ?_
  rw [List.getElem_append_left (by omega)]
  exact h2 j (by omega) hlt
/-- What a guess misses in two tracklets, one behind the other. -/
theorem miss_append (s : Sky) (g : St) (t0 : Int) (a b : List Sight) : missFrom s g t0 (a ++ b) 0 = if missFrom s g t0 a 0 < 0 then (if missFrom s g t0 b 0 < 0 then -1 else (a.length : Int) + missFrom s g t0 b 0) else missFrom s g t0 a 0 := idx_append _ a b
theorem miss_ge (s : Sky) (g : St) (t0 : Int) (a : List Sight) : -1 ≤ missFrom s g t0 a 0 := by
  unfold missFrom
  rcases idx_cases (fun x => !fitsM s x g t0) a with ⟨h, _⟩ | ⟨i, _, _, h, _⟩ <;> omega
theorem miss_le (s : Sky) (g : St) (t0 : Int) (a : List Sight) : missFrom s g t0 a 0 ≤ a.length := by
  unfold missFrom
  rcases idx_cases (fun x => !fitsM s x g t0) a with ⟨h, _⟩ | ⟨i, _, h0, h, _⟩ <;> omega
theorem miss_none (s : Sky) (g : St) (t0 : Int) (a b : List Sight) : missFrom s g t0 (a ++ b) 0 < 0 ↔ missFrom s g t0 a 0 < 0 ∧ missFrom s g t0 b 0 < 0 := by
  rw [miss_append]
  have h1 := miss_ge s g t0 a
  have h2 := miss_ge s g t0 b
  split
  · split <;> omega
  · omega
theorem miss_swap (s : Sky) (g : St) (t0 : Int) (a b : List Sight) : missFrom s g t0 (a ++ b) 0 < 0 ↔ missFrom s g t0 (b ++ a) 0 < 0 := by
  rw [miss_none, miss_none, And.comm]
/-- Both orders give the same guess; the reasons are as many. -/
theorem join_law (s : Sky) (a b : List Sight) (gs : List St) : ∃ (n : Int) (X Y : List Int), linkFrom (fun g => missFrom s g 0 (a ++ b) 0) gs 0 [] = (n, X) ∧ linkFrom (fun g => missFrom s g 0 (b ++ a) 0) gs 0 [] = (n, Y) ∧ X.length = Y.length ∧
    ((n = -1 ∧ X = gs.map (fun g => missFrom s g 0 (a ++ b) 0) ∧ ∀ g ∈ gs, ¬ missFrom s g 0 (a ++ b) 0 < 0) ∨
      ∃ (k : Nat) (h : k < gs.length), n = k ∧ X = [] ∧ Y = [] ∧ missFrom s gs[k] 0 (a ++ b) 0 < 0 ∧ ∀ (j : Nat) (hj : j < gs.length), j < k → ¬ missFrom s gs[j] 0 (a ++ b) 0 < 0) := by
  rcases link_cases (fun g => missFrom s g 0 (a ++ b) 0) gs 0 [] with ⟨h1, h2⟩ | ⟨k, hk, h1, h2, h3⟩
  · rcases link_cases (fun g => missFrom s g 0 (b ++ a) 0) gs 0 [] with ⟨g1, _⟩ | ⟨k', hk', _, g2, _⟩
    · exact ⟨_, _, _, h1, g1, by simp, .inl ⟨rfl, by simp, h2⟩⟩
    · exact absurd ((miss_swap s gs[k'] 0 a b).2 g2) (h2 _ (List.getElem_mem hk'))
  · rcases link_cases (fun g => missFrom s g 0 (b ++ a) 0) gs 0 [] with ⟨_, g2⟩ | ⟨k', hk', g1, g2, g3⟩
    · exact absurd ((miss_swap s gs[k] 0 a b).1 h2) (g2 _ (List.getElem_mem hk))
    · have : k = k' := by
        rcases Nat.lt_trichotomy k k' with h | h | h
        · exact absurd ((miss_swap s gs[k] 0 a b).1 h2) (g3 k hk h)
        · exact h
        · exact absurd ((miss_swap s gs[k'] 0 a b).2 g2) (h3 k' hk' h)
      subst this
      exact ⟨_, _, _, h1, g1, rfl, .inr ⟨k, hk, by simp, rfl, rfl, h2, h3⟩⟩
end Go.Proofs.Ytmgjjgmadiabfaa
