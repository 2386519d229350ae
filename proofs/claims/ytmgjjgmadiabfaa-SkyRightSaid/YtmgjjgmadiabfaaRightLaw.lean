/- The guess that is believed, and two tracklets taken as one: the plain law. No condition. -/
import Derived.Test.YtmgjjgmadiabfaaManyLaw
import Derived.Test.YtmgjjgmadiabfaaBelieve
namespace Go.Proofs.Ytmgjjgmadiabfaa
open Go.RowKit

/-- Two tracklets as one, by ticks. -/
def mergeT : List Sight → List Sight → List Sight
  | [], b => b
  | x :: a, [] => x :: a
  | x :: a, y :: b => if x.tick ≤ y.tick then x :: mergeT a (y :: b) else y :: mergeT (x :: a) b
termination_by a b => a.length + b.length
theorem merge_nil (a : List Sight) : mergeT a [] = a := by cases a <;> simp [mergeT]
theorem merge_nil' (b : List Sight) : mergeT [] b = b := by simp [mergeT]
theorem merge_l {x y : Sight} {a b : List Sight} (h : x.tick ≤ y.tick) : mergeT (x :: a) (y :: b) = x :: mergeT a (y :: b) := by rw [mergeT, if_pos h]
theorem merge_r {x y : Sight} {a b : List Sight} (h : ¬ x.tick ≤ y.tick) : mergeT (x :: a) (y :: b) = y :: mergeT (x :: a) b := by rw [mergeT, if_neg h]
theorem merge_len : ∀ (a b : List Sight), (mergeT a b).length = a.length + b.length
  | [], b => by rw [merge_nil']; simp
  | x :: a, [] => by rw [merge_nil]; simp
  | x :: a, y :: b => by
    by_cases h : x.tick ≤ y.tick
    · rw [merge_l h, List.length_cons, merge_len a (y :: b)]; simp; omega
    · rw [merge_r h, List.length_cons, merge_len (x :: a) b]; simp; omega
termination_by a b => a.length + b.length
theorem merge_mem : ∀ (a b : List Sight), ∀ z ∈ mergeT a b, z ∈ a ∨ z ∈ b
  | [], b, z, hz => by rw [merge_nil'] at hz; exact .inr hz
  | x :: a, [], z, hz => by rw [merge_nil] at hz; exact .inl hz
  | x :: a, y :: b, z, hz => by
    by_cases h : x.tick ≤ y.tick
    · rw [merge_l h] at hz
      rcases List.mem_cons.1 hz with rfl | hz
      · simp
      · rcases merge_mem a (y :: b) z hz with h | h
        · simp [h]
        · exact .inr h
    · rw [merge_r h] at hz
      rcases List.mem_cons.1 hz with rfl | hz
      · simp
      · rcases merge_mem (x :: a) b z hz with h | h
        · exact .inl h
        · simp [h]
termination_by a b => a.length + b.length
theorem merge_sorted : ∀ (a b : List Sight), a.Pairwise (fun p q => p.tick ≤ q.tick) → b.Pairwise (fun p q => p.tick ≤ q.tick) → (mergeT a b).Pairwise (fun p q => p.tick ≤ q.tick)
  | [], b, _, hb => by rw [merge_nil']; exact hb
  | x :: a, [], ha, _ => by rw [merge_nil]; exact ha
  | x :: a, y :: b, ha, hb => by
    have ha1 := List.pairwise_cons.1 ha
    have hb1 := List.pairwise_cons.1 hb
    by_cases h : x.tick ≤ y.tick
    · rw [merge_l h]
      refine List.pairwise_cons.2 ⟨fun z hz => ?_, merge_sorted a (y :: b) ha1.2 hb⟩
      rcases merge_mem _ _ z hz with hz | hz
      · exact ha1.1 z hz
      · rcases List.mem_cons.1 hz with rfl | hz
        · exact h
        · have := hb1.1 z hz; omega
    · rw [merge_r h]
      refine List.pairwise_cons.2 ⟨fun z hz => ?_, merge_sorted (x :: a) b ha hb1.2⟩
      rcases merge_mem _ _ z hz with hz | hz
      · rcases List.mem_cons.1 hz with rfl | hz
        · omega
        · have := ha1.1 z hz; omega
      · exact hb1.1 z hz
termination_by a b => a.length + b.length
theorem merge_ok {s : Sky} (hm : MadeSky s) {a b : List Sight} (ha : GoodT s a) (hb : GoodT s b) : trkErr s (mergeT a b) = 0 := by
  obtain ⟨⟨a1, a2⟩, a3, a4⟩ := ha
  obtain ⟨⟨b1, b2⟩, b3, b4⟩ := hb
  have hl := merge_len a b
  rw [trkErr, hm.ok, if_neg (by simp), if_neg (by omega), if_neg (by omega)]
  refine trkFrom_ok hm (merge_sorted a b a1 b1) fun x hx => ?_
  rcases merge_mem a b x hx with hx | hx
  · exact ⟨(a2 x hx).1, (a2 x hx).1.tick.1⟩
  · exact ⟨(b2 x hx).1, (b2 x hx).1.tick.1⟩
theorem one_ok {s : Sky} {l : List Sight} (h : trkErr s l = 0) {x : Sight} (hx : x ∈ l) (ht : 0 ≤ x.tick) : trkErr s [x] = 0 := by
  have h1 := trk_ok h x hx
  have h2 : skyErr s = 0 := by
    unfold trkErr at h
    by_cases h0 : skyErr s = 0
    · exact h0
    · rw [if_pos h0] at h; exact absurd h h0
  rw [trkErr, h2, if_neg (by simp), if_neg (by simp), if_neg (by simp), trkFrom, h1, if_neg (by simp), if_neg (by omega), trkFrom]
theorem one_miss (s : Sky) (g : St) (x : Sight) : missFrom s g 0 [x] 0 = if fitsM s x g 0 then -1 else 0 := by
  unfold missFrom
  cases h : fitsM s x g 0 <;> simp [idxFrom, h]

/-- The best is the first that is least. -/
theorem best_go {α : Type} (f : α → Int) : ∀ (l : List α) (k : Nat) (out least : Int), 0 ≤ out →
    (bestFrom f l k out least = out ∧ ∀ x ∈ l, least ≤ f x) ∨
    ∃ (i : Nat) (h : i < l.length), bestFrom f l k out least = ((k + i : Nat) : Int) ∧ f l[i] < least ∧ (∀ x ∈ l, f l[i] ≤ f x) ∧ ∀ (j : Nat) (hj : j < l.length), j < i → f l[i] < f l[j]
  | [], _, _, _, _ => .inl ⟨rfl, by intro x hx; cases hx⟩
  | x :: r, k, out, least, h0 => by
    rw [bestFrom]
    by_cases hx : f x < least
    · rw [if_pos (.inr hx)]
      rcases best_go f r (k + 1) k (f x) (by omega) with ⟨h1, h2⟩ | ⟨i, hi, h1, h2, h3, h4⟩
      · exact .inr ⟨0, by simp, by rw [h1]; simp, by simpa using hx, by simpa using h2, fun j _ hj => by omega⟩
      · refine .inr ⟨i + 1, by simp; omega, by rw [h1]; omega, by simp only [List.getElem_cons_succ]; omega, ?_, fun j hj hlt => ?_⟩
        · intro y hy
          rcases List.mem_cons.1 hy with rfl | hy
          · simp only [List.getElem_cons_succ]; omega
          · exact h3 y hy
        · cases j with
          | zero => simpa using h2
          | succ j => simpa using h4 j (by simpa using hj) (by omega)
    · rw [if_neg (by omega)]
      rcases best_go f r (k + 1) out least h0 with ⟨h1, h2⟩ | ⟨i, hi, h1, h2, h3, h4⟩
      · refine .inl ⟨h1, fun y hy => ?_⟩
        rcases List.mem_cons.1 hy with rfl | hy
        · omega
        · exact h2 y hy
      · refine .inr ⟨i + 1, by simp; omega, by rw [h1]; omega, by simpa using h2, ?_, fun j hj hlt => ?_⟩
        · intro y hy
          rcases List.mem_cons.1 hy with rfl | hy
          · simp only [List.getElem_cons_succ]; omega
          · exact h3 y hy
        · cases j with
          | zero => simp only [List.getElem_cons_succ, List.getElem_cons_zero]; omega
          | succ j => simpa using h4 j (by simpa using hj) (by omega)
theorem best_first {α : Type} (f : α → Int) {l : List α} (h : 1 ≤ l.length) : ∃ (i : Nat) (hi : i < l.length), bestFrom f l 0 (-1) 0 = (i : Int) ∧ (∀ x ∈ l, f l[i] ≤ f x) ∧ ∀ (j : Nat) (hj : j < l.length), j < i → f l[i] < f l[j] := by
  cases l with
  | nil => simp at h
  | cons x r =>
    rw [bestFrom, if_pos (.inl (by omega))]
    rcases best_go f r 1 0 (f x) (by omega) with ⟨h1, h2⟩ | ⟨i, hi, h1, h2, h3, h4⟩
    · exact ⟨0, by simp, by simpa using h1, by simpa using h2, fun j _ hj => by omega⟩
    · refine ⟨i + 1, by simp; omega, by rw [Nat.add_comm] at h1; exact h1, ?_, fun j hj hlt => ?_⟩
      · intro y hy
        rcases List.mem_cons.1 hy with rfl | hy
        · simp only [List.getElem_cons_succ]; omega
        · exact h3 y hy
      · cases j with
        | zero => simpa using h2
        | succ j => simpa using h4 j (by simpa using hj) (by omega)

theorem wrong_mem (s : Sky) (g : St) (t0 : Int) : ∀ (l : List Sight) (k : Nat) (i : Int), i ∈ wrongFrom s g t0 l k ↔ ∃ (q : Nat) (h : q < l.length), i = ((k + q : Nat) : Int) ∧ fitsM s l[q] g t0 = false
  | [], k, i => by simp [wrongFrom]
  | x :: r, k, i => by
    have ih := wrong_mem s g t0 r (k + 1) i
    have e : (∃ (q : Nat) (h : q < (x :: r).length), i = ((k + q : Nat) : Int) ∧ fitsM s (x :: r)[q] g t0 = false) ↔ (i = (k : Int) ∧ fitsM s x g t0 = false) ∨ ∃ (q : Nat) (h : q < r.length), i = ((k + 1 + q : Nat) : Int) ∧ fitsM s r[q] g t0 = false := by
      constructor
      · rintro ⟨q, hq, h1, h2⟩
        cases q with
        | zero => exact .inl ⟨by simpa using h1, by simpa using h2⟩
        | succ q => exact .inr ⟨q, by simpa using hq, by rw [h1]; omega, by simpa using h2⟩
      · rintro (⟨h1, h2⟩ | ⟨q, hq, h1, h2⟩)
        · exact ⟨0, by simp, by simpa using h1, by simpa using h2⟩
        · exact ⟨q + 1, by simpa using hq, by rw [h1]; omega, by simpa using h2⟩
    rw [e, ← ih, wrongFrom]
    cases fitsM s x g t0 <;> simp
theorem wrong_has (s : Sky) (g : St) (l : List Sight) (q : Nat) (h : q < l.length) : ((wrongL s l g 0).any fun x => x == (q : Int)) = !fitsM s l[q] g 0 := by
  cases hf : fitsM s l[q] g 0
  · simp only [Bool.not_false, List.any_eq_true]
    exact ⟨q, (wrong_mem s g 0 l 0 q).2 ⟨q, h, by simp, hf⟩, by simp⟩
  · simp only [Bool.not_true, List.any_eq_false]
    intro x hx
    obtain ⟨q', hq', h1, h2⟩ := (wrong_mem s g 0 l 0 x).1 hx
    rw [h1]
    simp only [Nat.zero_add, beq_iff_eq]
    intro e
    have : q' = q := by omega
    subst this
    rw [hf] at h2; cases h2
theorem wrong_len (s : Sky) (g : St) : ∀ (l : List Sight) (k : Nat), (wrongFrom s g 0 l k).length ≤ l.length
  | [], _ => by simp [wrongFrom]
  | x :: r, k => by
    have := wrong_len s g r (k + 1)
    rw [wrongFrom]
    split <;> simp <;> omega
/-- The guess that is believed, and what it does not agree with. -/
theorem right_law (s : Sky) (l : List Sight) (G : List St) (hl : trkErr s l = 0) (hg : askErr G 0 = 0) (h1 : 1 ≤ G.length) : ∃ (i : Nat) (hi : i < G.length), believeN s l G 0 = (i : Int) ∧ believeL s l G 0 = wrongL s l G[i] 0 ∧ believeE s l G 0 = 0 ∧
    ∀ (j : Nat) (hj : j < G.length), (wrongL s l G[i] 0).length ≤ (wrongL s l G[j] 0).length ∧ (j < i → (wrongL s l G[i] 0).length < (wrongL s l G[j] 0).length) := by
  obtain ⟨i, hi, h2, h3, h4⟩ := best_first (lenW s l 0) h1
  have h0 : ¬ (trkErr s l ≠ 0 ∨ askErr G 0 ≠ 0 ∨ G.length = 0) := by simp [hl, hg]; intro h; rw [h] at h1; simp at h1
  refine ⟨i, hi, by rw [believeN, if_neg h0, h2], ?_, ?_, fun j hj => ⟨?_, fun hlt => ?_⟩⟩
  · rw [believeL, if_neg h0, h2, List.getD_eq_getElem?_getD, Int.toNat_natCast, List.getElem?_eq_getElem hi]; rfl
  · rw [believeE, if_neg (by simp [hl]), if_neg (by simp [hg]), if_neg (by omega)]
  · have := h3 _ (List.getElem_mem hj)
    unfold lenW at this
    omega
  · have := h4 j hj hlt
    unfold lenW at this
    omega
end Go.Proofs.Ytmgjjgmadiabfaa
