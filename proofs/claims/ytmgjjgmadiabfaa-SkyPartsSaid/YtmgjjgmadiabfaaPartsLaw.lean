/- Each tracklet is in one group: the plain law. No condition. -/
import Derived.Test.YtmgjjgmadiabfaaGroups
namespace Go.Proofs.Ytmgjjgmadiabfaa
open Go.RowKit

/-- What holds of the groups that are left; last is the last single one. -/
def PartsRest (T : St → Int → Prop) (G : List St) (n : Nat) : Int → List (List Int) → Prop
  | _, [] => True
  | last, x :: r => ((∀ i ∈ x, 0 ≤ i ∧ i < n) ∧ x.Pairwise (· < ·)) ∧ ((2 ≤ x.length ∧ last < 0 ∧ (∃ g ∈ G, ∀ i ∈ x, T g i) ∧ PartsRest T G n last r) ∨ ∃ i, x = [i] ∧ last < i ∧ PartsRest T G n i r)
/-- How often each number is in a list. -/
def cntL (n : Nat) (l : List Int) : List Int := (List.range n).map fun j : Nat => ((l.count (j : Int) : Nat) : Int)

theorem group_mem (F : List Sight → Bool) (tk : List Bool) : ∀ (L : List (List Sight)) (k : Nat), ∀ i ∈ groupFrom F tk L k, ∃ (q : Nat) (h : q < L.length), i = ((k + q : Nat) : Int) ∧ tk.getD (k + q) false = false ∧ F L[q] = true
  | [], _, i, h => by cases h
  | x :: r, k, i, h => by
    rw [groupFrom] at h
    have go : i ∈ groupFrom F tk r (k + 1) → ∃ (q : Nat) (h : q < (x :: r).length), i = ((k + q : Nat) : Int) ∧ tk.getD (k + q) false = false ∧ F (x :: r)[q] = true := fun h => by
      obtain ⟨q, hq, h1, h2, h3⟩ := group_mem F tk r (k + 1) i h
      refine ⟨q + 1, by simp; omega, by rw [h1]; omega, by rw [show k + (q + 1) = k + 1 + q by omega]; exact h2, by simpa using h3⟩
    split at h
    · rename_i hc
      rcases List.mem_cons.1 h with rfl | h
      · exact ⟨0, by simp, by simp, by simpa using hc.1, by simpa using hc.2⟩
      · exact go h
    · exact go h
theorem group_sorted (F : List Sight → Bool) (tk : List Bool) : ∀ (L : List (List Sight)) (k : Nat), (groupFrom F tk L k).Pairwise (· < ·)
  | [], _ => List.Pairwise.nil
  | x :: r, k => by
    rw [groupFrom]
    split
    · refine List.pairwise_cons.2 ⟨fun i hi => ?_, group_sorted F tk r (k + 1)⟩
      obtain ⟨q, h1, h2, _⟩ := group_lt F tk r (k + 1) i hi
      omega
    · exact group_sorted F tk r (k + 1)
theorem count_sorted (i : Int) : ∀ {l : List Int}, l.Pairwise (· < ·) → l.count i = if i ∈ l then 1 else 0
  | [], _ => by simp
  | x :: r, h => by
    have h1 := List.pairwise_cons.1 h
    have ih := count_sorted i h1.2
    rw [List.count_cons, ih]
    by_cases hx : x = i
    · subst hx
      have : ¬ x ∈ r := fun hm => by have := h1.1 x hm; omega
      simp [this]
    · have hx' : ¬ i = x := fun e => hx e.symm
      simp [hx, hx']
theorem marks_get (l : List Int) : ∀ (tk : List Bool) (j : Nat), j < tk.length → (∀ i ∈ l, 0 ≤ i) → (marks tk l).getD j false = (tk.getD j false || decide ((j : Int) ∈ l)) := by
  induction l with
  | nil => intro tk j _ _; simp [marks]
  | cons x r ih =>
    intro tk j hj hp
    have h0 := hp x (by simp)
    have : marks tk (x :: r) = marks (tk.set x.toNat true) r := rfl
    rw [this, ih _ j (by simpa using hj) (fun i hi => hp i (by simp [hi]))]
    by_cases hx : x.toNat = j
    · subst hx
      have e : ((x.toNat : Nat) : Int) = x := by omega
      rw [List.getD_eq_getElem?_getD, List.getElem?_set_self hj, e]
      simp
    · have e : ¬ ((j : Int) = x) := by omega
      rw [List.getD_eq_getElem?_getD, List.getElem?_set_ne hx, ← List.getD_eq_getElem?_getD]
      simp [e]

/-- What the search for groups keeps. -/
structure Parted (T : St → Int → Prop) (G : List St) (n : Nat) (tk : List Bool) (rows : List (List Int)) : Prop where
  len : tk.length = n
  big : ∀ x ∈ rows, ((∀ i ∈ x, 0 ≤ i ∧ i < n) ∧ x.Pairwise (· < ·)) ∧ 2 ≤ x.length ∧ ∃ g ∈ G, ∀ i ∈ x, T g i
  cnt : ∀ j : Nat, j < n → rows.flatten.count (j : Int) = if tk.getD j false then 1 else 0
theorem parted_go {T : St → Int → Prop} {G : List St} (F : St → List Sight → Bool) (L : List (List Sight)) (hT : ∀ g (q : Nat) (h : q < L.length), F g L[q] = true → T g q) :
    ∀ (gs : List St), (∀ g ∈ gs, g ∈ G) → ∀ (tk : List Bool) (rows : List (List Int)), Parted T G L.length tk rows → Parted T G L.length (groupsFrom F L gs tk rows).1 (groupsFrom F L gs tk rows).2
  | [], _, tk, rows, h => h
  | g :: r, hG, tk, rows, h => by
    rw [groupsFrom]
    split
    · exact parted_go F L hT r (fun x hx => hG x (by simp [hx])) tk rows h
    · rename_i hlen
      refine parted_go F L hT r (fun x hx => hG x (by simp [hx])) _ _ ?_
      have hm := group_mem (F g) tk L 0
      have hs := group_sorted (F g) tk L 0
      generalize groupFrom (F g) tk L 0 = x at *
      have hr : ∀ i ∈ x, 0 ≤ i ∧ i < L.length := fun i hi => by
        obtain ⟨q, hq, h1, _⟩ := hm i hi
        omega
      refine ⟨by rw [marks_len]; exact h.len, fun y hy => ?_, fun j hj => ?_⟩
      · rcases List.mem_append.1 hy with hy | hy
        · exact h.big y hy
        · simp at hy
          subst hy
          refine ⟨⟨hr, hs⟩, by omega, g, hG g (by simp), fun i hi => ?_⟩
          obtain ⟨q, hq, h1, _, h3⟩ := hm i hi
          rw [h1, Nat.zero_add]
          exact hT g q hq h3
      · rw [List.flatten_append, List.count_append, h.cnt j hj, marks_get x tk j (by rw [h.len]; exact hj) fun i hi => (hr i hi).1]
        simp only [List.flatten_cons, List.flatten_nil, List.append_nil]
        rw [count_sorted _ hs]
        by_cases hjx : (j : Int) ∈ x
        · obtain ⟨q, hq, h1, h2, _⟩ := hm _ hjx
          have : j = 0 + q := by omega
          rw [← this] at h2
          simp only [h2, hjx]
          simp
        · simp [hjx]
theorem singles_cnt : ∀ (tk : List Bool) (k j : Nat), (singlesFrom tk k).flatten.count (j : Int) = if k ≤ j ∧ j < k + tk.length ∧ tk.getD (j - k) false = false then 1 else 0
  | [], k, j => by
    rw [if_neg (by simp)]; rfl
  | b :: r, k, j => by
    have h := singles_cnt r (k + 1) j
    rcases Nat.lt_trichotomy j k with hj | hj | hj
    · have h0 : (singlesFrom r (k + 1)).flatten.count (j : Int) = 0 := by rw [h, if_neg (by omega)]
      rw [if_neg (by omega), singlesFrom]
      cases b
      · simp only [Bool.false_eq_true, if_false, List.flatten_cons, List.count_append, h0, Nat.add_zero]
        exact List.count_eq_zero_of_not_mem (by simp; omega)
      · simpa using h0
    · subst hj
      have h0 : (singlesFrom r (j + 1)).flatten.count (j : Int) = 0 := by rw [h, if_neg (by omega)]
      rw [singlesFrom]
      cases b
      · simp [h0]
      · simp [h0]
    · have e : j - k = j - (k + 1) + 1 := by omega
      rw [singlesFrom, e, List.getD_cons_succ]
      have h1 : ((if b = true then singlesFrom r (k + 1) else [(k : Int)] :: singlesFrom r (k + 1)).flatten.count (j : Int)) = (singlesFrom r (k + 1)).flatten.count (j : Int) := by
        cases b
        · simp only [Bool.false_eq_true, if_false, List.flatten_cons, List.count_append]
          rw [List.count_eq_zero_of_not_mem (by simp; omega), Nat.zero_add]
        · simp
      rw [h1, h, List.length_cons]
      by_cases hc : k + 1 ≤ j ∧ j < k + 1 + r.length ∧ r.getD (j - (k + 1)) false = false
      · rw [if_pos hc, if_pos ⟨by omega, by omega, hc.2.2⟩]
      · rw [if_neg hc, if_neg fun h => hc ⟨by omega, by omega, h.2.2⟩]
theorem singles_rest (T : St → Int → Prop) (G : List St) (n : Nat) : ∀ (tk : List Bool) (k : Nat) (last : Int), last < k → k + tk.length ≤ n → PartsRest T G n last (singlesFrom tk k)
  | [], _, _, _, _ => by simp [singlesFrom, PartsRest]
  | b :: r, k, last, h1, h2 => by
    rw [List.length_cons] at h2
    rw [singlesFrom]
    cases b
    · simp only [Bool.false_eq_true, if_false]
      rw [PartsRest]
      refine ⟨⟨fun i hi => by simp at hi; subst hi; omega, by simp⟩, .inr ⟨k, rfl, h1, singles_rest T G n r (k + 1) k (by omega) (by omega)⟩⟩
    · simp only [if_true]
      exact singles_rest T G n r (k + 1) last (by omega) (by omega)
theorem bigs_rest {T : St → Int → Prop} {G : List St} {n : Nat} {S : List (List Int)} (h : PartsRest T G n (-1) S) : ∀ {rows : List (List Int)}, (∀ x ∈ rows, ((∀ i ∈ x, 0 ≤ i ∧ i < n) ∧ x.Pairwise (· < ·)) ∧ 2 ≤ x.length ∧ ∃ g ∈ G, ∀ i ∈ x, T g i) → PartsRest T G n (-1) (rows ++ S)
  | [], _ => h
  | x :: r, k => by
    have h1 := k x (by simp)
    rw [List.cons_append, PartsRest]
    exact ⟨h1.1, .inl ⟨h1.2.1, by omega, h1.2.2, bigs_rest h fun y hy => k y (by simp [hy])⟩⟩
/-- All of the plain law. -/
theorem parts_law (s : Sky) (L : List (List Sight)) (G : List St) (he : grpErr s L G 0 = 0) : PartsRest (fun g i => ∃ (q : Nat) (h : q < L.length), i = q ∧ missFrom s g 0 L[q] 0 < 0) G L.length (-1) (grpR s L G 0) ∧ ∀ j : Nat, j < L.length → (grpR s L G 0).flatten.count (j : Int) = 1 := by
  rw [grpR, if_neg (by simp [he])]
  have h := parted_go (T := fun g i => ∃ (q : Nat) (h : q < L.length), i = q ∧ missFrom s g 0 L[q] 0 < 0) (G := G) (takes s 0) L (fun g q hq h => ⟨q, hq, rfl, by simpa [takes] using h⟩) G (fun g hg => hg) (List.replicate L.length false) []
    { len := by simp, big := (fun x hx => by cases hx), cnt := fun j hj => by simp [List.getD_eq_getElem?_getD, hj] }
  have e : grpOf s L G 0 = groupsFrom (takes s 0) L G (List.replicate L.length false) [] := rfl
  rw [← e] at h
  generalize grpOf s L G 0 = o at *
  refine ⟨bigs_rest (singles_rest _ _ _ _ _ _ (by omega) (by have := h.len; omega)) h.big, fun j hj => ?_⟩
  rw [List.flatten_append, List.count_append, h.cnt j hj, singles_cnt, h.len]
  cases o.1.getD (j - 0) false <;> simp_all
theorem pre_count {R : List (List Int)} {k q : Nat} {x : List Int} (h : R.drop k = x :: R.drop (k + 1)) (z : Int) : ((R.take k).flatten ++ x.take q).count z ≤ R.flatten.count z := by
  have e : R.flatten = (R.take k).flatten ++ (x ++ (R.drop (k + 1)).flatten) := by
    conv => lhs; rw [← List.take_append_drop k R, h]
    simp
  rw [e, List.count_append, List.count_append, List.count_append]
  have : (x.take q).count z ≤ x.count z := (List.take_sublist q x).count_le z
  omega
theorem cnt_nil (n : Nat) : cntL n [] = List.replicate n 0 := by
  unfold cntL
  rw [List.eq_replicate_iff]
  simp
theorem cnt_all {n : Nat} {l : List Int} (h : ∀ j : Nat, j < n → l.count (j : Int) = 1) : cntL n l = List.replicate n 1 := by
  unfold cntL
  rw [List.eq_replicate_iff]
  refine ⟨by simp, fun b hb => ?_⟩
  obtain ⟨j, hj, rfl⟩ := List.mem_map.1 hb
  rw [h j (List.mem_range.1 hj)]; rfl
theorem cnt_len (n : Nat) (l : List Int) : (cntL n l).length = n := by simp [cntL]
theorem cnt_get (n : Nat) (l : List Int) (j : Nat) (h : j < n) : (cntL n l)[j]? = some ((l.count (j : Int) : Nat) : Int) := by simp [cntL, h]
theorem cnt_snoc (n : Nat) (l : List Int) (j : Nat) (_h : j < n) : cntL n (l ++ [(j : Int)]) = (cntL n l).set j (((l.count (j : Int) : Nat) : Int) + 1) := by
  refine List.ext_getElem? fun i => ?_
  by_cases hi : i < n
  · rw [cnt_get _ _ _ hi, List.getElem?_set]
    by_cases hij : j = i
    · subst hij
      simp [cnt_len, hi, List.count_append]
    · rw [if_neg hij, cnt_get _ _ _ hi, List.count_append]
      have : ¬ ((j : Int) = i) := by omega
      simp [this]
  · rw [List.getElem?_eq_none (by rw [cnt_len]; omega), List.getElem?_eq_none (by rw [List.length_set, cnt_len]; omega)]
end Go.Proofs.Ytmgjjgmadiabfaa
