/- The hull of the cells of a box; a set, its pack and its hull. Plain law. No condition. -/
import Derived.Test.YtfniicgoeljmdaaGreatMovesLaw
import Derived.Test.YtfniicgoeljmdaaGreatPackAll
namespace Go.Proofs.YtfniicgoeljmdaaGreat
open Go.RowKit

theorem hull_assoc (a b c : Bx) : hullB (hullB a b) c = hullB a (hullB b c) := by
  simp only [hullB, hullS, Bx.mk.injEq, Sp.mk.injEq]
  omega
theorem hull_parts {b : Bx} (h : bxErr b = 0) (_ : (widB b).2 ≠ 0) : hullB (partL b) (partR b) = b := by
  have hb := bxErr_iff.1 h
  have hw := wid_lt b h
  have hwd : (widB b).1 = 0 ∧ (widB b).2 = wid b.x ∨ (widB b).1 = 1 ∧ (widB b).2 = wid b.y ∨ (widB b).1 = 2 ∧ (widB b).2 = wid b.u ∨ (widB b).1 = 3 ∧ (widB b).2 = wid b.v := by
    rw [widB_eq]
    unfold BxOk Sm at hb
    unfold widStep wid
    dsimp only
    repeat' split
    all_goals (dsimp only at *; omega)
  unfold partL partR
  generalize (widB b).2 = N at *
  generalize (widB b).1 = i at *
  obtain ⟨⟨xl, xh⟩, ⟨yl, yh⟩, ⟨ul, uh⟩, vl, vh⟩ := b
  unfold BxOk Sm at hb
  unfold wid at hwd
  dsimp only at hb hwd
  rcases hwd with ⟨rfl, h3⟩ | ⟨rfl, h3⟩ | ⟨rfl, h3⟩ | ⟨rfl, h3⟩
  all_goals simp [cutL, cutR, spL, spR, midS, hullB, hullS]
  all_goals omega
theorem step_hull {l l' : List Bx} (h : cellStep l = some l') (hv : ∀ b ∈ l, bxErr b = 0) : hullL l' = hullL l := by
  obtain ⟨i, b, h1, h2, h3, h4, rfl, h6⟩ := cell_step h
  have hp := hull_parts (hv b (List.mem_of_getElem? h4)) h3
  have hl : l = l.take i ++ b :: l.drop (i + 1) := by
    have hb : l[i] = b := (List.getElem?_eq_some_iff.1 h4).2
    rw [← hb, ← List.drop_eq_getElem_cons h1, List.take_append_drop]
  conv => rhs; rw [hl]
  cases l.take i with
  | nil => simp only [List.nil_append, hullL, List.foldl_cons, hp]
  | cons y t => simp only [List.cons_append, hullL, List.foldl_append, List.foldl_cons, hull_assoc, hp]
theorem cellsM_hull : ∀ (k : Nat) (l : List Bx), (∀ b ∈ l, bxErr b = 0) → hullL (cellsM k l) = hullL l
  | 0, _, _ => rfl
  | k + 1, l, hv => by
    rw [cellsM]
    cases h : cellStep l with
    | none => rfl
    | some l' => exact (cellsM_hull k l' (cell_step_ok h hv)).trans (step_hull h hv)
theorem cells_hull {b : Bx} {n : Nat} (h : bxErr b = 0) : hullL (cellsB b n) = b := cellsM_hull (n - 1) [b] (by simpa using h)
theorem inside_hull {x y : Bx} (hx : bxErr x = 0) (hy : bxErr y = 0) : insideB x (hullB x y) = true ∧ insideB y (hullB x y) = true ∧ ∀ B, insideB x B = true → insideB y B = true → insideB (hullB x y) B = true := by
  rw [bxErr_iff] at hx hy
  unfold BxOk Sm at hx hy
  simp only [insideB_iff, hullB, hullS]
  refine ⟨by omega, by omega, fun B h k => by omega⟩
theorem pair_cover : ∀ L : List Bx, (∀ b ∈ L, bxErr b = 0) → (∀ b ∈ pairL L, bxErr b = 0) ∧ (∀ x ∈ L, ∃ y ∈ pairL L, insideB x y = true) ∧ (∀ B, (∀ x ∈ L, insideB x B = true) → ∀ x ∈ pairL L, insideB x B = true) ∧ (L ≠ [] → pairL L ≠ [])
  | [], _ => by simp [pairL]
  | [x], h => by
    simp only [pairL]
    exact ⟨h, fun y hy => ⟨y, hy, inside_refl (h y hy)⟩, fun B hB => hB, fun q => q⟩
  | x :: y :: r, h => by
    obtain ⟨p1, p2, p3, _⟩ := pair_cover r (fun b hb => h b (by simp [hb]))
    have hx := h x (by simp)
    have hy := h y (by simp)
    obtain ⟨q1, q2, q3⟩ := inside_hull hx hy
    simp only [pairL]
    refine ⟨fun b hb => ?_, fun z hz => ?_, fun B hB z hz => ?_, fun _ => by simp⟩
    · rcases List.mem_cons.1 hb with rfl | hb
      · exact hull_valid hx hy
      · exact p1 b hb
    · rcases List.mem_cons.1 hz with rfl | hz
      · exact ⟨_, by simp, q1⟩
      · rcases List.mem_cons.1 hz with rfl | hz
        · exact ⟨_, by simp, q2⟩
        · obtain ⟨u, h1, h2⟩ := p2 z hz
          exact ⟨u, by simp [h1], h2⟩
    · rcases List.mem_cons.1 hz with rfl | hz
      · exact q3 B (hB x (by simp)) (hB y (by simp))
      · exact p3 B (fun w hw => hB w (by simp [hw])) z hz
theorem pack_law {n : Nat} (hn : 1 ≤ n) : ∀ (k : Nat) (L : List Bx), (∀ b ∈ L, bxErr b = 0) → L ≠ [] → L.length ≤ n + k →
    (∀ x ∈ L, ∃ y ∈ packF n k L, insideB x y = true) ∧ (∀ B, (∀ x ∈ L, insideB x B = true) → ∀ x ∈ packF n k L, insideB x B = true) ∧ packF n k L ≠ [] ∧ (packF n k L).length ≤ n
  | 0, L, hv, h0, hl => ⟨fun x hx => ⟨x, hx, inside_refl (hv x hx)⟩, fun B hB => hB, h0, hl⟩
  | k + 1, L, hv, h0, hl => by
    rw [packF]
    by_cases h : n < L.length
    · rw [if_pos h]
      obtain ⟨p1, p2, p3, p4⟩ := pair_cover L hv
      have hp := pair_len L
      obtain ⟨q1, q2, q3, q4⟩ := pack_law hn k (pairL L) p1 (p4 h0) (by omega)
      refine ⟨fun x hx => ?_, fun B hB => q2 B (p3 B hB), q3, q4⟩
      obtain ⟨y, hy, hxy⟩ := p2 x hx
      obtain ⟨z, hz, hyz⟩ := q1 y hy
      exact ⟨z, hz, inside_trans hxy hyz⟩
    · rw [if_neg h]
      exact ⟨fun x hx => ⟨x, hx, inside_refl (hv x hx)⟩, fun B hB => hB, h0, by omega⟩
theorem packs_within {n : Nat} {b : Bx} {L : List Bx} (hn : 1 ≤ n) (hv : ∀ x ∈ L, bxErr x = 0) (h0 : L ≠ []) (hi : ∀ x ∈ L, insideB x b = true) :
    withinS L (packF n L.length L) = true ∧ withinS (packF n L.length L) [b] = true ∧ packF n L.length L ≠ [] ∧ (packF n L.length L).length ≤ n := by
  obtain ⟨q1, q2, q3, q4⟩ := pack_law hn L.length L hv h0 (by omega)
  refine ⟨?_, ?_, q3, q4⟩
  · unfold withinS
    rw [List.all_eq_true]
    intro x hx
    obtain ⟨y, hy, hxy⟩ := q1 x hx
    exact List.any_eq_true.2 ⟨y, hy, hxy⟩
  · unfold withinS
    rw [List.all_eq_true]
    intro x hx
    simp [q2 b hi x hx]
end Go.Proofs.YtfniicgoeljmdaaGreat
