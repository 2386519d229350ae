/- The cells of a box: the model, and the program. No condition. The cells and the parts of a box: each state of it is in one of them. Plain law. No condition. -/
import Derived.Test.YtfniicgoeljmdaaGreatReplace
import Derived.Test.YtfniicgoeljmdaaGreatSplitAll
import Derived.Test.YtfniicgoeljmdaaGreatOwnBoxes
namespace Go.Proofs.YtfniicgoeljmdaaGreat
open Go.RowKit

theorem part_ok {b : Bx} (h : bxErr b = 0) (h2 : (widB b).2 ≠ 0) : bxErr (partL b) = 0 ∧ bxErr (partR b) = 0 := by
  have hb := bxErr_iff.1 h
  have hw := wid_lt b h
  have e : ∀ c : Bx, BxOk c → bxErr c = 0 := fun c hc => bxErr_iff.2 hc
  have hwd : (widB b).1 = 0 ∧ (widB b).2 = wid b.x ∨ (widB b).1 = 1 ∧ (widB b).2 = wid b.y ∨ (widB b).1 = 2 ∧ (widB b).2 = wid b.u ∨ (widB b).1 = 3 ∧ (widB b).2 = wid b.v := by
    rw [widB_eq]
    unfold BxOk Sm at hb
    unfold widStep wid
    dsimp only
    repeat' split
    all_goals (dsimp only at *; omega)
  unfold partL partR
  generalize (widB b).2 = N at *
  generalize (widB b).1 = i at *
  obtain ⟨x, y, u, v⟩ := b
  unfold BxOk Sm at hb
  unfold wid at hwd
  dsimp only at hb hwd
  rcases hwd with ⟨rfl, h3⟩ | ⟨rfl, h3⟩ | ⟨rfl, h3⟩ | ⟨rfl, h3⟩
  all_goals (constructor <;> apply e <;> simp [BxOk, Sm, cutL, cutR, spL, spR, midS] <;> omega)
def bestL : List Bx → Nat → Nat × Int → Nat × Int
  | [], _, a => a
  | b :: r, i, a => bestL r (i + 1) (if a.2 < (widB b).2 then (i, (widB b).2) else a)
def cellStep (l : List Bx) : Option (List Bx) :=
  match l.drop (bestL l 0 (0, 0)).1 with
  | [] => none
  | b :: r => if (bestL l 0 (0, 0)).2 = 0 then none else some (l.take (bestL l 0 (0, 0)).1 ++ partL b :: partR b :: r)
def cellsM : Nat → List Bx → List Bx
  | 0, l => l
  | k + 1, l => match cellStep l with | none => l | some l' => cellsM k l'
def cellsB (b : Bx) (n : Nat) : List Bx := cellsM (n - 1) [b]
/-- The best so far is one of the list, or nothing. -/
theorem best_spec : ∀ (r l : List Bx) (i : Nat) (a : Nat × Int), l.drop i = r → (a.2 = 0 ∨ ∃ x, l[a.1]? = some x ∧ (widB x).2 = a.2) → ((bestL r i a).2 = 0 ∨ ∃ x, l[(bestL r i a).1]? = some x ∧ (widB x).2 = (bestL r i a).2)
  | [], l, i, a, _, h => h
  | b :: r, l, i, a, hd, h => by
    rw [bestL]
    refine best_spec r l (i + 1) _ (by have := congrArg List.tail hd; rw [List.tail_drop] at this; simpa using this) ?_
    split
    · right
      refine ⟨b, ?_, rfl⟩
      show l[i]? = some b
      rw [← List.head?_drop, hd]; rfl
    · exact h
theorem cell_step {l l' : List Bx} (h : cellStep l = some l') : ∃ (i : Nat) (b : Bx), i < l.length ∧ bestL l 0 (0, 0) = (i, (widB b).2) ∧ (widB b).2 ≠ 0 ∧ l[i]? = some b ∧ l' = l.take i ++ partL b :: partR b :: l.drop (i + 1) ∧ l'.length = l.length + 1 := by
  unfold cellStep at h
  have hs := best_spec l l 0 (0, 0) (by simp) (.inl rfl)
  generalize bestL l 0 (0, 0) = p at *
  obtain ⟨i, m⟩ := p
  dsimp only at h hs
  cases hd : l.drop i with
  | nil => rw [hd] at h; cases h
  | cons b r =>
    rw [hd] at h
    dsimp only at h
    by_cases hm : m = 0
    · rw [if_pos hm] at h; cases h
    · rw [if_neg hm] at h
      injection h with h
      rcases hs with hs | ⟨x, h1, h2⟩
      · exact absurd hs hm
      · have hi : i < l.length := (List.getElem?_eq_some_iff.1 h1).1
        have hb : l[i]? = some b := by rw [← List.head?_drop, hd]; rfl
        rw [hb] at h1
        injection h1 with h1
        subst h1
        have hr : r = l.drop (i + 1) := by have := congrArg List.tail hd; rw [List.tail_drop] at this; simpa using this.symm
        subst hr
        refine ⟨i, b, hi, by rw [h2], by rw [h2]; exact hm, hb, h.symm, ?_⟩
        rw [← h]
        simp only [List.length_append, List.length_take, List.length_cons, List.length_drop]
        omega
theorem cell_step_ok {l l' : List Bx} (h : cellStep l = some l') (hv : ∀ b ∈ l, bxErr b = 0) : ∀ b ∈ l', bxErr b = 0 := by
  obtain ⟨i, b, h1, h2, h3, h4, rfl, h6⟩ := cell_step h
  have hb := hv b (List.mem_of_getElem? h4)
  obtain ⟨p1, p2⟩ := part_ok hb h3
  intro c hc
  rcases List.mem_append.1 hc with hc | hc
  · exact hv c (List.mem_of_mem_take hc)
  · rcases List.mem_cons.1 hc with rfl | hc
    · exact p1
    · rcases List.mem_cons.1 hc with rfl | hc
      · exact p2
      · exact hv c (List.mem_of_mem_drop hc)
set_option maxRecDepth 20000 in
set_option maxHeartbeats 4000000 in
theorem oReplaced_c (A : Option Addr) (n c k : Nat) (l : List Bx) (x y : Bx) (gb : Nat) (w : World) (hl : Bxs w A n l) (hk : k < n) (hsm : n ≤ 600) (hb : Blk w gb 38 (bxC x ++ bxC y).toArray) :
    Calls Tryz.prog 102 #[.slice A n c, .int .i64 (k : Int), .slice (some ⟨gb, 0, none⟩) 2 2] w fun e w' => ∃ v', e = .returned v' ∧ OwnBxs w.heap.size w' v' (l.take k ++ x :: y :: l.drop (k + 1)) ∧ Ext w w' := by
  have HC := Lib.hid (CloneBox_c A n c l w hl (by omega))
  have hlen := hl.len
  have hk2 : k < l.length := by omega
  have hs2 : l.length ≤ 600 := by omega
  have HB := Lib.hid hb
  have hbl := hb.lt
  clear hl hb hlen
  go_enter Tryz.func102, Tryz.ntmps102
  go_wp2_with fail
  refine HC.out.mono ?_
  rintro e w1 ⟨v1, rfl, ho, h1⟩
  have HR := Lib.hid (Replace_c w.heap.size k v1 l x y gb w1 ho hk2 hs2 (HB.out.ext h1) hbl h1.size)
  clear ho
  go_wp2_with fail
  refine HR.out.mono ?_
  rintro e w2 ⟨v2, rfl, ho2, h2⟩
  have HE := Lib.hid (h2 w rfl h1)
  have HO := Lib.hid ho2
  clear h1 h2 ho2
  go_wp2_with fail
  go_ret
  exact ⟨_, rfl, HO.out, HE.out⟩
end Go.Proofs.YtfniicgoeljmdaaGreat

namespace Go.Proofs.YtfniicgoeljmdaaGreat
open Go.RowKit

theorem part_two {b : Bx} (h : bxErr b = 0) (h2 : (widB b).2 ≠ 0) (s : St) : (holdsB b s = true ↔ holdsB (partL b) s = true ∨ holdsB (partR b) s = true) ∧ ¬ (holdsB (partL b) s = true ∧ holdsB (partR b) s = true) ∧ insideB (partL b) b = true ∧ insideB (partR b) b = true := by
  have hb := bxErr_iff.1 h
  have hw := wid_lt b h
  have hwd : (widB b).1 = 0 ∧ (widB b).2 = wid b.x ∨ (widB b).1 = 1 ∧ (widB b).2 = wid b.y ∨ (widB b).1 = 2 ∧ (widB b).2 = wid b.u ∨ (widB b).1 = 3 ∧ (widB b).2 = wid b.v := by
    rw [widB_eq]
    unfold BxOk Sm at hb
    unfold widStep wid
    dsimp only
    repeat' split
    all_goals (dsimp only at *; omega)
  simp only [holdsB_iff, insideB_iff]
  unfold partL partR
  generalize (widB b).2 = N at *
  generalize (widB b).1 = i at *
  obtain ⟨x, y, u, v⟩ := b
  unfold BxOk Sm at hb
  unfold wid at hwd
  dsimp only at hb hwd
  rcases hwd with ⟨rfl, h3⟩ | ⟨rfl, h3⟩ | ⟨rfl, h3⟩ | ⟨rfl, h3⟩
  all_goals simp [cutL, cutR, spL, spR, midS]
  all_goals omega
def countH (l : List Bx) (s : St) : Nat := l.countP fun b => holdsB b s
theorem inside_trans {a b c : Bx} (h : insideB a b = true) (k : insideB b c = true) : insideB a c = true := by
  simp only [insideB_iff] at *
  omega
theorem inside_refl {b : Bx} (h : bxErr b = 0) : insideB b b = true := by
  have hb := bxErr_iff.1 h
  unfold BxOk Sm at hb
  simp only [insideB_iff]
  omega
theorem step_count {l l' : List Bx} (h : cellStep l = some l') (hv : ∀ b ∈ l, bxErr b = 0) (s : St) : countH l' s = countH l s := by
  obtain ⟨i, b, h1, h2, h3, h4, rfl, h6⟩ := cell_step h
  obtain ⟨p1, p2, _, _⟩ := part_two (hv b (List.mem_of_getElem? h4)) h3 s
  have hl : l = l.take i ++ b :: l.drop (i + 1) := by
    have hb : l[i] = b := (List.getElem?_eq_some_iff.1 h4).2
    rw [← hb, ← List.drop_eq_getElem_cons h1, List.take_append_drop]
  conv => rhs; rw [hl]
  unfold countH
  simp only [List.countP_append, List.countP_cons]
  have : (if holdsB (partL b) s = true then 1 else 0) + (if holdsB (partR b) s = true then 1 else 0) = if holdsB b s = true then 1 else 0 := by
    by_cases q1 : holdsB (partL b) s = true <;> by_cases q2 : holdsB (partR b) s = true
    · exact absurd ⟨q1, q2⟩ p2
    · rw [if_pos q1, if_neg q2, if_pos (p1.2 (.inl q1))]
    · rw [if_neg q1, if_pos q2, if_pos (p1.2 (.inr q2))]
    · rw [if_neg q1, if_neg q2, if_neg (fun h => (p1.1 h).elim q1 q2)]
  omega
theorem step_inside {l l' : List Bx} {B : Bx} (h : cellStep l = some l') (hv : ∀ b ∈ l, bxErr b = 0) (hi : ∀ b ∈ l, insideB b B = true) : ∀ b ∈ l', insideB b B = true := by
  obtain ⟨i, b, h1, h2, h3, h4, rfl, h6⟩ := cell_step h
  have hb := List.mem_of_getElem? h4
  obtain ⟨_, _, p1, p2⟩ := part_two (hv b hb) h3 ⟨0, 0, 0, 0⟩
  intro c hc
  rcases List.mem_append.1 hc with hc | hc
  · exact hi c (List.mem_of_mem_take hc)
  · rcases List.mem_cons.1 hc with rfl | hc
    · exact inside_trans p1 (hi b hb)
    · rcases List.mem_cons.1 hc with rfl | hc
      · exact inside_trans p2 (hi b hb)
      · exact hi c (List.mem_of_mem_drop hc)
theorem cellsM_law : ∀ (k : Nat) (l : List Bx) (B : Bx), (∀ b ∈ l, bxErr b = 0) → (∀ b ∈ l, insideB b B = true) →
    (∀ s, countH (cellsM k l) s = countH l s) ∧ (∀ b ∈ cellsM k l, bxErr b = 0 ∧ insideB b B = true) ∧ l.length ≤ (cellsM k l).length ∧ (cellsM k l).length ≤ l.length + k
  | 0, l, B, hv, hi => ⟨fun _ => rfl, fun b hb => ⟨hv b hb, hi b hb⟩, Nat.le_refl _, Nat.le_refl _⟩
  | k + 1, l, B, hv, hi => by
    rw [cellsM]
    cases h : cellStep l with
    | none => exact ⟨fun _ => rfl, fun b hb => ⟨hv b hb, hi b hb⟩, Nat.le_refl _, by dsimp only; omega⟩
    | some l' =>
      dsimp only
      obtain ⟨q1, q2, q3, q4⟩ := cellsM_law k l' B (cell_step_ok h hv) (step_inside h hv hi)
      obtain ⟨_, _, _, _, _, _, _, h6⟩ := cell_step h
      exact ⟨fun s => (q1 s).trans (step_count h hv s), q2, by omega, by omega⟩
/-- The cells of a box: each state of it is in one of them, no other state in any. -/
theorem cells_law {b : Bx} {n : Nat} (h : bxErr b = 0) (hn : 1 ≤ n) : (∀ s, countH (cellsB b n) s = if holdsB b s then 1 else 0) ∧ (∀ c ∈ cellsB b n, bxErr c = 0 ∧ insideB c b = true) ∧ 1 ≤ (cellsB b n).length ∧ (cellsB b n).length ≤ n := by
  obtain ⟨q1, q2, q3, q4⟩ := cellsM_law (n - 1) [b] b (by simpa using h) (by simpa using inside_refl h)
  refine ⟨fun s => (q1 s).trans ?_, q2, q3, ?_⟩
  · unfold countH; by_cases hs : holdsB b s = true <;> simp [hs]
  · simp only [List.length_singleton] at q4; unfold cellsB; omega
theorem cells_within {b : Bx} {n : Nat} (h : bxErr b = 0) (hn : 1 ≤ n) : withinS (cellsB b n) [b] = true := by
  unfold withinS
  rw [List.all_eq_true]
  intro c hc
  simp [((cells_law h hn).2.1 c hc).2]
/-- The parts of a box, and a state. -/
theorem split_state {b : Bx} (h : splitOk b = true) (s : St) : (holdsB b s = true → (holdsB (partL b) s == holdsB (partR b) s) = false) ∧ (holdsB b s = false → (holdsB (partL b) s == holdsB (partR b) s) = true) := by
  unfold splitOk at h
  simp only [Bool.and_eq_true, decide_eq_true_eq] at h
  obtain ⟨p1, p2, _, _⟩ := part_two h.1 h.2 s
  generalize holdsB (partL b) s = x at *
  generalize holdsB (partR b) s = y at *
  generalize holdsB b s = z at *
  cases x <;> cases y <;> cases z <;> simp at *
end Go.Proofs.YtfniicgoeljmdaaGreat
