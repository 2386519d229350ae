/- The cells and the parts of a box: each state of it is in one of them. Plain law. No condition. Steps of boxes, possible successors, sets after some ticks. Plain laws. No condition. -/
import Derived.Test.YtfniicgoeljmdaaGreatCellsWalk
import Derived.Test.YtfniicgoeljmdaaGreatOwnBoxes
import Derived.Test.YtfniicgoeljmdaaGreatSlices
import Derived.Test.YtfniicgoeljmdaaGreatBoxSet
import Derived.Test.YtfniicgoeljmdaaGreatSplit
import Derived.Test.YtfniicgoeljmdaaGreatAwakeFour
import Derived.Test.YtfniicgoeljmdaaGreatProp
namespace Go.Proofs.YtfniicgoeljmdaaGreat
open Go.RowKit

theorem part_two {b : Bx} (h : bxErr b = 0) (h2 : (widB b).2 ≠ 0) (s : St) : (holdsB b s = true ↔ holdsB (partL b) s = true ∨ holdsB (partR b) s = true) ∧ ¬ (holdsB (partL b) s = true ∧ holdsB (partR b) s = true) ∧ insideB (partL b) b = true ∧ insideB (partR b) b = true := by
  have hb := bxErr_iff.1 h
  have hw := wid_lt b h
  have hwd : (widB b).1 = 0 ∧ (widB b).2 = wid b.x ∨ (widB b).1 = 1 ∧ (widB b).2 = wid b.y ∨ (widB b).1 = 2 ∧ (widB b).2 = wid b.u ∨ (widB b).1 = 3 ∧ (widB b).2 = wid b.v := by
    rw [widB_eq]
    unfold BxOk Sm at hb
    unfold widStep wid
    dsimp only
    repeat' split
    all_goals (dsimp only at *; omega)
  simp only [holdsB_iff, insideB_iff]
  unfold partL partR
  generalize (widB b).2 = N at *
  generalize (widB b).1 = i at *
  obtain ⟨x, y, u, v⟩ := b
  unfold BxOk Sm at hb
  unfold wid at hwd
  dsimp only at hb hwd
  rcases hwd with ⟨rfl, h3⟩ | ⟨rfl, h3⟩ | ⟨rfl, h3⟩ | ⟨rfl, h3⟩
  all_goals simp [cutL, cutR, spL, spR, midS]
  all_goals omega
def countH (l : List Bx) (s : St) : Nat := l.countP fun b => holdsB b s
theorem inside_trans {a b c : Bx} (h : insideB a b = true) (k : insideB b c = true) : insideB a c = true := by
  simp only [insideB_iff] at *
  omega
theorem inside_refl {b : Bx} (h : bxErr b = 0) : insideB b b = true := by
  have hb := bxErr_iff.1 h
  unfold BxOk Sm at hb
  simp only [insideB_iff]
  omega
theorem step_count {l l' : List Bx} (h : cellStep l = some l') (hv : ∀ b ∈ l, bxErr b = 0) (s : St) : countH l' s = countH l s := by
  obtain ⟨i, b, h1, h2, h3, h4, rfl, h6⟩ := cell_step h
  obtain ⟨p1, p2, _, _⟩ := part_two (hv b (List.mem_of_getElem? h4)) h3 s
  have hl : l = l.take i ++ b :: l.drop (i + 1) := by
    have hb : l[i] = b := (List.getElem?_eq_some_iff.1 h4).2
    rw [← hb, ← List.drop_eq_getElem_cons h1, List.take_append_drop]
  conv => rhs; rw [hl]
  unfold countH
  simp only [List.countP_append, List.countP_cons]
  have : (if holdsB (partL b) s = true then 1 else 0) + (if holdsB (partR b) s = true then 1 else 0) = if holdsB b s = true then 1 else 0 := by
    by_cases q1 : holdsB (partL b) s = true <;> by_cases q2 : holdsB (partR b) s = true
    · exact absurd ⟨q1, q2⟩ p2
    · rw [if_pos q1, if_neg q2, if_pos (p1.2 (.inl q1))]
    · rw [if_neg q1, if_pos q2, if_pos (p1.2 (.inr q2))]
    · rw [if_neg q1, if_neg q2, if_neg (fun h => (p1.1 h).elim q1 q2)]
  omega
theorem step_inside {l l' : List Bx} {B : Bx} (h : cellStep l = some l') (hv : ∀ b ∈ l, bxErr b = 0) (hi : ∀ b ∈ l, insideB b B = true) : ∀ b ∈ l', insideB b B = true := by
  obtain ⟨i, b, h1, h2, h3, h4, rfl, h6⟩ := cell_step h
  have hb := List.mem_of_getElem? h4
  obtain ⟨_, _, p1, p2⟩ := part_two (hv b hb) h3 ⟨0, 0, 0, 0⟩
  intro c hc
  rcases List.mem_append.1 hc with hc | hc
  · exact hi c (List.mem_of_mem_take hc)
  · rcases List.mem_cons.1 hc with rfl | hc
    · exact inside_trans p1 (hi b hb)
    · rcases List.mem_cons.1 hc with rfl | hc
      · exact inside_trans p2 (hi b hb)
      · exact hi c (List.mem_of_mem_drop hc)
theorem cellsM_law : ∀ (k : Nat) (l : List Bx) (B : Bx), (∀ b ∈ l, bxErr b = 0) → (∀ b ∈ l, insideB b B = true) →
    (∀ s, countH (cellsM k l) s = countH l s) ∧ (∀ b ∈ cellsM k l, bxErr b = 0 ∧ insideB b B = true) ∧ l.length ≤ (cellsM k l).length ∧ (cellsM k l).length ≤ l.length + k
  | 0, l, B, hv, hi => ⟨fun _ => rfl, fun b hb => ⟨hv b hb, hi b hb⟩, Nat.le_refl _, Nat.le_refl _⟩
  | k + 1, l, B, hv, hi => by
    rw [cellsM]
    cases h : cellStep l with
    | none => exact ⟨fun _ => rfl, fun b hb => ⟨hv b hb, hi b hb⟩, Nat.le_refl _, by dsimp only; omega⟩
    | some l' =>
      dsimp only
      obtain ⟨q1, q2, q3, q4⟩ := cellsM_law k l' B (cell_step_ok h hv) (step_inside h hv hi)
      obtain ⟨_, _, _, _, _, _, _, h6⟩ := cell_step h
      exact ⟨fun s => (q1 s).trans (step_count h hv s), q2, by omega, by omega⟩
theorem cells_law {b : Bx} {n : Nat} (h : bxErr b = 0) (hn : 1 ≤ n) : (∀ s, countH (cellsB b n) s = if holdsB b s then 1 else 0) ∧ (∀ c ∈ cellsB b n, bxErr c = 0 ∧ insideB c b = true) ∧ 1 ≤ (cellsB b n).length ∧ (cellsB b n).length ≤ n := by
  obtain ⟨q1, q2, q3, q4⟩ := cellsM_law (n - 1) [b] b (by simpa using h) (by simpa using inside_refl h)
  refine ⟨fun s => (q1 s).trans ?_, q2, q3, ?_⟩
  · unfold countH; by_cases hs : holdsB b s = true <;> simp [hs]
  · simp only [List.length_singleton] at q4; unfold cellsB; omega
end Go.Proofs.YtfniicgoeljmdaaGreat

namespace Go.Proofs.YtfniicgoeljmdaaGreat
open Go.RowKit

structure Moves (l : List Body) (home : Int) (d : Drf) (tick : Int) : Prop where
  wd : wdErr l home d = 0
  now : 0 ≤ tick ∧ tick ≤ 1073741823
  ask : ∀ a, SmA 33554432 a → fAskErr l home d tick a = 0
  sub : ∀ a a', SmA 33554432 a → SubA a' a → SubA (overA l home d tick a') (overA l home d tick a)
def ptA (s : St) : Ar := ⟨⟨s.x, s.x⟩, ⟨s.y, s.y⟩⟩
def ptB (s : St) : Bx := ⟨⟨s.x, s.x⟩, ⟨s.y, s.y⟩, ⟨s.u, s.u⟩, ⟨s.v, s.v⟩⟩
theorem st_of_box {b : Bx} {s : St} (hb : bxErr b = 0) (h : holdsB b s = true) : stErr s = 0 := by
  rw [bxErr_iff] at hb
  rw [holdsB_iff] at h
  rw [stErr_ok]
  unfold BxOk Sm at hb
  omega
theorem pt_valid {s : St} (h : stErr s = 0) : bxErr (ptB s) = 0 ∧ SmA 33554432 (ptA s) := by
  rw [stErr_ok] at h
  rw [bxErr_iff]
  unfold BxOk SmA Sm ptB ptA
  dsimp only
  omega
section
variable {l : List Body} {home : Int} {d : Drf} {tick : Int}
theorem Moves.over (M : Moves l home d tick) {a : Ar} (ha : SmA 33554432 a) : overM l home d tick a = ⟨overA l home d tick a, 0⟩ := by
  unfold overM; rw [if_pos (M.ask a ha)]
theorem Moves.follows (M : Moves l home d tick) {s n : St} (hs : stErr s = 0) : possibleB l home d tick s n = true ↔ stErr n = 0 ∧
    ((overA l home d tick (ptA s)).x.lo ≤ n.u - s.u ∧ n.u - s.u ≤ (overA l home d tick (ptA s)).x.hi) ∧ ((overA l home d tick (ptA s)).y.lo ≤ n.v - s.v ∧ n.v - s.v ≤ (overA l home d tick (ptA s)).y.hi) ∧ n.x = s.x + n.u ∧ n.y = s.y + n.v := by
  have ho := M.over (pt_valid hs).2
  unfold possibleB followsB
  unfold ptA at ho
  rw [ho]
  simp only [Bool.and_eq_true, decide_eq_true_eq, within_iff, M.wd, hs, true_and, and_assoc]
  exact ⟨fun ⟨_, _, h⟩ => h, fun h => ⟨M.now.1, M.now.2, h⟩⟩
theorem Moves.step_sub (M : Moves l home d tick) {a b : Bx} (hb : bxErr b = 0) (h : insideB a b = true) (_ : a.x.lo ≤ a.x.hi ∧ a.y.lo ≤ a.y.hi ∧ a.u.lo ≤ a.u.hi ∧ a.v.lo ≤ a.v.hi) : insideB (stepB l home d tick a) (stepB l home d tick b) = true := by
  rw [bxErr_iff] at hb
  rw [insideB_iff] at h
  unfold BxOk Sm at hb
  have h1 := M.sub ⟨b.x, b.y⟩ ⟨a.x, a.y⟩ (by unfold SmA Sm; dsimp only; omega) (by unfold SubA Sub; dsimp only; omega)
  rw [insideB_iff]
  unfold stepB sumS
  dsimp only
  generalize overA l home d tick ⟨b.x, b.y⟩ = B at *
  generalize overA l home d tick ⟨a.x, a.y⟩ = A at *
  unfold SubA Sub at h1
  omega
theorem inside_valid {a b : Bx} (hb : bxErr b = 0) (h : insideB a b = true) : bxErr a = 0 := by
  rw [bxErr_iff] at *
  rw [insideB_iff] at h
  unfold BxOk Sm at *
  omega
theorem inside_full {a b : Bx} (h : insideB a b = true) : a.x.lo ≤ a.x.hi ∧ a.y.lo ≤ a.y.hi ∧ a.u.lo ≤ a.u.hi ∧ a.v.lo ≤ a.v.hi := by
  rw [insideB_iff] at h
  omega
theorem Moves.step_holds (M : Moves l home d tick) {b : Bx} {s n : St} (hb : bxErr b = 0) (h : holdsB b s = true)
    (h1 : (overA l home d tick (ptA s)).x.lo ≤ n.u - s.u ∧ n.u - s.u ≤ (overA l home d tick (ptA s)).x.hi) (h2 : (overA l home d tick (ptA s)).y.lo ≤ n.v - s.v ∧ n.v - s.v ≤ (overA l home d tick (ptA s)).y.hi) (h3 : n.x = s.x + n.u) (h4 : n.y = s.y + n.v) :
    holdsB (stepB l home d tick b) n = true := by
  rw [bxErr_iff] at hb
  rw [holdsB_iff] at h
  unfold BxOk Sm at hb
  have q := M.sub ⟨b.x, b.y⟩ (ptA s) (by unfold SmA Sm; dsimp only; omega) (by unfold SubA Sub ptA; dsimp only; omega)
  rw [holdsB_iff]
  unfold stepB sumS
  dsimp only
  generalize overA l home d tick ⟨b.x, b.y⟩ = B at *
  generalize overA l home d tick (ptA s) = A at *
  unfold SubA Sub at q
  omega
theorem contains_law (M : Moves l home d tick) {b : Bx} {s n : St} (hb : bxErr b = 0) (hx : holdsB b s = true) (hc : bxErr (stepB l home d tick b) = 0)
    (h1 : (overA l home d tick (ptA s)).x.lo ≤ n.u - s.u ∧ n.u - s.u ≤ (overA l home d tick (ptA s)).x.hi) (h2 : (overA l home d tick (ptA s)).y.lo ≤ n.v - s.v ∧ n.v - s.v ≤ (overA l home d tick (ptA s)).y.hi) (h3 : n.x = s.x + n.u) (h4 : n.y = s.y + n.v) :
    possibleB l home d tick s n = true ∧ holdsB (stepB l home d tick b) n = true ∧ (splitOk b = false → b = ptB s) ∧
    (splitOk b = true → bxErr (partL b) = 0 ∧ bxErr (partR b) = 0 ∧ bxErr (stepB l home d tick (partL b)) = 0 ∧ bxErr (stepB l home d tick (partR b)) = 0 ∧ withinS [stepB l home d tick (partL b), stepB l home d tick (partR b)] [stepB l home d tick b] = true ∧
      (holdsB (stepB l home d tick (partL b)) n = true ∨ holdsB (stepB l home d tick (partR b)) n = true)) := by
  have hh := M.step_holds hb hx h1 h2 h3 h4
  refine ⟨(M.follows (st_of_box hb hx)).2 ⟨st_of_box hc hh, h1, h2, h3, h4⟩, hh, fun h => ?_, fun h => ?_⟩
  · unfold splitOk at h
    have hw : (widB b).2 = 0 := by simpa [hb] using h
    rw [widB_eq] at hw
    rw [bxErr_iff] at hb
    rw [holdsB_iff] at hx
    unfold BxOk Sm at hb
    unfold widStep wid at hw
    obtain ⟨⟨xl, xh⟩, ⟨yl, yh⟩, ⟨ul, uh⟩, vl, vh⟩ := b
    unfold ptB
    dsimp only at *
    simp only [Bx.mk.injEq, Sp.mk.injEq]
    revert hw
    repeat' split
    all_goals (dsimp only at *; intro hw; omega)
  · unfold splitOk at h
    simp only [Bool.and_eq_true, decide_eq_true_eq] at h
    obtain ⟨v1, v2⟩ := part_ok hb h.2
    obtain ⟨p1, _, p3, p4⟩ := part_two hb h.2 s
    have s1 := M.step_sub hb p3 (inside_full p3)
    have s2 := M.step_sub hb p4 (inside_full p4)
    refine ⟨v1, v2, inside_valid hc s1, inside_valid hc s2, ?_, ?_⟩
    · simp [withinS, s1, s2]
    · rcases p1.1 hx with q | q
      · exact .inl (M.step_holds v1 q h1 h2 h3 h4)
      · exact .inr (M.step_holds v2 q h1 h2 h3 h4)
theorem prop_add : ∀ (m n : Nat) (t : Int) (L : List Bx), propM l home d (m + n) t L = (propM l home d m t L).bind fun K => propM l home d n (t + m) K
  | 0, n, t, L => by simp [propM]
  | m + 1, n, t, L => by
    rw [show m + 1 + n = (m + n) + 1 by omega, propM, propM]
    split
    · rw [prop_add m n, show t + 1 + (m : Int) = t + ((m + 1 : Nat) : Int) by omega]
    · rfl
theorem prop_valid : ∀ (m : Nat) (t : Int) (L K : List Bx), (∀ b ∈ L, bxErr b = 0) → propM l home d m t L = some K → (∀ b ∈ K, bxErr b = 0) ∧ K.length = L.length
  | 0, t, L, K, hv, h => by rw [propM] at h; injection h with h; subst h; exact ⟨hv, rfl⟩
  | m + 1, t, L, K, hv, h => by
    rw [propM] at h
    by_cases ha : allB (stepB l home d t) L = true
    · rw [if_pos ha] at h
      have := prop_valid m (t + 1) _ K (fun b hb => by
        obtain ⟨c, hc, rfl⟩ := List.mem_map.1 hb
        have := List.all_eq_true.1 ha c hc
        simpa using this) h
      exact ⟨this.1, by rw [this.2, List.length_map]⟩
    · rw [if_neg ha] at h; cases h
end
theorem moves_of {l : List Body} {home : Int} {d : Drf} {tick : Int} (h : wdErr l home d = 0) (ht : 0 ≤ tick ∧ tick ≤ 1073741823) : Moves l home d tick := by
  obtain ⟨hw, hd⟩ := wdErr_ok.1 h
  obtain ⟨b1, _, b3⟩ := wld_bodies hw
  refine ⟨h, ht, fun a ha => ?_, fun a a' ha hs => overA_sub b1 (fun b hb => by have := b3 b hb; omega) (at_place l home tick) hd ha hs⟩
  have e1 : areaErr a = 0 := by
    unfold areaErr
    rw [if_pos (ha.1.err2 ha.2 (by omega) (by omega)), if_pos]
    unfold SmA Sm at ha
    simp only [far4, within, Bool.and_eq_true, decide_eq_true_eq]
    omega
  unfold fAskErr
  rw [if_pos hw, if_pos hd, if_pos ((within_iff _ _ _).2 (by omega)), if_pos e1, if_pos]
  unfold SmA Sm at ha
  simp only [inPlace, Bool.and_eq_true, decide_eq_true_eq]
  omega
end Go.Proofs.YtfniicgoeljmdaaGreat
