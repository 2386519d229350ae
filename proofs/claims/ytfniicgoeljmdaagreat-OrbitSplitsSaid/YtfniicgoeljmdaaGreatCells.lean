/- The cells of a box: the model, and the program. No condition. -/
import Derived.Test.YtfniicgoeljmdaaGreatReplace
import Derived.Test.YtfniicgoeljmdaaGreatSplitAll
namespace Go.Proofs.YtfniicgoeljmdaaGreat
open Go.RowKit

theorem part_ok {b : Bx} (h : bxErr b = 0) (h2 : (widB b).2 ≠ 0) : bxErr (partL b) = 0 ∧ bxErr (partR b) = 0 := by
  have hb := bxErr_iff.1 h
  have hw := wid_lt b h
  have e : ∀ c : Bx, BxOk c → bxErr c = 0 := fun c hc => bxErr_iff.2 hc
  have hwd : (widB b).1 = 0 ∧ (widB b).2 = wid b.x ∨ (widB b).1 = 1 ∧ (widB b).2 = wid b.y ∨ (widB b).1 = 2 ∧ (widB b).2 = wid b.u ∨ (widB b).1 = 3 ∧ (widB b).2 = wid b.v := by
    rw [widB_eq]
    unfold BxOk Sm at hb
    unfold widStep wid
    dsimp only
    repeat' split
    all_goals (dsimp only at *; omega)
  unfold partL partR
  generalize (widB b).2 = N at *
  generalize (widB b).1 = i at *
  obtain ⟨x, y, u, v⟩ := b
  unfold BxOk Sm at hb
  unfold wid at hwd
  dsimp only at hb hwd
  rcases hwd with ⟨rfl, h3⟩ | ⟨rfl, h3⟩ | ⟨rfl, h3⟩ | ⟨rfl, h3⟩
  all_goals (constructor <;> apply e <;> simp [BxOk, Sm, cutL, cutR, spL, spR, midS] <;> omega)
def bestL : List Bx → Nat → Nat × Int → Nat × Int
  | [], _, a => a
  | b :: r, i, a => bestL r (i + 1) (if a.2 < (widB b).2 then (i, (widB b).2) else a)
def cellStep (l : List Bx) : Option (List Bx) :=
  match l.drop (bestL l 0 (0, 0)).1 with
  | [] => none
  | b :: r => if (bestL l 0 (0, 0)).2 = 0 then none else some (l.take (bestL l 0 (0, 0)).1 ++ partL b :: partR b :: r)
def cellsM : Nat → List Bx → List Bx
  | 0, l => l
  | k + 1, l => match cellStep l with | none => l | some l' => cellsM k l'
def cellsB (b : Bx) (n : Nat) : List Bx := cellsM (n - 1) [b]
/-- The best so far is one of the list, or nothing. -/
theorem best_spec : ∀ (r l : List Bx) (i : Nat) (a : Nat × Int), l.drop i = r → (a.2 = 0 ∨ ∃ x, l[a.1]? = some x ∧ (widB x).2 = a.2) → ((bestL r i a).2 = 0 ∨ ∃ x, l[(bestL r i a).1]? = some x ∧ (widB x).2 = (bestL r i a).2)
  | [], l, i, a, _, h => h
  | b :: r, l, i, a, hd, h => by
    rw [bestL]
    refine best_spec r l (i + 1) _ (by have := congrArg List.tail hd; rw [List.tail_drop] at this; simpa using this) ?_
    split
    · right
      refine ⟨b, ?_, rfl⟩
      show l[i]? = some b
      rw [← List.head?_drop, hd]; rfl
    · exact h
set_option maxRecDepth 20000 in
set_option maxHeartbeats 4000000 in
theorem oReplaced_c (A : Option Addr) (n c k : Nat) (l : List Bx) (x y : Bx) (gb : Nat) (w : World) (hl : Bxs w A n l) (hk : k < n) (hsm : n ≤ 600) (hb : Blk w gb 38 (bxC x ++ bxC y).toArray) :
    Calls Tryz.prog 102 #[.slice A n c, .int .i64 (k : Int), .slice (some ⟨gb, 0, none⟩) 2 2] w fun e w' => ∃ v', e = .returned v' ∧ OwnBxs w.heap.size w' v' (l.take k ++ x :: y :: l.drop (k + 1)) ∧ Ext w w' := by
  have HC := Lib.hid (CloneBox_c A n c l w hl (by omega))
  have hlen := hl.len
  have hk2 : k < l.length := by omega
  have hs2 : l.length ≤ 600 := by omega
  have HB := Lib.hid hb
  have hbl := hb.lt
  clear hl hb hlen
  go_enter Tryz.func102, Tryz.ntmps102
  go_wp2_with fail
  refine HC.out.mono ?_
  rintro e w1 ⟨v1, rfl, ho, h1⟩
  have HR := Lib.hid (Replace_c w.heap.size k v1 l x y gb w1 ho hk2 hs2 (HB.out.ext h1) hbl h1.size)
  clear ho
  go_wp2_with fail
  refine HR.out.mono ?_
  rintro e w2 ⟨v2, rfl, ho2, h2⟩
  have HE := Lib.hid (h2 w rfl h1)
  have HO := Lib.hid ho2
  clear h1 h2 ho2
  go_wp2_with fail
  go_ret
  exact ⟨_, rfl, HO.out, HE.out⟩
end Go.Proofs.YtfniicgoeljmdaaGreat
