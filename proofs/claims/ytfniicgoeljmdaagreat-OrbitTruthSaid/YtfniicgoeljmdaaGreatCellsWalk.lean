/- The cells of a box: the model, and the program. No condition. The cells and the parts of a box: each state of it is in one of them. Plain law. No condition. The cells of a box: the program. No condition. -/
import Derived.Test.YtfniicgoeljmdaaGreatFilter
import Derived.Test.YtfniicgoeljmdaaGreatSplitAll
import Derived.Test.YtfniicgoeljmdaaGreatOwnBoxes
namespace Go.Proofs.YtfniicgoeljmdaaGreat
open Go.RowKit

theorem part_ok {b : Bx} (h : bxErr b = 0) (h2 : (widB b).2 ≠ 0) : bxErr (partL b) = 0 ∧ bxErr (partR b) = 0 := by
  have hb := bxErr_iff.1 h
  have hw := wid_lt b h
  have e : ∀ c : Bx, BxOk c → bxErr c = 0 := fun c hc => bxErr_iff.2 hc
  have hwd : (widB b).1 = 0 ∧ (widB b).2 = wid b.x ∨ (widB b).1 = 1 ∧ (widB b).2 = wid b.y ∨ (widB b).1 = 2 ∧ (widB b).2 = wid b.u ∨ (widB b).1 = 3 ∧ (widB b).2 = wid b.v := by
    rw [widB_eq]
    unfold BxOk Sm at hb
    unfold widStep wid
    dsimp only
    repeat' split
    all_goals (dsimp only at *; omega)
  unfold partL partR
  generalize (widB b).2 = N at *
  generalize (widB b).1 = i at *
  obtain ⟨x, y, u, v⟩ := b
  unfold BxOk Sm at hb
  unfold wid at hwd
  dsimp only at hb hwd
  rcases hwd with ⟨rfl, h3⟩ | ⟨rfl, h3⟩ | ⟨rfl, h3⟩ | ⟨rfl, h3⟩
  all_goals (constructor <;> apply e <;> simp [BxOk, Sm, cutL, cutR, spL, spR, midS] <;> omega)
def bestL : List Bx → Nat → Nat × Int → Nat × Int
  | [], _, a => a
  | b :: r, i, a => bestL r (i + 1) (if a.2 < (widB b).2 then (i, (widB b).2) else a)
def cellStep (l : List Bx) : Option (List Bx) :=
  match l.drop (bestL l 0 (0, 0)).1 with
  | [] => none
  | b :: r => if (bestL l 0 (0, 0)).2 = 0 then none else some (l.take (bestL l 0 (0, 0)).1 ++ partL b :: partR b :: r)
def cellsM : Nat → List Bx → List Bx
  | 0, l => l
  | k + 1, l => match cellStep l with | none => l | some l' => cellsM k l'
def cellsB (b : Bx) (n : Nat) : List Bx := cellsM (n - 1) [b]
theorem best_spec : ∀ (r l : List Bx) (i : Nat) (a : Nat × Int), l.drop i = r → (a.2 = 0 ∨ ∃ x, l[a.1]? = some x ∧ (widB x).2 = a.2) → ((bestL r i a).2 = 0 ∨ ∃ x, l[(bestL r i a).1]? = some x ∧ (widB x).2 = (bestL r i a).2)
  | [], l, i, a, _, h => h
  | b :: r, l, i, a, hd, h => by
    rw [bestL]
    refine best_spec r l (i + 1) _ (by have := congrArg List.tail hd; rw [List.tail_drop] at this; simpa using this) ?_
    split
    · right
      refine ⟨b, ?_, rfl⟩
      show l[i]? = some b
      rw [← List.head?_drop, hd]; rfl
    · exact h
theorem cell_step {l l' : List Bx} (h : cellStep l = some l') : ∃ (i : Nat) (b : Bx), i < l.length ∧ bestL l 0 (0, 0) = (i, (widB b).2) ∧ (widB b).2 ≠ 0 ∧ l[i]? = some b ∧ l' = l.take i ++ partL b :: partR b :: l.drop (i + 1) ∧ l'.length = l.length + 1 := by
  unfold cellStep at h
  have hs := best_spec l l 0 (0, 0) (by simp) (.inl rfl)
  generalize bestL l 0 (0, 0) = p at *
  obtain ⟨i, m⟩ := p
  dsimp only at h hs
  cases hd : l.drop i with
  | nil => rw [hd] at h; cases h
  | cons b r =>
    rw [hd] at h
    dsimp only at h
    by_cases hm : m = 0
    · rw [if_pos hm] at h; cases h
    · rw [if_neg hm] at h
      injection h with h
      rcases hs with hs | ⟨x, h1, h2⟩
      · exact absurd hs hm
      · have hi : i < l.length := (List.getElem?_eq_some_iff.1 h1).1
        have hb : l[i]? = some b := by rw [← List.head?_drop, hd]; rfl
        rw [hb] at h1
        injection h1 with h1
        subst h1
        have hr : r = l.drop (i + 1) := by have := congrArg List.tail hd; rw [List.tail_drop] at this; simpa using this.symm
        subst hr
        refine ⟨i, b, hi, by rw [h2], by rw [h2]; exact hm, hb, h.symm, ?_⟩
        rw [← h]
        simp only [List.length_append, List.length_take, List.length_cons, List.length_drop]
        omega
theorem cell_step_ok {l l' : List Bx} (h : cellStep l = some l') (hv : ∀ b ∈ l, bxErr b = 0) : ∀ b ∈ l', bxErr b = 0 := by
  obtain ⟨i, b, h1, h2, h3, h4, rfl, h6⟩ := cell_step h
  have hb := hv b (List.mem_of_getElem? h4)
  obtain ⟨p1, p2⟩ := part_ok hb h3
  intro c hc
  rcases List.mem_append.1 hc with hc | hc
  · exact hv c (List.mem_of_mem_take hc)
  · rcases List.mem_cons.1 hc with rfl | hc
    · exact p1
    · rcases List.mem_cons.1 hc with rfl | hc
      · exact p2
      · exact hv c (List.mem_of_mem_drop hc)
set_option maxRecDepth 20000 in
set_option maxHeartbeats 4000000 in
theorem oReplaced_c (A : Option Addr) (n c k : Nat) (l : List Bx) (x y : Bx) (gb : Nat) (w : World) (hl : Bxs w A n l) (hk : k < n) (hsm : n ≤ 600) (hb : Blk w gb 38 (bxC x ++ bxC y).toArray) :
    Calls Tryz.prog 102 #[.slice A n c, .int .i64 (k : Int), .slice (some ⟨gb, 0, none⟩) 2 2] w fun e w' => ∃ v', e = .returned v' ∧ OwnBxs w.heap.size w' v' (l.take k ++ x :: y :: l.drop (k + 1)) ∧ Ext w w' := by
  have HC := Lib.hid (CloneBox_c A n c l w hl (by omega))
  have hlen := hl.len
  have hk2 : k < l.length := by omega
  have hs2 : l.length ≤ 600 := by omega
  have HB := Lib.hid hb
  have hbl := hb.lt
  clear hl hb hlen
  go_enter Tryz.func102, Tryz.ntmps102
  go_wp2_with fail
  refine HC.out.mono ?_
  rintro e w1 ⟨v1, rfl, ho, h1⟩
  have HR := Lib.hid (Replace_c w.heap.size k v1 l x y gb w1 ho hk2 hs2 (HB.out.ext h1) hbl h1.size)
  clear ho
  go_wp2_with fail
  refine HR.out.mono ?_
  rintro e w2 ⟨v2, rfl, ho2, h2⟩
  have HE := Lib.hid (h2 w rfl h1)
  have HO := Lib.hid ho2
  clear h1 h2 ho2
  go_wp2_with fail
  go_ret
  exact ⟨_, rfl, HO.out, HE.out⟩
end Go.Proofs.YtfniicgoeljmdaaGreat

namespace Go.Proofs.YtfniicgoeljmdaaGreat
open Go.RowKit

theorem part_two {b : Bx} (h : bxErr b = 0) (h2 : (widB b).2 ≠ 0) (s : St) : (holdsB b s = true ↔ holdsB (partL b) s = true ∨ holdsB (partR b) s = true) ∧ ¬ (holdsB (partL b) s = true ∧ holdsB (partR b) s = true) ∧ insideB (partL b) b = true ∧ insideB (partR b) b = true := by
  have hb := bxErr_iff.1 h
  have hw := wid_lt b h
  have hwd : (widB b).1 = 0 ∧ (widB b).2 = wid b.x ∨ (widB b).1 = 1 ∧ (widB b).2 = wid b.y ∨ (widB b).1 = 2 ∧ (widB b).2 = wid b.u ∨ (widB b).1 = 3 ∧ (widB b).2 = wid b.v := by
    rw [widB_eq]
    unfold BxOk Sm at hb
    unfold widStep wid
    dsimp only
    repeat' split
    all_goals (dsimp only at *; omega)
  simp only [holdsB_iff, insideB_iff]
  unfold partL partR
  generalize (widB b).2 = N at *
  generalize (widB b).1 = i at *
  obtain ⟨x, y, u, v⟩ := b
  unfold BxOk Sm at hb
  unfold wid at hwd
  dsimp only at hb hwd
  rcases hwd with ⟨rfl, h3⟩ | ⟨rfl, h3⟩ | ⟨rfl, h3⟩ | ⟨rfl, h3⟩
  all_goals simp [cutL, cutR, spL, spR, midS]
  all_goals omega
def countH (l : List Bx) (s : St) : Nat := l.countP fun b => holdsB b s
theorem inside_trans {a b c : Bx} (h : insideB a b = true) (k : insideB b c = true) : insideB a c = true := by
  simp only [insideB_iff] at *
  omega
theorem inside_refl {b : Bx} (h : bxErr b = 0) : insideB b b = true := by
  have hb := bxErr_iff.1 h
  unfold BxOk Sm at hb
  simp only [insideB_iff]
  omega
theorem step_count {l l' : List Bx} (h : cellStep l = some l') (hv : ∀ b ∈ l, bxErr b = 0) (s : St) : countH l' s = countH l s := by
  obtain ⟨i, b, h1, h2, h3, h4, rfl, h6⟩ := cell_step h
  obtain ⟨p1, p2, _, _⟩ := part_two (hv b (List.mem_of_getElem? h4)) h3 s
  have hl : l = l.take i ++ b :: l.drop (i + 1) := by
    have hb : l[i] = b := (List.getElem?_eq_some_iff.1 h4).2
    rw [← hb, ← List.drop_eq_getElem_cons h1, List.take_append_drop]
  conv => rhs; rw [hl]
  unfold countH
  simp only [List.countP_append, List.countP_cons]
  have : (if holdsB (partL b) s = true then 1 else 0) + (if holdsB (partR b) s = true then 1 else 0) = if holdsB b s = true then 1 else 0 := by
    by_cases q1 : holdsB (partL b) s = true <;> by_cases q2 : holdsB (partR b) s = true
    · exact absurd ⟨q1, q2⟩ p2
    · rw [if_pos q1, if_neg q2, if_pos (p1.2 (.inl q1))]
    · rw [if_neg q1, if_pos q2, if_pos (p1.2 (.inr q2))]
    · rw [if_neg q1, if_neg q2, if_neg (fun h => (p1.1 h).elim q1 q2)]
  omega
theorem step_inside {l l' : List Bx} {B : Bx} (h : cellStep l = some l') (hv : ∀ b ∈ l, bxErr b = 0) (hi : ∀ b ∈ l, insideB b B = true) : ∀ b ∈ l', insideB b B = true := by
  obtain ⟨i, b, h1, h2, h3, h4, rfl, h6⟩ := cell_step h
  have hb := List.mem_of_getElem? h4
  obtain ⟨_, _, p1, p2⟩ := part_two (hv b hb) h3 ⟨0, 0, 0, 0⟩
  intro c hc
  rcases List.mem_append.1 hc with hc | hc
  · exact hi c (List.mem_of_mem_take hc)
  · rcases List.mem_cons.1 hc with rfl | hc
    · exact inside_trans p1 (hi b hb)
    · rcases List.mem_cons.1 hc with rfl | hc
      · exact inside_trans p2 (hi b hb)
      · exact hi c (List.mem_of_mem_drop hc)
theorem cellsM_law : ∀ (k : Nat) (l : List Bx) (B : Bx), (∀ b ∈ l, bxErr b = 0) → (∀ b ∈ l, insideB b B = true) →
    (∀ s, countH (cellsM k l) s = countH l s) ∧ (∀ b ∈ cellsM k l, bxErr b = 0 ∧ insideB b B = true) ∧ l.length ≤ (cellsM k l).length ∧ (cellsM k l).length ≤ l.length + k
  | 0, l, B, hv, hi => ⟨fun _ => rfl, fun b hb => ⟨hv b hb, hi b hb⟩, Nat.le_refl _, Nat.le_refl _⟩
  | k + 1, l, B, hv, hi => by
    rw [cellsM]
    cases h : cellStep l with
    | none => exact ⟨fun _ => rfl, fun b hb => ⟨hv b hb, hi b hb⟩, Nat.le_refl _, by dsimp only; omega⟩
    | some l' =>
      dsimp only
      obtain ⟨q1, q2, q3, q4⟩ := cellsM_law k l' B (cell_step_ok h hv) (step_inside h hv hi)
      obtain ⟨_, _, _, _, _, _, _, h6⟩ := cell_step h
      exact ⟨fun s => (q1 s).trans (step_count h hv s), q2, by omega, by omega⟩
theorem cells_law {b : Bx} {n : Nat} (h : bxErr b = 0) (hn : 1 ≤ n) : (∀ s, countH (cellsB b n) s = if holdsB b s then 1 else 0) ∧ (∀ c ∈ cellsB b n, bxErr c = 0 ∧ insideB c b = true) ∧ 1 ≤ (cellsB b n).length ∧ (cellsB b n).length ≤ n := by
  obtain ⟨q1, q2, q3, q4⟩ := cellsM_law (n - 1) [b] b (by simpa using h) (by simpa using inside_refl h)
  refine ⟨fun s => (q1 s).trans ?_, q2, q3, ?_⟩
  · unfold countH; by_cases hs : holdsB b s = true <;> simp [hs]
  · simp only [List.length_singleton] at q4; unfold cellsB; omega
end Go.Proofs.YtfniicgoeljmdaaGreat

namespace Go.Proofs.YtfniicgoeljmdaaGreat
open Go.RowKit

def sliceLen : Value → Nat | .slice _ n _ => n | _ => 0
def cellsErr (b : Bx) (n : Int) : Int := if bxErr b ≠ 0 then bxErr b else if n < 1 ∨ 512 < n then 2 else 0
def cellsL (b : Bx) (n : Int) : List Bx := if cellsErr b n = 0 then cellsB b n.toNat else []
theorem cells_stop {l : List Bx} {k : Nat} (h : (bestL l 0 (0, 0)).2 = 0) : cellsM k l = l := by
  cases k with
  | zero => rfl
  | succ k =>
    have : cellStep l = none := by
      unfold cellStep
      split
      · rfl
      · rw [if_pos h]
    rw [cellsM, this]
theorem cells_go {l : List Bx} {k p : Nat} {x : Bx} (h : bestL l 0 (0, 0) = (p, (widB x).2)) (h0 : (widB x).2 ≠ 0) (hx : l[p]? = some x) : cellsM (k + 1) l = cellsM k (l.take p ++ partL x :: partR x :: l.drop (p + 1)) := by
  have hp : p < l.length := (List.getElem?_eq_some_iff.1 hx).1
  have hs : cellStep l = some (l.take p ++ partL x :: partR x :: l.drop (p + 1)) := by
    unfold cellStep
    rw [h]
    dsimp only
    rw [List.drop_eq_getElem_cons hp]
    have : l[p] = x := by rw [List.getElem?_eq_getElem hp] at hx; injection hx
    rw [this]
    dsimp only
    rw [if_neg h0]
  rw [cellsM, hs]
set_option maxRecDepth 20000 in
set_option maxHeartbeats 8000000 in
theorem oCells_yes (b : Bx) (N : Nat) (w : World) (hv : bxErr b = 0) (hN1 : 1 ≤ N) (hN2 : N ≤ 512) :
    Calls Tryz.prog 46 #[bxV b, .int .i64 (N : Int)] w fun e w' => ∃ A c, e = .returned (.tuple #[.slice A (cellsB b N).length c, .int .i64 0]) ∧ Bxs w' A (cellsB b N).length (cellsB b N) ∧ (cellsB b N).length ≤ c ∧ Ext w w' := by
  have HC := Lib.hid fun W => oCheck_c b W
  rw [hv] at HC
  have HW := Lib.hid fun W => oWithin_c (N : Int) 1 512 W
  have hw : within (N : Int) 1 512 = true := by rw [within_iff]; omega
  rw [hw] at HW
  obtain ⟨T, hT⟩ : ∃ T, cellsB b N = T := ⟨_, rfl⟩
  rw [hT]
  have H0 : Hid (cellsM (N - [b].length) [b] = T) := hT
  have HV : Hid (∀ x ∈ [b], bxErr x = 0) := by intro x hx; simp at hx; rw [hx]; exact hv
  have HB1 := Lib.hid fun (W : World) (g : Nat) (t : TypeId) (hB : Blk W g t #[.int .i64 b.x.lo, .int .i64 b.x.hi, .int .i64 b.y.lo, .int .i64 b.y.hi, .int .i64 b.u.lo, .int .i64 b.u.hi, .int .i64 b.v.lo, .int .i64 b.v.hi]) => bx_slice (t := t) [b] hB (by show (1 : Nat) ≤ _; omega)
  obtain ⟨LB, hLB⟩ : ∃ L, [b] = L := ⟨_, rfl⟩
  have hLl : LB.length = 1 := by rw [← hLB]; rfl
  rw [hLB] at H0 HV HB1
  rw [hLl] at HB1
  clear hT hLB hv hw
  obtain ⟨⟨xl, xh⟩, ⟨yl, yh⟩, ⟨ul, uh⟩, vl, vh⟩ := b
  dsimp only [bxV] at HC HB1 ⊢
  go_enter Tryz.func46, Tryz.ntmps46
  go_wp2_with fail
  refine (HC.out _).mono ?_
  rintro e w1 ⟨rfl, h1⟩
  have B2 : Blk w1 w.heap.size 38 #[.int .i64 xl, .int .i64 xh, .int .i64 yl, .int .i64 yh, .int .i64 ul, .int .i64 uh, .int .i64 vl, .int .i64 vh] := (Blk.new w _ _).ext h1
  have E : Ext w w1 := ext_by
  clear h1
  have c_B2 := B2.cell; have f_B2 := B2.frozen; have l_B2 := B2.lt
  go_wp2_with fail
  refine (HW.out _).mono ?_
  rintro e V2 ⟨rfl, hV2⟩
  clear c_B2 f_B2 l_B2
  replace B2 := B2.ext hV2
  replace E : Ext w V2 := Ext.trans ext_by hV2
  clear hV2
  have c_B2 := B2.cell; have f_B2 := B2.frozen; have l_B2 := B2.lt
  go_wp2_with fail
  refine name_world _ ?_
  intro W3 hW3
  obtain ⟨g3, hg3⟩ : ∃ b, b = V2.heap.size := ⟨_, rfl⟩
  have B3 : Blk W3 g3 38 #[.int .i64 xl, .int .i64 xh, .int .i64 yl, .int .i64 yh, .int .i64 ul, .int .i64 uh, .int .i64 vl, .int .i64 vh] := by rw [hW3]; exact Blk.newAt hg3
  have E3 : Ext w W3 := by rw [hW3]; exact ext_by
  have hS := HB1.out W3 g3 _ B3
  rw [← hg3]
  clear c_B2 f_B2 l_B2
  clear hW3 hg3 B2 B3 E
  go_loopw [7] (fun o wr => ∃ (A : Option Addr) (l : List Bx) (c : Nat), o = .slice A l.length c ∧ Hid (Bxs wr A l.length l) ∧ l.length ≤ c ∧ 1 ≤ l.length ∧ l.length ≤ N ∧ Hid (∀ b ∈ l, bxErr b = 0) ∧ Hid (cellsM (N - l.length) l = T) ∧ Ext w wr) (fun o _ => N - sliceLen o)
  case atStart => exact ⟨_, LB, 1, by rw [hLl], by rw [hLl]; exact hS, by omega, by omega, by omega, HV, H0, E3⟩
  case round =>
    clear hS E3
    obtain ⟨A, l, c, rfl, HL, hc, hl1, hl2, HVl, HM, hb⟩ := hrel
    have hls := HL.out.le
    obtain ⟨m, hm⟩ : ∃ m, m = l.length := ⟨_, rfl⟩
    have Hm := Lib.hid hm
    rw [← hm] at HL hc hl1 hl2 hls
    rw [← hm]
    rw [← hm] at HM
    clear hm
    by_cases hlt : m < N
    · obtain ⟨wo, rfl⟩ : ∃ wo : World, wo = wr := ⟨_, rfl⟩
      have HRp := Lib.hid fun (W : World) (k : Nat) (x y : Bx) (gb : Nat) (hW : Ext wo W) (hk : k < m) (hB : Blk W gb 38 (bxC x ++ bxC y).toArray) => oReplaced_c A m c k l x y gb W (Bxs.ext hW HL.out) hk (by omega) hB
      go_wp2_with fail
      go_loopw [8, 9, 32] (fun p q i wr => ∃ (j P : Nat) (M : Int), j ≤ m ∧ i = .int .i64 j ∧ p = .int .i64 P ∧ q = .int .i64 M ∧ Hid (bestL (l.drop j) j (P, M) = bestL l 0 (0, 0)) ∧ Ext wo wr) (fun _ _ i _ => m - (intOf i).toNat)
      case atStart => exact ⟨0, 0, 0, Nat.zero_le _, rfl, rfl, rfl, rfl, Ext.refl _⟩
      case round =>
        obtain ⟨j, P, M, hj, rfl, rfl, rfl, HJ, hb2⟩ := hrel
        by_cases hjm : j < m
        · obtain ⟨b', off, x, rfl, HD, hxm, hx⟩ := HL.out.one hjm
          obtain ⟨hx0, hx1, hx2, hx3, hx4, hx5, hx6, hx7⟩ := bxAt.ext hb2 hx
          have hbl : b' < wr.heap.size := World.block_lt_of_cell? wr _ hx0
          have HWx := Lib.hid fun W => oWidest_c x W (HVl.out x hxm)
          have hi := HJ.out
          rw [HD.out, bestL] at hi
          dsimp only at hi
          generalize (widB x).2 = V at *
          generalize (widB x).1 = U at *
          clear hx hxm HJ HD HRp
          obtain ⟨⟨zxl, zxh⟩, ⟨zyl, zyh⟩, ⟨zul, zuh⟩, zvl, zvh⟩ := x
          dsimp only at hx0 hx1 hx2 hx3 hx4 hx5 hx6 hx7 HWx
          by_cases c1 : M < V
          · rw [if_pos c1] at hi
            have Hi := Lib.hid hi
            clear hi
            go_wp2_with fail
            refine (HWx.out _).mono ?_
            rintro e w7 ⟨rfl, h7⟩
            obtain ⟨hc_w7, hf_w7, hz_w7⟩ := bcell h7; (try simp only [szA] at hz_w7); (try have := wz0 w w7); (try have := wz1 w w7); (try have := wz2 w w7); (try have := wz3 w w7); (try have := wz4 w w7)
            go_wp2_with fail
            go_roundw
            case rel => exact ⟨j + 1, j, V, by omega, by go_num, rfl, rfl, Hi, ext_by⟩
            case measure => simp [intOf]; omega
          · rw [if_neg c1] at hi
            have Hi := Lib.hid hi
            clear hi
            go_wp2_with fail
            refine (HWx.out _).mono ?_
            rintro e w7 ⟨rfl, h7⟩
            obtain ⟨hc_w7, hf_w7, hz_w7⟩ := bcell h7; (try simp only [szA] at hz_w7); (try have := wz0 w w7); (try have := wz1 w w7); (try have := wz2 w w7); (try have := wz3 w w7); (try have := wz4 w w7)
            go_wp2_with fail
            go_roundw
            case rel => exact ⟨j + 1, P, M, by omega, by go_num, rfl, rfl, Hi, ext_by⟩
            case measure => simp [intOf]; omega
        · have hjm' : j = m := by omega
          have hbest : (P, M) = bestL l 0 (0, 0) := by
            have := HJ.out
            rw [hjm', Hm.out, List.drop_length] at this
            exact this
          clear HJ
          by_cases hM0 : M = 0
          · subst hM0
            have hTl : l = T := by rw [← HM.out, cells_stop (by rw [← hbest])]
            subst hTl
            have HE := Lib.hid (Hm.out)
            clear hbest HRp
            go_wp2_with fail
            (try simp only [Exit.inBlock, Exit.then]); apply bodyPost_ret; (focus (simp only [results, Tryz.results46]; go_simp; try rfl)); rfl
            exact ⟨A, c, ret_v (by rw [HE.out]), by rw [← HE.out]; exact Bxs.ext hb2 HL.out, by rw [← HE.out]; exact hc, ext_by⟩
          · obtain ⟨x, hx, hxw⟩ : ∃ x, l[P]? = some x ∧ (widB x).2 = M := by
              rcases best_spec l l 0 (0, 0) (by simp) (.inl rfl) with h | h
              · rw [← hbest] at h; exact absurd h hM0
              · rw [← hbest] at h; exact h
            have hPm : P < m := by rw [Hm.out]; exact (List.getElem?_eq_some_iff.1 hx).1
            obtain ⟨b', off, x', rfl, HD, hxm, hxa⟩ := HL.out.one hPm
            have hxx : x' = x := by
              have h1 := congrArg List.head? HD.out
              rw [List.head?_drop, hx] at h1
              injection h1 with h1
              exact h1.symm
            subst hxx
            obtain ⟨hx0, hx1, hx2, hx3, hx4, hx5, hx6, hx7⟩ := bxAt.ext hb2 hxa
            have hbl : b' < wr.heap.size := World.block_lt_of_cell? wr _ hx0
            have HK := Lib.hid fun W => oCutB_c x' W (HVl.out x' hxm)
            have hgo : cellsM (N - (m + 1)) (l.take P ++ partL x' :: partR x' :: l.drop (P + 1)) = T := by
              have h1 := HM.out
              rw [show N - m = N - (m + 1) + 1 by omega, cells_go (p := P) (x := x') (by rw [← hbest, hxw]) (by rw [hxw]; exact hM0) hx] at h1
              exact h1
            have hlen : (l.take P ++ partL x' :: partR x' :: l.drop (P + 1)).length = m + 1 := by
              have := Hm.out
              simp; omega
            have hval : ∀ b ∈ (l.take P ++ partL x' :: partR x' :: l.drop (P + 1)), bxErr b = 0 := by
              obtain ⟨p1, p2⟩ := part_ok (HVl.out x' hxm) (by rw [hxw]; exact hM0)
              intro b hbm
              rcases List.mem_append.1 hbm with h | h
              · exact HVl.out b (List.mem_of_mem_take h)
              · rcases List.mem_cons.1 h with rfl | h
                · exact p1
                · rcases List.mem_cons.1 h with rfl | h
                  · exact p2
                  · exact HVl.out b (List.mem_of_mem_drop h)
            generalize partL x' = L at *
            generalize partR x' = R at *
            obtain ⟨l', hl'⟩ : ∃ l', l' = l.take P ++ L :: R :: l.drop (P + 1) := ⟨_, rfl⟩
            rw [← hl'] at hgo hlen hval
            have HR2 := Lib.hid fun (W : World) (gb : Nat) (hW : Ext wo W) (hB : Blk W gb 38 (bxC L ++ bxC R).toArray) => HRp.out W P L R gb hW hPm hB
            rw [← hl'] at HR2
            have Hgo := Lib.hid hgo
            have Hlen := Lib.hid hlen
            have Hval := Lib.hid hval
            clear hgo hlen hval hl' HRp hx hxw hxa hxm HD hbest
            obtain ⟨⟨zxl, zxh⟩, ⟨zyl, zyh⟩, ⟨zul, zuh⟩, zvl, zvh⟩ := x'
            obtain ⟨⟨lxl, lxh⟩, ⟨lyl, lyh⟩, ⟨lul, luh⟩, lvl, lvh⟩ := L
            obtain ⟨⟨rxl, rxh⟩, ⟨ryl, ryh⟩, ⟨rul, ruh⟩, rvl, rvh⟩ := R
            dsimp only [bxV] at hx0 hx1 hx2 hx3 hx4 hx5 hx6 hx7 HK HR2
            have HR3 := Lib.hid fun (W : World) (gb : Nat) (hW : Ext wo W) (hB : Blk W gb 38 #[.int .i64 lxl, .int .i64 lxh, .int .i64 lyl, .int .i64 lyh, .int .i64 lul, .int .i64 luh, .int .i64 lvl, .int .i64 lvh, .int .i64 rxl, .int .i64 rxh, .int .i64 ryl, .int .i64 ryh, .int .i64 rul, .int .i64 ruh, .int .i64 rvl, .int .i64 rvh]) => HR2.out W gb hW hB
            clear HR2
            go_wp2_with fail
            refine (HK.out _).mono ?_
            rintro e w7 ⟨rfl, h7⟩
            have E7 : Ext wo w7 := hb2.trans h7
            clear h7 hx0 hx1 hx2 hx3 hx4 hx5 hx6 hx7 hbl
            go_wp2_with fail
            refine (HR3.out _ _ ext_by (Blk.newAt (by simp))).mono ?_
            rintro e w8 ⟨v8, rfl, ho8, h8⟩
            obtain ⟨A8, c8, rfl, hs8, hcap8⟩ := ho8.cap
            have E8 : Ext wo w8 := Ext.trans ext_by h8
            have HS8 := Lib.hid hs8
            rw [Hlen.out] at HS8 hcap8
            rw [Hlen.out]
            clear h8 ho8 hs8 E7
            go_wp2_with fail
            go_roundw
            case rel => exact ⟨A8, l', c8, by rw [Hlen.out], by rw [Hlen.out]; exact HS8, by rw [Hlen.out]; exact hcap8, by rw [Hlen.out]; omega, by rw [Hlen.out]; omega, Hval, by rw [Hlen.out]; exact Hgo, ext_by⟩
            case measure => simp [sliceLen]; omega
    · have hmN : m = N := by omega
      have hTl : l = T := by
        have := HM.out
        rw [show N - m = 0 by omega] at this
        exact this
      subst hTl
      have HE := Lib.hid (Hm.out)
      go_wp2_with fail
      (try simp only [Exit.inBlock, Exit.then]); apply bodyPost_ret; (focus (simp only [results, Tryz.results46]; go_simp; try rfl)); rfl
      exact ⟨A, c, ret_v (by rw [← HE.out, hmN]), by rw [← HE.out]; exact HL.out, by rw [← HE.out]; exact hc, ext_by⟩
set_option maxRecDepth 20000 in
set_option maxHeartbeats 2000000 in
theorem oCells_no (b : Bx) (n : Int) (w : World) (h : cellsErr b n ≠ 0) :
    Calls Tryz.prog 46 #[bxV b, .int .i64 n] w fun e w' => e = .returned (.tuple #[.slice none 0 0, .int .i64 (cellsErr b n)]) ∧ Ext w w' := by
  have HC := Lib.hid fun W => oCheck_c b W
  unfold cellsErr at h ⊢
  by_cases hv : bxErr b = 0
  · rw [hv] at HC
    have hn : n < 1 ∨ 512 < n := by
      refine Classical.byContradiction fun hx => h ?_
      rw [if_neg (by simp [hv]), if_neg hx]
    rw [if_neg (by simp [hv]), if_pos hn]
    have HW := Lib.hid fun W => oWithin_c n 1 512 W
    have hw : within n 1 512 = false := by rw [Bool.eq_false_iff, Ne, within_iff]; omega
    rw [hw] at HW
    clear h hv hn hw
    obtain ⟨⟨xl, xh⟩, ⟨yl, yh⟩, ⟨ul, uh⟩, vl, vh⟩ := b
    dsimp only [bxV] at HC ⊢
    go_enter Tryz.func46, Tryz.ntmps46
    go_wp2_with fail
    refine (HC.out _).mono ?_
    rintro e w1 ⟨rfl, h1⟩
    obtain ⟨hc_w1, hf_w1, hz_w1⟩ := bcell h1; (try simp only [szA] at hz_w1); (try have := wz0 w w1); (try have := wz1 w w1); (try have := wz2 w w1); (try have := wz3 w w1); (try have := wz4 w w1)
    go_wp2_with fail
    refine (HW.out _).mono ?_
    rintro e w2 ⟨rfl, h2⟩
    obtain ⟨hc_w2, hf_w2, hz_w2⟩ := bcell h2; (try simp only [szA] at hz_w2); (try have := wz0 w w2); (try have := wz1 w w2); (try have := wz2 w w2); (try have := wz3 w w2); (try have := wz4 w w2)
    go_wp2_with fail
    (try simp only [Exit.inBlock, Exit.then]); apply bodyPost_ret; (focus (simp only [results, Tryz.results46]; go_simp; try rfl)); rfl
    exact ⟨rfl, ext_by⟩
  · rw [if_pos hv]
    have hE : (bxErr b != 0) = true := by simpa using hv
    generalize bxErr b = E at *
    clear h hv
    obtain ⟨⟨xl, xh⟩, ⟨yl, yh⟩, ⟨ul, uh⟩, vl, vh⟩ := b
    dsimp only [bxV] at HC ⊢
    go_enter Tryz.func46, Tryz.ntmps46
    go_wp2_with fail
    refine (HC.out _).mono ?_
    rintro e w1 ⟨rfl, h1⟩
    obtain ⟨hc_w1, hf_w1, hz_w1⟩ := bcell h1; (try simp only [szA] at hz_w1); (try have := wz0 w w1); (try have := wz1 w w1); (try have := wz2 w w1); (try have := wz3 w w1); (try have := wz4 w w1)
    go_wp2_with fail
    (try simp only [Exit.inBlock, Exit.then]); apply bodyPost_ret; (focus (simp only [results, Tryz.results46]; go_simp; try rfl)); rfl
    exact ⟨rfl, ext_by⟩
theorem oCells_c (b : Bx) (n : Int) (w : World) :
    Calls Tryz.prog 46 #[bxV b, .int .i64 n] w fun e w' => ∃ A c, e = .returned (.tuple #[.slice A (cellsL b n).length c, .int .i64 (cellsErr b n)]) ∧ Bxs w' A (cellsL b n).length (cellsL b n) ∧ (cellsL b n).length ≤ c ∧ Ext w w' := by
  by_cases h : cellsErr b n = 0
  · have hv : bxErr b = 0 := by
      refine Classical.byContradiction fun hx => ?_
      unfold cellsErr at h
      rw [if_pos hx] at h
      exact hx h
    have hn : 1 ≤ n ∧ n ≤ 512 := by
      refine Classical.byContradiction fun hx => ?_
      unfold cellsErr at h
      rw [if_neg (by simp [hv]), if_pos (by omega)] at h
      cases h
    have hL : cellsL b n = cellsB b n.toNat := by unfold cellsL; rw [if_pos h]
    rw [hL, h]
    have := oCells_yes b n.toNat w hv (by omega) (by omega)
    rw [show ((n.toNat : Nat) : Int) = n by omega] at this
    exact this
  · have hL : cellsL b n = [] := by unfold cellsL; rw [if_neg h]
    rw [hL]
    refine (oCells_no b n w h).mono ?_
    rintro e w' ⟨he, h1⟩
    exact ⟨none, 0, he, SlR.nil _ _ _, Nat.le_refl _, h1⟩
end Go.Proofs.YtfniicgoeljmdaaGreat
