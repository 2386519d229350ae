/- Sets that are filtered, refined, updated: what agrees stays, nothing comes in. Plain laws. No condition. -/
import Derived.Test.YtfniicgoeljmdaaGreatMovesLaw
import Derived.Test.YtfniicgoeljmdaaGreatOutLaw
import Derived.Test.YtfniicgoeljmdaaGreatUpdate
namespace Go.Proofs.YtfniicgoeljmdaaGreat
open Go.RowKit

theorem excl_agree {s : Sky} {x : Sight} {xl xh yl yh px py : Int} (h : exclAll s x xl xh yl yh = true) (h1 : xl ≤ px ∧ px ≤ xh) (h2 : yl ≤ py ∧ py ≤ yh) : agreesAll s x px py = false := by
  unfold exclAll at h
  simp only [Bool.and_eq_true] at h
  unfold agreesAll
  rw [excl_agrees s x h.2 h1.1 h1.2 h2.1 h2.2]
  simp
def witB (s : Sky) (t : Int) (sg : List Sight) (p : St) : Prop := ∀ x ∈ sg, x.tick = t → agreesAll s x p.x p.y = true
theorem in_iff {L : List Bx} {p : St} : inSet L p = true ↔ ∃ b ∈ L, holdsB b p = true := by unfold inSet; rw [List.any_eq_true]
theorem filt_holds {s : Sky} {t : Int} {sg : List Sight} {p : St} (hw : witB s t sg p) {b : Bx} (hb : holdsB b p = true) : filtB s t sg b = false := by
  rw [← Bool.not_eq_true]
  intro h
  unfold filtB at h
  obtain ⟨x, hx, hh⟩ := List.any_eq_true.1 h
  unfold hitB at hh
  simp only [Bool.and_eq_true, decide_eq_true_eq] at hh
  rw [holdsB_iff] at hb
  have := excl_agree hh.2 hb.1 hb.2.1
  rw [hw x hx hh.1] at this
  cases this
theorem filt_in {s : Sky} {t : Int} {sg : List Sight} {p : St} (hw : witB s t sg p) {L : List Bx} (h : inSet L p = true) : inSet (filtL s t sg L) p = true := by
  obtain ⟨b, hb, hp⟩ := in_iff.1 h
  refine in_iff.2 ⟨b, List.mem_filter.2 ⟨hb, ?_⟩, hp⟩
  rw [filt_holds hw hp]; rfl
theorem filt_twice (s : Sky) (t : Int) (sg : List Sight) (L : List Bx) : filtL s t sg (filtL s t sg L) = filtL s t sg L := by
  unfold filtL
  rw [List.filter_filter]
  simp
theorem filt_none (s : Sky) (t : Int) (L : List Bx) : filtL s t [] L = L := by
  unfold filtL filtB
  simp
theorem half_mem {L : List Bx} (hv : ∀ b ∈ L, bxErr b = 0) {c : Bx} (h : c ∈ halfL L) : ∃ b ∈ L, bxErr c = 0 ∧ insideB c b = true := by
  unfold halfL at h
  obtain ⟨b, hb, hc⟩ := List.mem_flatMap.1 h
  refine ⟨b, hb, ?_⟩
  unfold halfB at hc
  by_cases hs : splitOk b = true
  · rw [if_pos hs] at hc
    unfold splitOk at hs
    simp only [Bool.and_eq_true, decide_eq_true_eq] at hs
    obtain ⟨v1, v2⟩ := part_ok (hv b hb) hs.2
    obtain ⟨_, _, p3, p4⟩ := part_two (hv b hb) hs.2 ⟨0, 0, 0, 0⟩
    simp only [List.mem_cons, List.not_mem_nil, or_false] at hc
    rcases hc with rfl | rfl
    · exact ⟨v1, p3⟩
    · exact ⟨v2, p4⟩
  · rw [if_neg hs] at hc
    simp only [List.mem_cons, List.not_mem_nil, or_false] at hc
    subst hc
    exact ⟨hv c hb, inside_refl (hv c hb)⟩
theorem half_in {L : List Bx} (hv : ∀ b ∈ L, bxErr b = 0) {p : St} (h : inSet L p = true) : inSet (halfL L) p = true := by
  obtain ⟨b, hb, hp⟩ := in_iff.1 h
  unfold halfL
  by_cases hs : splitOk b = true
  · have hs' := hs
    unfold splitOk at hs
    simp only [Bool.and_eq_true, decide_eq_true_eq] at hs
    obtain ⟨p1, _⟩ := part_two (hv b hb) hs.2 p
    rcases p1.1 hp with q | q
    · exact in_iff.2 ⟨_, List.mem_flatMap.2 ⟨b, hb, by unfold halfB; rw [if_pos hs']; simp⟩, q⟩
    · exact in_iff.2 ⟨_, List.mem_flatMap.2 ⟨b, hb, by unfold halfB; rw [if_pos hs']; simp⟩, q⟩
  · exact in_iff.2 ⟨b, List.mem_flatMap.2 ⟨b, hb, by unfold halfB; rw [if_neg hs]; simp⟩, hp⟩
theorem ref_law {s : Sky} {t : Int} {sg : List Sight} {p : St} (hw : witB s t sg p) : ∀ (k : Nat) (L : List Bx), (∀ b ∈ L, bxErr b = 0) → inSet L p = true →
    inSet (refM s t sg k L) p = true ∧ ∀ c ∈ refM s t sg k L, ∃ b ∈ L, insideB c b = true
  | 0, L, hv, hi => ⟨hi, fun c hc => ⟨c, hc, inside_refl (hv c hc)⟩⟩
  | k + 1, L, hv, hi => by
    rw [refM]
    split
    · exact ⟨hi, fun c hc => ⟨c, hc, inside_refl (hv c hc)⟩⟩
    · have hm : ∀ c ∈ filtL s t sg (halfL L), c ∈ halfL L := fun c hc => (List.mem_filter.1 hc).1
      obtain ⟨q1, q2⟩ := ref_law hw k (filtL s t sg (halfL L)) (fun c hc => by obtain ⟨_, _, h, _⟩ := half_mem hv (hm c hc); exact h) (filt_in hw (half_in hv hi))
      refine ⟨q1, fun c hc => ?_⟩
      obtain ⟨e, he, hce⟩ := q2 c hc
      obtain ⟨b, hb, _, heb⟩ := half_mem hv (hm e he)
      exact ⟨b, hb, inside_trans hce heb⟩
theorem within_of {L M : List Bx} (h : ∀ c ∈ L, ∃ b ∈ M, insideB c b = true) : withinS L M = true := by
  unfold withinS
  rw [List.all_eq_true]
  intro c hc
  obtain ⟨b, hb, hcb⟩ := h c hc
  exact List.any_eq_true.2 ⟨b, hb, hcb⟩
theorem filt_within {s : Sky} {t : Int} {sg : List Sight} {L : List Bx} (hv : ∀ b ∈ L, bxErr b = 0) : withinS (filtL s t sg L) L = true :=
  within_of fun c hc => ⟨c, (List.mem_filter.1 hc).1, inside_refl (hv c (List.mem_filter.1 hc).1)⟩
theorem upd_none (s : Sky) (d : Drf) : ∀ (k : Nat) (t : Int) (L : List Bx), updM s d [] k t L = propM s.world.bodies s.world.home d k t L
  | 0, _, _ => rfl
  | k + 1, t, L => by rw [updM, propM, filt_none, upd_none s d k]
def goM (s : Sky) (d : Drf) (sg : List Sight) : Nat → Int → Bx → Option Bx
  | 0, _, b => some b
  | k + 1, t, b => if filtB s (t + 1) sg (stepB s.world.bodies s.world.home d t b) then none else goM s d sg k (t + 1) (stepB s.world.bodies s.world.home d t b)
theorem filter_map_go (f : Bx → Bx) (p : Bx → Bool) (g : Bx → Option Bx) : ∀ L : List Bx, ((L.map f).filter fun b => !p b).filterMap g = L.filterMap fun b => if p (f b) then none else g (f b)
  | [] => rfl
  | b :: r => by
    have ih := filter_map_go f p g r
    cases hp : p (f b)
    · simp [hp, ih, List.filterMap_cons]
    · simp [hp, ih]
theorem upd_go {s : Sky} {d : Drf} {sg : List Sight} : ∀ (k : Nat) (t : Int) (L K : List Bx), updM s d sg k t L = some K → K = L.filterMap (goM s d sg k t)
  | 0, t, L, K, h => by
    rw [updM] at h; injection h with h; subst h
    have e : goM s d sg 0 t = some := rfl
    rw [e, List.filterMap_some]
  | k + 1, t, L, K, h => by
    rw [updM] at h
    by_cases ha : allB (stepB s.world.bodies s.world.home d t) L = true
    · rw [if_pos ha] at h
      rw [upd_go k (t + 1) _ K h]
      unfold filtL
      rw [filter_map_go]
      rfl
    · rw [if_neg ha] at h; cases h
theorem go_none {s : Sky} {d : Drf} {sg : List Sight} : ∀ (k : Nat) (t : Int) (b c : Bx), goM s d sg k t b = some c → goM s d [] k t b = some c
  | 0, t, b, c, h => h
  | k + 1, t, b, c, h => by
    rw [goM] at h ⊢
    by_cases hf : filtB s (t + 1) sg (stepB s.world.bodies s.world.home d t b) = true
    · rw [if_pos hf] at h; cases h
    · rw [if_neg hf] at h
      rw [show filtB s (t + 1) [] (stepB s.world.bodies s.world.home d t b) = false from rfl]
      exact go_none k (t + 1) _ c h
theorem filt_app (s : Sky) (t : Int) (sg : List Sight) (L M : List Bx) : filtL s t sg (L ++ M) = filtL s t sg L ++ filtL s t sg M := by unfold filtL; rw [List.filter_append]
theorem upd_law {s : Sky} {d : Drf} {sg : List Sight} {k : Nat} {t : Int} {L U V : List Bx} (hu : updM s d sg k t (filtL s t sg L) = some U) (hv : updM s d [] k t L = some V) (hval : ∀ c ∈ V, bxErr c = 0) : withinS U V = true := by
  have e1 := upd_go _ _ _ _ hu
  have e2 := upd_go _ _ _ _ hv
  refine within_of fun c hc => ?_
  rw [e1] at hc
  obtain ⟨b, hb, hbc⟩ := List.mem_filterMap.1 hc
  have : c ∈ V := by
    rw [e2]
    exact List.mem_filterMap.2 ⟨b, (List.mem_filter.1 hb).1, go_none _ _ _ _ hbc⟩
  exact ⟨c, this, inside_refl (hval c this)⟩
theorem upd_less {s : Sky} {d : Drf} {sg : List Sight} {k : Nat} {t : Int} {L U W : List Bx} {x : Bx} (hu : updM s d sg k t (filtL s t sg (L ++ [x])) = some U) (hw : updM s d sg k t (filtL s t sg L) = some W) : W.length ≤ U.length ∧ U.take W.length = W ∧ U.length ≤ W.length + 1 := by
  have e1 := upd_go _ _ _ _ hu
  have e2 := upd_go _ _ _ _ hw
  rw [filt_app, List.filterMap_append, ← e2] at e1
  have h1 : ((filtL s t sg [x]).filterMap (goM s d sg k t)).length ≤ 1 := by
    refine Nat.le_trans (List.length_filterMap_le _ _) ?_
    unfold filtL
    exact Nat.le_trans (List.length_filter_le _ _) (by simp)
  rw [e1]
  refine ⟨by simp, by simp, by simp only [List.length_append]; omega⟩
end Go.Proofs.YtfniicgoeljmdaaGreat
