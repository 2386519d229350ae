/- Tracklets and guesses that were made are valid: the plain law. No condition. -/
import Derived.Test.YtmgjjgmadiabfaaManyAll
import Derived.Test.YtmgjjgmadiabfaaGroups
namespace Go.Proofs.Ytmgjjgmadiabfaa
open Go.RowKit

theorem GoodG.ok {x : St} (h : GoodG x) : gOK x = true := by
  obtain ⟨h1, h2, h3, h4⟩ := h
  unfold gOK
  rw [Bool.and_eq_true, near_iff, near_iff]
  dsimp only
  omega
theorem asks_ok {G : List St} (hl : G.length ≤ 64) (h : ∀ x ∈ G, GoodG x) : askErr G 0 = 0 := by
  have h1 : within 0 0 1073741824 = true := (within_iff _ _ _).2 (by omega)
  have h2 : (G.any fun g => !gOK g) = false := by
    rw [List.any_eq_false]
    intro x hx
    rw [(h x hx).ok]
    simp
  rw [askErr, if_neg (by omega), h1, if_neg (by simp), h2, if_neg (by simp)]
theorem trkFrom_ok {s : Sky} (hm : MadeSky s) : ∀ {l : List Sight} {last : Int}, l.Pairwise (fun a b => a.tick ≤ b.tick) → (∀ x ∈ l, MadeSight s x ∧ last ≤ x.tick) → trkFrom s l last = 0
  | [], _, _, _ => rfl
  | x :: r, last, h, k => by
    have h1 := k x (by simp)
    have h2 := List.pairwise_cons.1 h
    have h3 := h1.1.ok hm
    have h4 : trkFrom s r x.tick = 0 := trkFrom_ok hm h2.2 fun y hy => ⟨(k y (by simp [hy])).1, h2.1 y hy⟩
    have h5 := h1.2
    rw [trkFrom, h3, if_neg (by simp), if_neg (by omega), h4]
theorem GoodT.ok {s : Sky} (hm : MadeSky s) {l : List Sight} (h : GoodT s l) : trkErr s l = 0 := by
  obtain ⟨⟨h1, h2⟩, h3, h4⟩ := h
  rw [trkErr, hm.ok, if_neg (by simp), if_neg (by omega), if_neg (by omega)]
  exact trkFrom_ok hm h1 fun x hx => ⟨(h2 x hx).1, (h2 x hx).1.tick.1⟩
theorem goodTs_ok {s : Sky} (hm : MadeSky s) : ∀ {L : List (List Sight)}, (∀ l ∈ L, GoodT s l) → trksErr s L = 0
  | [], _ => rfl
  | l :: r, h => by
    have h1 := (h l (by simp)).ok hm
    have h2 := goodTs_ok hm (L := r) fun x hx => h x (by simp [hx])
    rw [trksErr]
    simp [h1, h2]
end Go.Proofs.Ytmgjjgmadiabfaa
