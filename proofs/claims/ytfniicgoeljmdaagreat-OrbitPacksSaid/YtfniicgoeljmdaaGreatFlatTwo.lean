/- A range over a function whose variables are not boxed; the round knows how many have come. No condition. -/
import Derived.Test.YtfniicgoeljmdaaGreatForcedIn
namespace Go.Proofs.YtfniicgoeljmdaaGreat
open Go.RowKit Go.Shelf

section
variable {P : Program}
theorem wp_range_flat2 {β : Type} {L : List β} {g : Operand} {ps : Array Tmp} {assign body : Code} {Q : Exit → Act → World → Prop} {a : Act} {w : World} {gf : Nat} {lb : Array Value} {encs : β → Array Value} {nb : Nat} {caps : List Nat}
    (hit : IterOf P gf lb encs nb caps L w) (hg : a.eval g = .func (.func gf) #[] lb) (eg : ∀ args w, (callFunc gf args).run P w = .ok (.enter gf args) w) (hnb : nb ≤ w.heap.size) (hps : ∀ x, (encs x).size = ps.size)
    (I : List β → World → Prop) (Ix : Code → List β → World → Prop) (hI : OwnFrom w.heap.size I) (hIx : ∀ c, OwnFrom w.heap.size (Ix c)) (h0 : I [] w)
    (upd : β → Array Value → Array Value)
    (hassign : ∀ (l n : Nat) (x : β) (W : World) (K : Act → World → Prop), K { tmps := upd x a.tmps, defers := [] } W →
      assign.wpIn (Fence.wide.inRound l) n P (Exit.then K (fun _ _ _ => False)) { tmps := (ps.zip (encs x)).foldl (fun t (p, v) => t.setIfInBounds p v) a.tmps, defers := [] } W)
    (hbody : ∀ (l n : Nat) (pre : List β) (x : β) (W : World), pre.length < L.length → x ∈ L → w.heap.size ≤ W.heap.size → I pre W →
      body.wpIn (Fence.wide.inRound l) n P (RoundPost w nb caps I Ix (pre ++ [x]) W) { tmps := upd x a.tmps, defers := [] } W)
    (hdone : ∀ (D : Nat) (W : World), w.heap.size ≤ D → I L W → W.heap[D]? = some (.deferred (some [])) → Q .normal { a with defers := { target := .collected D, args := #[] } :: a.defers } W)
    (hstop : ∀ (D : Nat) (c : Code) (pre : List β) (W : World), w.heap.size ≤ D → pre <+: L → Ix c pre W → W.heap[D]? = some (.deferred (some [])) → c.wp P Q { a with defers := { target := .collected D, args := #[] } :: a.defers } W) :
    (Code.rangeFunc g ps assign body).wp P Q a w := by
  refine (wpIn_wide (n := 3)).1 ?_
  refine wpIn_rangeFunc_ownH (α := { x // x ∈ L }) (w0 := w) (encs := fun x => encs x.1) (Kp := KpX nb caps) (S := fun xs => xs.map Subtype.val = L) (Sp := fun pre => pre.map Subtype.val <+: L) (N := L.length) rfl (by omega) hg trivial eg (hit _) (fun h k => h.trans k) (KpX.put hnb) (Below.refl _ _) (fun x => hps x.1)
    (fun pre W => I (pre.map Subtype.val) W ∧ w.heap.size ≤ W.heap.size) (fun c pre W => Ix c (pre.map Subtype.val) W) (OwnFrom.and (fun s W W' row hs hgr hr => hI _ W W' row hs hgr hr) (fun s W W' row hs hgr hr => Nat.le_trans hs hgr.size)) (fun c s W W' row hs hgr hr => hIx c _ W W' row hs hgr hr) ⟨h0, Nat.le_refl _⟩
    (fun x a' W => a' = { tmps := upd x.1 a.tmps, defers := [] })
    (fun x a' _ X Y row hs hgr hr => hs) (fun l pre x W K hi hK => ?_) (fun l pre x a' W hl hr hi hx hlt => ?_) (fun D xs W hD hS hi hk => hdone D W hD (hS ▸ hi.1) hk) (fun D c pre W hD hS hi hk => wpIn_wide.2 (hstop D c _ W hD hS hi hk))
  · exact hassign l _ x.1 W K (hK _ _ (KeepsFrom.refl _ _) (KpX.refl _ _ W) hi rfl)
  · subst hx
    refine wpIn_mono (hbody l _ (pre.map Subtype.val) x.1 W (by simpa using hlt) x.2 hi.2 hi.1) ?_
    intro e a' W' hp
    cases e with
    | normal =>
      obtain ⟨p1, p2, p3⟩ := hp
      exact ⟨p1, p2, by simpa using p3, Nat.le_trans hi.2 p1.size⟩
    | ret => obtain ⟨p1, p2⟩ := hp; exact ⟨p1, by simpa using p2⟩
    | exit id => obtain ⟨p1, p2⟩ := hp; exact ⟨p1, by simpa using p2⟩
    | goto t => obtain ⟨p1, p2⟩ := hp; exact ⟨p1, by simpa using p2⟩
    | panic _ => exact hp.elim
    | outgrown => exact hp.elim
end
end Go.Proofs.YtfniicgoeljmdaaGreat
