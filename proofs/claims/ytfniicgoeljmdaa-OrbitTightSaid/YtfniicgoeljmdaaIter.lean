/- A range over a function, in plain words: what is handed out is a list; a round keeps what lay below a bound, and some blocks. No condition. -/
import Derived.Test.YtfniicgoeljmdaaGen
import Derived.RangeFuncNested
import Derived.RangeFuncBound
import Derived.RangeFuncCalls
import Derived.RangeFuncLeaves
import Derived.Shelf.Abstract
import Derived.Shelf.RegionOpen
import Derived.OwnWalkIn
import Derived.TacticsInMore
import Derived.LoopNIn
import Derived.LoopIn
namespace Go.Proofs.Ytfniicgoeljmdaa
open Go.RowKit Go.Shelf

def KpX (nb : Nat) (caps : List Nat) (W W' : World) : Prop := Below nb W W' ∧ ∀ g ∈ caps, ∀ t cs, Blk W g t cs → Blk W' g t cs
theorem KpX.trans {nb : Nat} {caps : List Nat} {A B C : World} (h : KpX nb caps A B) (k : KpX nb caps B C) : KpX nb caps A C := ⟨h.1.trans k.1, fun g hg t cs hb => k.2 g hg t cs (h.2 g hg t cs hb)⟩
theorem KpX.put {nb : Nat} {caps : List Nat} {w : World} (hn : nb ≤ w.heap.size) (W : World) (l : Nat) (o o' : Obj) (hl : w.heap.size ≤ l) (h : W.heap[l]? = some o) (ho : o.isCells = false) (hw : o.isWalk = false) : KpX nb caps W (W.putObj l o') := by
  refine ⟨belowK_b hn W l o o' hl h ho hw, fun g _ t cs hb => ?_⟩
  have hne : g ≠ l := fun e => by
    unfold Blk at hb
    rw [e, h] at hb
    injection hb with hb
    rw [hb] at ho
    cases ho
  exact ((grownBy_putObj' W l o').block g hb.lt (fun e => hne (by injection e))).trans hb
theorem KpX.refl (nb : Nat) (caps : List Nat) (W : World) : KpX nb caps W W := ⟨Below.refl _ _, fun _ _ _ _ h => h⟩
theorem KpX.ext {nb : Nat} {caps : List Nat} {A B C : World} (h : KpX nb caps A B) (e : Ext B C) (hn : nb ≤ B.heap.size) : KpX nb caps A C := ⟨h.1.trans (e.mono hn), fun g hg t cs hb => (h.2 g hg t cs hb).ext e⟩
theorem KpX.set {nb : Nat} {caps : List Nat} {A B : World} (h : KpX nb caps A B) {p : Addr} (hp : nb ≤ p.block) (hc : ∀ g ∈ caps, g ≠ p.block) (u : Value) : KpX nb caps A (B.setCell p u) := ⟨h.1.setCell hp u, fun g hg t cs hb => (h.2 g hg t cs hb).far (hc g hg) u⟩

theorem Ext.keepsFrom {W W' : World} (h : Ext W W') (B : Nat) : KeepsFrom B W W' := ⟨h.size, fun k _ _ hk _ => (h.block k (Array.getElem?_eq_some_iff.1 hk).1).trans hk⟩
theorem Ext.kpX {W W' : World} (h : Ext W W') {nb : Nat} (hn : nb ≤ W.heap.size) (caps : List Nat) : KpX nb caps W W' := (KpX.refl nb caps W).ext h hn
def IterOf {β : Type} (P : Program) (gf : Nat) (lb : Array Value) (encs : β → Array Value) (nb : Nat) (caps : List Nat) (L : List β) (w : World) : Prop :=
  ∀ n, SeqStopsK Fence.wide n P gf lb (fun x : { x // x ∈ L } => encs x.1) (KpX nb caps) (fun xs => xs.map Subtype.val = L) (fun pre => pre.map Subtype.val <+: L) L.length w

section
variable {P : Program}

def RoundPost {β : Type} (w : World) (nb : Nat) (caps : List Nat) (I : List β → World → Prop) (Ix : Code → List β → World → Prop) (xs : List β) (W : World) : Exit → Act → World → Prop
  | .normal, _, W' => KeepsFrom w.heap.size W W' ∧ KpX nb caps W W' ∧ I xs W'
  | .ret, _, W' => KeepsFrom w.heap.size W W' ∧ Ix .ret xs W'
  | .exit id, _, W' => KeepsFrom w.heap.size W W' ∧ Ix (.exit id) xs W'
  | .goto t, _, W' => KeepsFrom w.heap.size W W' ∧ Ix (.goto t) xs W'
  | .panic _, _, _ => False
  | .outgrown, _, _ => False

theorem wp_range_box2 {β : Type} {L : List β} {g : Operand} {ps : Array Tmp} {assign body : Code} {Q : Exit → Act → World → Prop} {a : Act} {w : World} {gf : Nat} {lb : Array Value} {encs : β → Array Value} {nb : Nat} {caps : List Nat}
    (hit : IterOf P gf lb encs nb caps L w) (hg : a.eval g = .func (.func gf) #[] lb) (eg : ∀ args w, (callFunc gf args).run P w = .ok (.enter gf args) w) (hnb : nb ≤ w.heap.size) (hps : ∀ x, (encs x).size = ps.size)
    (I : List β → World → Prop) (Ix : Code → List β → World → Prop) (hI : OwnFrom w.heap.size I) (hIx : ∀ c, OwnFrom w.heap.size (Ix c)) (h0 : I [] w)
    (upd : β → Nat → Array Value → Array Value) (T : TypeId) (cells : β → Array Value)
    (hassign : ∀ (l n : Nat) (x : β) (W : World) (K : Act → World → Prop), K { tmps := upd x W.heap.size a.tmps, defers := [] } (W.alloc (.cells (cells x) T)) →
      assign.wpIn (Fence.wide.inRound l) n P (Exit.then K (fun _ _ _ => False)) { tmps := (ps.zip (encs x)).foldl (fun t (p, v) => t.setIfInBounds p v) a.tmps, defers := [] } W)
    (hbody : ∀ (l n : Nat) (pre : List β) (x : β) (b : Nat) (W : World), pre.length < L.length → x ∈ L → w.heap.size ≤ b → Blk W b T (cells x) → w.heap.size ≤ W.heap.size → I pre W →
      body.wpIn (Fence.wide.inRound l) n P (RoundPost w nb caps I Ix (pre ++ [x]) W) { tmps := upd x b a.tmps, defers := [] } W)
    (hdone : ∀ (D : Nat) (W : World), w.heap.size ≤ D → I L W → W.heap[D]? = some (.deferred (some [])) → Q .normal { a with defers := { target := .collected D, args := #[] } :: a.defers } W)
    (hstop : ∀ (D : Nat) (c : Code) (pre : List β) (W : World), w.heap.size ≤ D → pre <+: L → Ix c pre W → W.heap[D]? = some (.deferred (some [])) → c.wp P Q { a with defers := { target := .collected D, args := #[] } :: a.defers } W) :
    (Code.rangeFunc g ps assign body).wp P Q a w := by
  refine (wpIn_wide (n := 3)).1 ?_
  refine wpIn_rangeFunc_ownH (α := { x // x ∈ L }) (w0 := w) (encs := fun x => encs x.1) (Kp := KpX nb caps) (S := fun xs => xs.map Subtype.val = L) (Sp := fun pre => pre.map Subtype.val <+: L) (N := L.length) rfl (by omega) hg trivial eg (hit _) (fun h k => h.trans k) (KpX.put hnb) (Below.refl _ _) (fun x => hps x.1)
    (fun pre W => I (pre.map Subtype.val) W ∧ w.heap.size ≤ W.heap.size) (fun c pre W => Ix c (pre.map Subtype.val) W) (OwnFrom.and (fun s W W' row hs hgr hr => hI _ W W' row hs hgr hr) (fun s W W' row hs hgr hr => Nat.le_trans hs hgr.size)) (fun c s W W' row hs hgr hr => hIx c _ W W' row hs hgr hr) ⟨h0, Nat.le_refl _⟩
    (fun x a' W => ∃ b, w.heap.size ≤ b ∧ Blk W b T (cells x.1) ∧ a' = { tmps := upd x.1 b a.tmps, defers := [] })
    (fun x a' _ X Y row hs hgr hr => ?_) (fun l pre x W K hi hK => ?_) (fun l pre x a' W hl hr hi hx hlt => ?_) (fun D xs W hD hS hi hk => hdone D W hD (hS ▸ hi.1) hk) (fun D c pre W hD hS hi hk => wpIn_wide.2 (hstop D c _ W hD hS hi hk))
  · obtain ⟨b, h1, h2, h3⟩ := hs
    refine ⟨b, h1, ?_, h3⟩
    refine (hgr.block b h2.lt (fun e => ?_)).trans h2
    obtain ⟨_, o, ho, hc⟩ := hr b e.symm
    unfold Blk at h2
    rw [h2] at ho
    injection ho with ho
    rw [← ho] at hc
    cases hc
  · refine hassign l _ x.1 W K (hK _ _ ((KeepsOthers.alloc _ _).from _) ((KpX.refl _ _ W).ext (Ext.alloc0 _ _) (Nat.le_trans hnb hi.2)) ⟨hI.alloc _ hi.1, Nat.le_trans hi.2 (Ext.alloc0 W _).size⟩ ⟨W.heap.size, hi.2, Blk.newAt rfl, rfl⟩)
  · obtain ⟨b, h1, h2, rfl⟩ := hx
    refine wpIn_mono (hbody l _ (pre.map Subtype.val) x.1 b W (by simpa using hlt) x.2 h1 h2 hi.2 hi.1) ?_
    intro e a' W' hp
    cases e with
    | normal =>
      obtain ⟨p1, p2, p3⟩ := hp
      exact ⟨p1, p2, by simpa using p3, Nat.le_trans hi.2 p1.size⟩
    | ret => obtain ⟨p1, p2⟩ := hp; exact ⟨p1, by simpa using p2⟩
    | exit id => obtain ⟨p1, p2⟩ := hp; exact ⟨p1, by simpa using p2⟩
    | goto t => obtain ⟨p1, p2⟩ := hp; exact ⟨p1, by simpa using p2⟩
    | panic _ => exact hp.elim
    | outgrown => exact hp.elim
theorem wp_range_flat {β : Type} {L : List β} {g : Operand} {ps : Array Tmp} {assign body : Code} {Q : Exit → Act → World → Prop} {a : Act} {w : World} {gf : Nat} {lb : Array Value} {encs : β → Array Value} {nb : Nat} {caps : List Nat}
    (hit : IterOf P gf lb encs nb caps L w) (hg : a.eval g = .func (.func gf) #[] lb) (eg : ∀ args w, (callFunc gf args).run P w = .ok (.enter gf args) w) (hnb : nb ≤ w.heap.size) (hps : ∀ x, (encs x).size = ps.size)
    (I : List β → World → Prop) (Ix : Code → List β → World → Prop) (hI : OwnFrom w.heap.size I) (hIx : ∀ c, OwnFrom w.heap.size (Ix c)) (h0 : I [] w)
    (upd : β → Array Value → Array Value)
    (hassign : ∀ (l n : Nat) (x : β) (W : World) (K : Act → World → Prop), K { tmps := upd x a.tmps, defers := [] } W →
      assign.wpIn (Fence.wide.inRound l) n P (Exit.then K (fun _ _ _ => False)) { tmps := (ps.zip (encs x)).foldl (fun t (p, v) => t.setIfInBounds p v) a.tmps, defers := [] } W)
    (hbody : ∀ (l n : Nat) (pre : List β) (x : β) (W : World), x ∈ L → w.heap.size ≤ W.heap.size → I pre W →
      body.wpIn (Fence.wide.inRound l) n P (RoundPost w nb caps I Ix (pre ++ [x]) W) { tmps := upd x a.tmps, defers := [] } W)
    (hdone : ∀ (D : Nat) (W : World), w.heap.size ≤ D → I L W → W.heap[D]? = some (.deferred (some [])) → Q .normal { a with defers := { target := .collected D, args := #[] } :: a.defers } W)
    (hstop : ∀ (D : Nat) (c : Code) (pre : List β) (W : World), w.heap.size ≤ D → pre <+: L → Ix c pre W → W.heap[D]? = some (.deferred (some [])) → c.wp P Q { a with defers := { target := .collected D, args := #[] } :: a.defers } W) :
    (Code.rangeFunc g ps assign body).wp P Q a w := by
  refine (wpIn_wide (n := 3)).1 ?_
  refine wpIn_rangeFunc_ownH (α := { x // x ∈ L }) (w0 := w) (encs := fun x => encs x.1) (Kp := KpX nb caps) (S := fun xs => xs.map Subtype.val = L) (Sp := fun pre => pre.map Subtype.val <+: L) (N := L.length) rfl (by omega) hg trivial eg (hit _) (fun h k => h.trans k) (KpX.put hnb) (Below.refl _ _) (fun x => hps x.1)
    (fun pre W => I (pre.map Subtype.val) W ∧ w.heap.size ≤ W.heap.size) (fun c pre W => Ix c (pre.map Subtype.val) W) (OwnFrom.and (fun s W W' row hs hgr hr => hI _ W W' row hs hgr hr) (fun s W W' row hs hgr hr => Nat.le_trans hs hgr.size)) (fun c s W W' row hs hgr hr => hIx c _ W W' row hs hgr hr) ⟨h0, Nat.le_refl _⟩
    (fun x a' W => a' = { tmps := upd x.1 a.tmps, defers := [] })
    (fun x a' _ X Y row hs hgr hr => hs) (fun l pre x W K hi hK => ?_) (fun l pre x a' W hl hr hi hx hlt => ?_) (fun D xs W hD hS hi hk => hdone D W hD (hS ▸ hi.1) hk) (fun D c pre W hD hS hi hk => wpIn_wide.2 (hstop D c _ W hD hS hi hk))
  · exact hassign l _ x.1 W K (hK _ _ (KeepsFrom.refl _ _) (KpX.refl _ _ W) hi rfl)
  · subst hx
    refine wpIn_mono (hbody l _ (pre.map Subtype.val) x.1 W x.2 hi.2 hi.1) ?_
    intro e a' W' hp
    cases e with
    | normal =>
      obtain ⟨p1, p2, p3⟩ := hp
      exact ⟨p1, p2, by simpa using p3, Nat.le_trans hi.2 p1.size⟩
    | ret => obtain ⟨p1, p2⟩ := hp; exact ⟨p1, by simpa using p2⟩
    | exit id => obtain ⟨p1, p2⟩ := hp; exact ⟨p1, by simpa using p2⟩
    | goto t => obtain ⟨p1, p2⟩ := hp; exact ⟨p1, by simpa using p2⟩
    | panic _ => exact hp.elim
    | outgrown => exact hp.elim
end
end Go.Proofs.Ytfniicgoeljmdaa
