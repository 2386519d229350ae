/- A range over a function, in plain words: what is handed out is a list; a round keeps what lay below a bound, and some blocks. No condition. As wp_region_forced, inside a function that hands out. No condition. A range over a function that hands out rows of its own making: what is known of them behind the loop is said of the last world. No condition. A range over a function in the body of another one. No condition. The marks that loops over functions leave behind are taken one by one. No condition. A scope of labels inside a fence, left without a jump to a label. No condition. -/
import Derived.Test.YtiladlangkjoiaaGreatGen
import Derived.RangeFuncNested
import Derived.RangeFuncBound
import Derived.RangeFuncCalls
import Derived.RangeFuncLeaves
import Derived.Shelf.Abstract
import Derived.Shelf.RegionOpen
import Derived.OwnWalkIn
import Derived.TacticsInMore
import Derived.LoopNIn
import Derived.LoopIn
import Derived.Test.YtiladlangkjoiaaGreatFreeLast
namespace Go.Proofs.YtiladlangkjoiaaGreat
open Go.RowKit Go.Shelf

def KpX (nb : Nat) (caps : List Nat) (W W' : World) : Prop := Below nb W W' ∧ ∀ g ∈ caps, ∀ t cs, Blk W g t cs → Blk W' g t cs
theorem KpX.trans {nb : Nat} {caps : List Nat} {A B C : World} (h : KpX nb caps A B) (k : KpX nb caps B C) : KpX nb caps A C := ⟨h.1.trans k.1, fun g hg t cs hb => k.2 g hg t cs (h.2 g hg t cs hb)⟩
theorem KpX.put {nb : Nat} {caps : List Nat} {w : World} (hn : nb ≤ w.heap.size) (W : World) (l : Nat) (o o' : Obj) (hl : w.heap.size ≤ l) (h : W.heap[l]? = some o) (ho : o.isCells = false) (hw : o.isWalk = false) : KpX nb caps W (W.putObj l o') := by
  refine ⟨belowK_b hn W l o o' hl h ho hw, fun g _ t cs hb => ?_⟩
  have hne : g ≠ l := fun e => by
    unfold Blk at hb
    rw [e, h] at hb
    injection hb with hb
    rw [hb] at ho
    cases ho
  exact ((grownBy_putObj' W l o').block g hb.lt (fun e => hne (by injection e))).trans hb
theorem KpX.refl (nb : Nat) (caps : List Nat) (W : World) : KpX nb caps W W := ⟨Below.refl _ _, fun _ _ _ _ h => h⟩
theorem KpX.ext {nb : Nat} {caps : List Nat} {A B C : World} (h : KpX nb caps A B) (e : Ext B C) (hn : nb ≤ B.heap.size) : KpX nb caps A C := ⟨h.1.trans (e.mono hn), fun g hg t cs hb => (h.2 g hg t cs hb).ext e⟩
theorem KpX.set {nb : Nat} {caps : List Nat} {A B : World} (h : KpX nb caps A B) {p : Addr} (hp : nb ≤ p.block) (hc : ∀ g ∈ caps, g ≠ p.block) (u : Value) : KpX nb caps A (B.setCell p u) := ⟨h.1.setCell hp u, fun g hg t cs hb => (h.2 g hg t cs hb).far (hc g hg) u⟩

theorem Ext.keepsFrom {W W' : World} (h : Ext W W') (B : Nat) : KeepsFrom B W W' := ⟨h.size, fun k _ _ hk _ => (h.block k (Array.getElem?_eq_some_iff.1 hk).1).trans hk⟩
theorem Ext.kpX {W W' : World} (h : Ext W W') {nb : Nat} (hn : nb ≤ W.heap.size) (caps : List Nat) : KpX nb caps W W' := (KpX.refl nb caps W).ext h hn
def IterOf {β : Type} (P : Program) (gf : Nat) (lb : Array Value) (encs : β → Array Value) (nb : Nat) (caps : List Nat) (L : List β) (w : World) : Prop :=
  ∀ n, SeqStopsK Fence.wide n P gf lb (fun x : { x // x ∈ L } => encs x.1) (KpX nb caps) (fun xs => xs.map Subtype.val = L) (fun pre => pre.map Subtype.val <+: L) L.length w

section
variable {P : Program}

def RoundPost {β : Type} (w : World) (nb : Nat) (caps : List Nat) (I : List β → World → Prop) (Ix : Code → List β → World → Prop) (xs : List β) (W : World) : Exit → Act → World → Prop
  | .normal, _, W' => KeepsFrom w.heap.size W W' ∧ KpX nb caps W W' ∧ I xs W'
  | .ret, _, W' => KeepsFrom w.heap.size W W' ∧ Ix .ret xs W'
  | .exit id, _, W' => KeepsFrom w.heap.size W W' ∧ Ix (.exit id) xs W'
  | .goto t, _, W' => KeepsFrom w.heap.size W W' ∧ Ix (.goto t) xs W'
  | .panic _, _, _ => False
  | .outgrown, _, _ => False

theorem wp_range_box2 {β : Type} {L : List β} {g : Operand} {ps : Array Tmp} {assign body : Code} {Q : Exit → Act → World → Prop} {a : Act} {w : World} {gf : Nat} {lb : Array Value} {encs : β → Array Value} {nb : Nat} {caps : List Nat}
    (hit : IterOf P gf lb encs nb caps L w) (hg : a.eval g = .func (.func gf) #[] lb) (eg : ∀ args w, (callFunc gf args).run P w = .ok (.enter gf args) w) (hnb : nb ≤ w.heap.size) (hps : ∀ x, (encs x).size = ps.size)
    (I : List β → World → Prop) (Ix : Code → List β → World → Prop) (hI : OwnFrom w.heap.size I) (hIx : ∀ c, OwnFrom w.heap.size (Ix c)) (h0 : I [] w)
    (upd : β → Nat → Array Value → Array Value) (T : TypeId) (cells : β → Array Value)
    (hassign : ∀ (l n : Nat) (x : β) (W : World) (K : Act → World → Prop), K { tmps := upd x W.heap.size a.tmps, defers := [] } (W.alloc (.cells (cells x) T)) →
      assign.wpIn (Fence.wide.inRound l) n P (Exit.then K (fun _ _ _ => False)) { tmps := (ps.zip (encs x)).foldl (fun t (p, v) => t.setIfInBounds p v) a.tmps, defers := [] } W)
    (hbody : ∀ (l n : Nat) (pre : List β) (x : β) (b : Nat) (W : World), pre.length < L.length → x ∈ L → w.heap.size ≤ b → Blk W b T (cells x) → w.heap.size ≤ W.heap.size → I pre W →
      body.wpIn (Fence.wide.inRound l) n P (RoundPost w nb caps I Ix (pre ++ [x]) W) { tmps := upd x b a.tmps, defers := [] } W)
    (hdone : ∀ (D : Nat) (W : World), w.heap.size ≤ D → I L W → W.heap[D]? = some (.deferred (some [])) → Q .normal { a with defers := { target := .collected D, args := #[] } :: a.defers } W)
    (hstop : ∀ (D : Nat) (c : Code) (pre : List β) (W : World), w.heap.size ≤ D → pre <+: L → Ix c pre W → W.heap[D]? = some (.deferred (some [])) → c.wp P Q { a with defers := { target := .collected D, args := #[] } :: a.defers } W) :
    (Code.rangeFunc g ps assign body).wp P Q a w := by
  refine (wpIn_wide (n := 3)).1 ?_
  refine wpIn_rangeFunc_ownH (α := { x // x ∈ L }) (w0 := w) (encs := fun x => encs x.1) (Kp := KpX nb caps) (S := fun xs => xs.map Subtype.val = L) (Sp := fun pre => pre.map Subtype.val <+: L) (N := L.length) rfl (by omega) hg trivial eg (hit _) (fun h k => h.trans k) (KpX.put hnb) (Below.refl _ _) (fun x => hps x.1)
    (fun pre W => I (pre.map Subtype.val) W ∧ w.heap.size ≤ W.heap.size) (fun c pre W => Ix c (pre.map Subtype.val) W) (OwnFrom.and (fun s W W' row hs hgr hr => hI _ W W' row hs hgr hr) (fun s W W' row hs hgr hr => Nat.le_trans hs hgr.size)) (fun c s W W' row hs hgr hr => hIx c _ W W' row hs hgr hr) ⟨h0, Nat.le_refl _⟩
    (fun x a' W => ∃ b, w.heap.size ≤ b ∧ Blk W b T (cells x.1) ∧ a' = { tmps := upd x.1 b a.tmps, defers := [] })
    (fun x a' _ X Y row hs hgr hr => ?_) (fun l pre x W K hi hK => ?_) (fun l pre x a' W hl hr hi hx hlt => ?_) (fun D xs W hD hS hi hk => hdone D W hD (hS ▸ hi.1) hk) (fun D c pre W hD hS hi hk => wpIn_wide.2 (hstop D c _ W hD hS hi hk))
  · obtain ⟨b, h1, h2, h3⟩ := hs
    refine ⟨b, h1, ?_, h3⟩
    refine (hgr.block b h2.lt (fun e => ?_)).trans h2
    obtain ⟨_, o, ho, hc⟩ := hr b e.symm
    unfold Blk at h2
    rw [h2] at ho
    injection ho with ho
    rw [← ho] at hc
    cases hc
  · refine hassign l _ x.1 W K (hK _ _ ((KeepsOthers.alloc _ _).from _) ((KpX.refl _ _ W).ext (Ext.alloc0 _ _) (Nat.le_trans hnb hi.2)) ⟨hI.alloc _ hi.1, Nat.le_trans hi.2 (Ext.alloc0 W _).size⟩ ⟨W.heap.size, hi.2, Blk.newAt rfl, rfl⟩)
  · obtain ⟨b, h1, h2, rfl⟩ := hx
    refine wpIn_mono (hbody l _ (pre.map Subtype.val) x.1 b W (by simpa using hlt) x.2 h1 h2 hi.2 hi.1) ?_
    intro e a' W' hp
    cases e with
    | normal =>
      obtain ⟨p1, p2, p3⟩ := hp
      exact ⟨p1, p2, by simpa using p3, Nat.le_trans hi.2 p1.size⟩
    | ret => obtain ⟨p1, p2⟩ := hp; exact ⟨p1, by simpa using p2⟩
    | exit id => obtain ⟨p1, p2⟩ := hp; exact ⟨p1, by simpa using p2⟩
    | goto t => obtain ⟨p1, p2⟩ := hp; exact ⟨p1, by simpa using p2⟩
    | panic _ => exact hp.elim
    | outgrown => exact hp.elim
theorem wp_range_flat {β : Type} {L : List β} {g : Operand} {ps : Array Tmp} {assign body : Code} {Q : Exit → Act → World → Prop} {a : Act} {w : World} {gf : Nat} {lb : Array Value} {encs : β → Array Value} {nb : Nat} {caps : List Nat}
    (hit : IterOf P gf lb encs nb caps L w) (hg : a.eval g = .func (.func gf) #[] lb) (eg : ∀ args w, (callFunc gf args).run P w = .ok (.enter gf args) w) (hnb : nb ≤ w.heap.size) (hps : ∀ x, (encs x).size = ps.size)
    (I : List β → World → Prop) (Ix : Code → List β → World → Prop) (hI : OwnFrom w.heap.size I) (hIx : ∀ c, OwnFrom w.heap.size (Ix c)) (h0 : I [] w)
    (upd : β → Array Value → Array Value)
    (hassign : ∀ (l n : Nat) (x : β) (W : World) (K : Act → World → Prop), K { tmps := upd x a.tmps, defers := [] } W →
      assign.wpIn (Fence.wide.inRound l) n P (Exit.then K (fun _ _ _ => False)) { tmps := (ps.zip (encs x)).foldl (fun t (p, v) => t.setIfInBounds p v) a.tmps, defers := [] } W)
    (hbody : ∀ (l n : Nat) (pre : List β) (x : β) (W : World), x ∈ L → w.heap.size ≤ W.heap.size → I pre W →
      body.wpIn (Fence.wide.inRound l) n P (RoundPost w nb caps I Ix (pre ++ [x]) W) { tmps := upd x a.tmps, defers := [] } W)
    (hdone : ∀ (D : Nat) (W : World), w.heap.size ≤ D → I L W → W.heap[D]? = some (.deferred (some [])) → Q .normal { a with defers := { target := .collected D, args := #[] } :: a.defers } W)
    (hstop : ∀ (D : Nat) (c : Code) (pre : List β) (W : World), w.heap.size ≤ D → pre <+: L → Ix c pre W → W.heap[D]? = some (.deferred (some [])) → c.wp P Q { a with defers := { target := .collected D, args := #[] } :: a.defers } W) :
    (Code.rangeFunc g ps assign body).wp P Q a w := by
  refine (wpIn_wide (n := 3)).1 ?_
  refine wpIn_rangeFunc_ownH (α := { x // x ∈ L }) (w0 := w) (encs := fun x => encs x.1) (Kp := KpX nb caps) (S := fun xs => xs.map Subtype.val = L) (Sp := fun pre => pre.map Subtype.val <+: L) (N := L.length) rfl (by omega) hg trivial eg (hit _) (fun h k => h.trans k) (KpX.put hnb) (Below.refl _ _) (fun x => hps x.1)
    (fun pre W => I (pre.map Subtype.val) W ∧ w.heap.size ≤ W.heap.size) (fun c pre W => Ix c (pre.map Subtype.val) W) (OwnFrom.and (fun s W W' row hs hgr hr => hI _ W W' row hs hgr hr) (fun s W W' row hs hgr hr => Nat.le_trans hs hgr.size)) (fun c s W W' row hs hgr hr => hIx c _ W W' row hs hgr hr) ⟨h0, Nat.le_refl _⟩
    (fun x a' W => a' = { tmps := upd x.1 a.tmps, defers := [] })
    (fun x a' _ X Y row hs hgr hr => hs) (fun l pre x W K hi hK => ?_) (fun l pre x a' W hl hr hi hx hlt => ?_) (fun D xs W hD hS hi hk => hdone D W hD (hS ▸ hi.1) hk) (fun D c pre W hD hS hi hk => wpIn_wide.2 (hstop D c _ W hD hS hi hk))
  · exact hassign l _ x.1 W K (hK _ _ (KeepsFrom.refl _ _) (KpX.refl _ _ W) hi rfl)
  · subst hx
    refine wpIn_mono (hbody l _ (pre.map Subtype.val) x.1 W x.2 hi.2 hi.1) ?_
    intro e a' W' hp
    cases e with
    | normal =>
      obtain ⟨p1, p2, p3⟩ := hp
      exact ⟨p1, p2, by simpa using p3, Nat.le_trans hi.2 p1.size⟩
    | ret => obtain ⟨p1, p2⟩ := hp; exact ⟨p1, by simpa using p2⟩
    | exit id => obtain ⟨p1, p2⟩ := hp; exact ⟨p1, by simpa using p2⟩
    | goto t => obtain ⟨p1, p2⟩ := hp; exact ⟨p1, by simpa using p2⟩
    | panic _ => exact hp.elim
    | outgrown => exact hp.elim
end
end Go.Proofs.YtiladlangkjoiaaGreat

namespace Go.Proofs.YtiladlangkjoiaaGreat
open Go.RowKit Go.Shelf

section
variable {P : Program} {ops : Array Oper} {Q : Exit → Act → World → Prop} {S : World → Prop} {m' : Nat} {F : Fence}
def PlainF (F : Fence) : Prop := (∀ f, F.fn f) ∧ (F.depth.isSome = true → False) ∧ ∀ {P : Program} {f : FuncId} {args : Array Value} {w : World} {R : Ending → World → Prop} {n : Nat}, Calls P f args w R → CallsIn F n P f args w R
theorem plain_wide : PlainF Fence.wide := ⟨fun _ => trivial, fun h => (by cases h), fun h => callsIn_wide.2 h⟩
theorem plain_round (l : Nat) : PlainF (Fence.wide.inRound l) := ⟨fun _ => trivial, fun h => (by cases h), fun h => CallsIn.inRound l (callsIn_wide.2 h)⟩
def isDefer : Op → Bool
  | .defer _ => true
  | _ => false
def noDefer (ops : Array Oper) : Bool := (List.range ops.size).all fun i => !isDefer (opAt ops i).op
theorem noDefer_spec (h : noDefer ops = true) : ∀ (i : Nat) (o : Oper), ops[i]? = some o → ∀ c, o.op ≠ Op.defer c := fun i o hi c e => by
  have hil : i < ops.size := (Array.getElem?_eq_some_iff.1 hi).1
  have h1 := (List.all_eq_true.1 h) i (List.mem_range.2 hil)
  have h2 : opAt ops i = o := by simp [opAt, Array.getD_eq_getD_getElem?, hi]
  rw [h2, e] at h1
  cases h1
theorem Gives.uponIn (hF : PlainF F) {w0 : World} {o : Oper} {a : Act} {v : Value} {r : Result Next} {K : Act → World → Prop} (h : Gives P w0 v r) (hK : ∀ w', Ext w0 w' → K (a.put o.dst v) w') : o.uponIn F m' P a K Q r := by
  cases r with
  | ok n w' =>
    cases n <;> simp only [Gives, Oper.uponIn] at h ⊢
    case value u => obtain ⟨rfl, h⟩ := h; exact hK _ h
    case skip => obtain ⟨rfl, h⟩ := h; exact hK _ h
    case enter f args => exact ⟨fun h => (hF.2.1 h).elim, hF.2.2 (h.mono fun e w'' ⟨he, hw⟩ => by subst he; exact hK _ hw)⟩
  | halt x w' => exact h.elim
theorem Yl.wpOpIn (hF : PlainF F) (hnd : ∀ (i : Nat) (o : Oper), ops[i]? = some o → ∀ c, o.op ≠ Op.defer c) {i : Nat} {o : Oper} {v : Value} {a : Act} (hi : ops[i]? = some o) (hy : Yl P ops S o v a)
    {K : Act → World → Prop} {w : World} (hst : Stable S) (hS : S w) (h : ∀ w', S w' → K (a.put o.dst v) w') : wpOpIn F m' P ops Q i K a w := by
  unfold Go.wpOpIn
  simp only [hi]
  rcases hy with ⟨hw, hv⟩ | ⟨hw, rfl⟩
  · simp only [hw, if_true]; exact ⟨fun _ _ => hF.1 _, by rw [Oper.semAt_eq _ _ _ (hnd i o hi)]; exact (hv w hS).uponIn hF fun w' e => h w' (hst _ _ hS e)⟩
  · simp only [hw, Bool.false_eq_true, if_false]; exact ⟨fun _ _ => hF.1 _, h _ hS⟩
theorem wpAnyIn_rest {n : Nat} (hon' : ∀ j, j < ops.size → ∀ e ∈ (opAt ops j).after, Region.binds .any e = true → e.on < j) (hch : ∀ j, n < j → j < ops.size → deps ops j (j - 1) = true) : ∀ (fuel m : Nat) (listed : Array Bool) (a : Act) (w : World), m + fuel = ops.size → n ≤ m → listed.size = ops.size →
    (∀ i, listed.getD i true = false ↔ (m ≤ i ∧ i < ops.size)) → wpListIn F m' P ops Q (ops.toList.drop m) a w → wpAnyIn F m' P .any ops Q fuel listed a w := by
  have hat : ∀ j o, ops[j]? = some o → opAt ops j = o := fun j o h => by simp [opAt, Array.getD_eq_getD_getElem?, h]
  intro fuel
  induction fuel with
  | zero =>
    intro m listed a w hm hn hs hR h
    refine ⟨?_, ?_⟩
    · rw [List.eq_nil_iff_forall_not_mem]
      intro i hi
      have := (hR i).1 (mem_ready.1 hi).1
      omega
    · rw [List.drop_eq_nil_of_le (by simp; omega)] at h
      exact h
  | succ fuel ih =>
    intro m listed a w hm hn hs hR h
    have hml : m < ops.size := by omega
    refine ⟨fun h0 => ?_, fun j hj => ?_⟩
    · exfalso
      have : m ∈ Region.ready .any ops listed := by
        refine mem_ready.2 ⟨(hR m).2 ⟨Nat.le_refl _, hml⟩, opAt ops m, by simp [opAt, Array.getD_eq_getD_getElem?, Array.getElem?_eq_getElem hml], fun e he hb => ?_⟩
        have h1 := hon' m hml e he hb
        cases hx : listed.getD e.on true with
        | false => have := (hR e.on).1 hx; omega
        | true =>
          have hb' : e.on < listed.size := by omega
          simpa [hb'] using hx
      rw [h0] at this
      cases this
    · obtain ⟨hj0, o, ho, hdep⟩ := mem_ready.1 hj
      have hjl := (hR j).1 hj0
      have hoj := hat j o ho
      have hjm : j = m := by
        rcases Nat.lt_or_ge m j with hlt | hge
        · exfalso
          obtain ⟨e, he, hb, hon⟩ := deps_spec.1 (hch j (by omega) hjl.2)
          rw [hoj] at he
          have h1 := hdep e he hb
          have h2 := (hR (j - 1)).2 ⟨by omega, by omega⟩
          rw [hon] at h1
          have : j - 1 < listed.size := by omega
          simp [this] at h1 h2
          rw [h2] at h1; cases h1
        · omega
      subst hjm
      have hdrop : ops.toList.drop j = o :: ops.toList.drop (j + 1) := by
        rw [List.drop_eq_getElem_cons (by simpa using hjl.2)]
        have : ops.toList[j]'(by simpa using hjl.2) = o := by
          have := (Array.getElem?_eq_some_iff.1 ho).2
          simpa using this
        rw [this]
      rw [hdrop] at h
      have fin : ∀ a' w', wpListIn F m' P ops Q (ops.toList.drop (j + 1)) a' w' → wpAnyIn F m' P .any ops Q fuel (listed.setIfInBounds j true) a' w' := fun a' w' h' => by
        refine ih (j + 1) _ a' w' (by omega) (by omega) (by simpa using hs) (fun i => ?_) h'
        by_cases hij : j = i
        · subst hij
          have hjs : j < listed.size := by omega
          constructor
          · intro hx; simp [hjs] at hx
          · intro hx; omega
        · rw [getD_set_ne true hij, hR i]; omega
      unfold wpOpIn
      simp only [ho]
      unfold wpListIn at h
      split
      · next hw => simp only [hw, if_true] at h; exact Oper.wpIn_mono fin h
      · next hw => simp only [hw] at h; exact ⟨h.1, fin _ _ h.2⟩
theorem wpAnyIn_forced (hF : PlainF F) (hnd : ∀ (i : Nat) (o : Oper), ops[i]? = some o → ∀ c, o.op ≠ Op.defer c) (hst : Stable S) {val : Nat → Value} {n : Nat} (hok : forcedOk ops n = true) : ∀ (fuel : Nat) (R : List Nat) (listed : Array Bool) (a : Act) (w : World), fuel = R.length + (ops.size - n) → listed.size = ops.size →
    (∀ i, listed.getD i true = false ↔ (i ∈ R ∨ (n ≤ i ∧ i < ops.size))) → (∀ i ∈ R, i < n) → R.Pairwise (· < ·) → (∀ i, i < n → i ∉ R → ∀ r, deps ops i r = true → r ∉ R) → S w →
    BW P ops S val R a (fun a' => ∀ w', S w' → wpListIn F m' P ops Q (ops.toList.drop n) a' w') → wpAnyIn F m' P .any ops Q fuel listed a w := by
  simp only [forcedOk, Bool.and_eq_true, decide_eq_true_eq] at hok
  obtain ⟨hch, ⟨⟨⟨hns, hsz⟩, hon⟩, hap⟩, hanc⟩ := hok
  have hch' : ∀ j, n < j → j < ops.size → deps ops j (j - 1) = true := fun j h1 h2 => by
    have := (List.all_eq_true.1 hch) j (List.mem_range.2 h2)
    simpa [h1] using this
  have hsel : ∀ i cs b, (opAt ops i).op ≠ .select cs b := fun i cs b => by
    unfold opAt
    rw [Array.getD_eq_getD_getElem?]
    cases hi : ops[i]? with
    | none => simp [default, instInhabitedOper.default, instInhabitedOp.default]
    | some o => exact Region.noSelect_spec hns i o cs b hi
  have hat : ∀ j o, ops[j]? = some o → opAt ops j = o := fun j o h => by simp [opAt, Array.getD_eq_getD_getElem?, h]
  have hon' : ∀ j, j < ops.size → ∀ e ∈ (opAt ops j).after, Region.binds .any e = true → e.on < j := fun j hj e he hb => by
    have := (List.all_eq_true.1 hon) j (List.mem_range.2 (by omega))
    simpa using onlyOn_spec this e he hb
  have hap' : ∀ j, j < n → ∀ r, r < j → deps ops j r = true ∨ (opAt ops r).apart ops (opAt ops j) = true := fun j hj r hr => by
    have := (List.all_eq_true.1 ((List.all_eq_true.1 hap) j (List.mem_range.2 hj))) r (List.mem_range.2 hr)
    simpa using this
  have hanc' : ∀ r, r < n → ∃ i, r < i ∧ i ≤ n ∧ deps ops i r = true := fun r hr => by
    have := (List.all_eq_true.1 hanc) r (List.mem_range.2 hr)
    obtain ⟨i, hi, h⟩ := List.any_eq_true.1 this
    simp only [Bool.and_eq_true, decide_eq_true_eq] at h
    exact ⟨i, h.1, by have := List.mem_range.1 hi; omega, h.2⟩
  intro fuel
  induction fuel with
  | zero => intro R listed a w hf; omega
  | succ fuel ih =>
    intro R listed a w hf hs hR hRn hp hcl hS h
    by_cases hRe : R = []
    · subst hRe
      exact wpAnyIn_rest hon' hch' _ n listed a w (by simp at hf; omega) (Nat.le_refl _) hs (fun i => by simpa using hR i) (h w hS)
    have hlt : ∀ j, listed.getD j true = false → j < ops.size := fun j hj => by
      rcases (hR j).1 hj with h1 | h1
      · have := hRn j h1; omega
      · omega
    have hnotdep : ∀ j, j ∈ Region.ready .any ops listed → ∀ r, r ∈ R → deps ops j r = true → False := fun j hj r hr hd => by
      obtain ⟨hj0, o, ho, hdep⟩ := mem_ready.1 hj
      obtain ⟨e, he, hb, hon⟩ := deps_spec.1 hd
      rw [hat j o ho] at he
      have h1 := hdep e he hb
      have h2 := (hR r).2 (.inl hr)
      rw [hon] at h1
      have : r < listed.size := by have := hRn r hr; omega
      simp [this] at h1 h2
      rw [h2] at h1; cases h1
    refine ⟨fun h0 => ?_, fun j hj => ?_⟩
    · exfalso
      have rdy : ∀ i, i ≤ n → listed.getD i true = false → (∀ r, r < i → r ∉ R) → False := fun i hi hi0 hr => by
        have : i ∈ Region.ready .any ops listed := by
          refine mem_ready.2 ⟨hi0, opAt ops i, by simp [opAt, Array.getD_eq_getD_getElem?, Array.getElem?_eq_getElem (show i < ops.size by omega)], fun e he hb => ?_⟩
          have h1 := hon' i (by omega) e he hb
          cases hx : listed.getD e.on true with
          | false =>
            rcases (hR e.on).1 hx with h2 | h2
            · exact absurd h2 (hr _ h1)
            · omega
          | true =>
            have hb' : e.on < listed.size := by omega
            simpa [hb'] using hx
        rw [h0] at this
        cases this
      match R, hf with
      | [], _ => exact rdy n (Nat.le_refl _) ((hR n).2 (.inr ⟨Nat.le_refl _, hsz⟩)) fun r _ h => by cases h
      | i :: R', _ =>
        refine rdy i (by have := hRn i (by simp); omega) ((hR i).2 (.inl (by simp))) fun r hri hr => ?_
        rcases List.mem_cons.1 hr with h1 | h1
        · omega
        · have := (List.pairwise_cons.1 hp).1 _ h1; omega
    · obtain ⟨hj0, o, ho, hdep⟩ := mem_ready.1 hj
      have hjl := hlt _ hj0
      have hoj := hat j o ho
      rcases (hR j).1 hj0 with hjR | hjn
      · obtain ⟨R1, R2, rfl⟩ := List.append_of_mem hjR
        have hjn := hRn j hjR
        have hap2 : ∀ r ∈ R1, (opAt ops r).apart ops (opAt ops j) = true := by
          intro r hr
          have hrj : r < j := (List.pairwise_append.1 hp).2.2 r hr j (by simp)
          rcases hap' j hjn r hrj with h1 | h1
          · exact (hnotdep j hj r (by simp [hr]) h1).elim
          · exact h1
        obtain ⟨hyj, hrest⟩ := BW.remove hsel R1 a hap2 h
        rw [hoj] at hyj hrest
        have hn : j ∉ R1 ++ R2 := by
          have h1 := List.pairwise_append.1 hp
          have h2 := List.pairwise_cons.1 h1.2.1
          intro hm
          rcases List.mem_append.1 hm with h3 | h3
          · have := h1.2.2 j h3 j (by simp); omega
          · have := h2.1 j h3; omega
        refine hyj.wpOpIn hF hnd ho hst hS fun w' hw' => ?_
        refine ih (R1 ++ R2) _ _ w' (by simp at hf ⊢; omega) (by simpa using hs) ?_ (fun i hi => hRn i (by simp at hi ⊢; rcases hi with h1 | h1 <;> simp [h1])) ?_ ?_ hw' hrest
        · intro i
          by_cases hij : j = i
          · subst hij
            simp only [hn, false_or]
            have : j < listed.size := by omega
            constructor
            · intro h1; simp [this] at h1
            · intro h1; omega
          · rw [getD_set_ne true hij, hR i]
            simp [List.mem_append, List.mem_cons, Ne.symm hij]
        · have h1 := List.pairwise_append.1 hp
          have h2 := List.pairwise_cons.1 h1.2.1
          exact List.pairwise_append.2 ⟨h1.1, h2.2, fun x hx y hy => h1.2.2 x hx y (by simp [hy])⟩
        · intro i hi hiR r hd hr
          have hr' : r ∈ R1 ++ j :: R2 := by simp at hr ⊢; rcases hr with h1 | h1 <;> simp [h1]
          by_cases hij : i = j
          · subst hij
            exact hnotdep i hj r hr' hd
          · exact hcl i hi (by simp at hiR ⊢; exact ⟨hiR.1, hij, hiR.2⟩) r hd hr'
      · exfalso
        have hjn' : j = n := by
          rcases Nat.lt_or_ge n j with hlt' | hge
          · exfalso
            obtain ⟨e, he, hb, hon⟩ := deps_spec.1 (hch' j hlt' hjn.2)
            rw [hoj] at he
            have h1 := hdep e he hb
            have h2 := (hR (j - 1)).2 (.inr ⟨by omega, by omega⟩)
            rw [hon] at h1
            have : j - 1 < listed.size := by omega
            simp [this] at h1 h2
            rw [h2] at h1; cases h1
          · omega
        subst hjn'
        rcases List.eq_nil_or_concat R with h1 | ⟨R', r, h1⟩
        · exact hRe h1
        · rw [List.concat_eq_append] at h1
          subst h1
          have hrn := hRn r (by simp)
          obtain ⟨i, hi1, hi2, hd⟩ := hanc' r hrn
          by_cases hij : i = j
          · subst hij
            exact hnotdep i hj r (by simp) hd
          · refine hcl i (by omega) (fun hm => ?_) r hd (by simp)
            rcases List.mem_append.1 hm with h2 | h2
            · have := (List.pairwise_append.1 hp).2.2 i h2 r (by simp); omega
            · simp at h2; omega
theorem wpIn_region_forced (hF : PlainF F) {id : Nat} {l : List Oper} (n : Nat) (S : World → Prop) {a : Act} {w : World} (hst : Stable S) (hS : S w.drew) (hm : P.follows .mixedOrders = true) (hok : forcedOk l.toArray n = true) (hnd : noDefer l.toArray = true)
    (h : BL P l.toArray S (l.take n) a (fun a' => ∀ w', S w' → wpListIn F m' P l.toArray Q (l.drop n) a' w')) : (Code.region id l.toArray true).wpIn F m' P Q a w := by
  have hnl : n < l.length := by
    simp only [forcedOk, Bool.and_eq_true, decide_eq_true_eq] at hok
    simpa using hok.2.1.1.1.2
  obtain ⟨val, hv⟩ := BL.bw2 (ops := l.toArray) (l.take n) 0 a (fun j hj => by simp at hj ⊢; rw [List.getElem?_take]; split <;> simp_all <;> omega) h
  have hlen : (l.take n).length = n := by simp; omega
  rw [hlen] at hv
  refine wpIn_region_any hm ?_
  refine wpAnyIn_forced hF (noDefer_spec hnd) hst hok _ (List.range' 0 n) _ _ _ (by simp; omega) (by simp) (fun i => ?_) (fun i hi => ?_) (List.pairwise_lt_range' ..) (fun i hi hiR => ?_) hS (by simpa using hv)
  · simp only [List.mem_range', Nat.one_mul, Nat.zero_add, List.size_toArray]
    rcases Nat.lt_or_ge i l.length with hi | hi
    · simp [hi]; omega
    · simp [hi]; omega
  · rw [List.mem_range'] at hi
    obtain ⟨k, hk, rfl⟩ := hi
    omega
  · exfalso
    exact hiR (List.mem_range'.2 ⟨i, hi, by omega⟩)
end
end Go.Proofs.YtiladlangkjoiaaGreat

namespace Go.Proofs.YtiladlangkjoiaaGreat
open Go.RowKit Go.Shelf

def RoundK {β : Type} (w : World) (Kp : World → World → Prop) (I : List β → World → Prop) (Ix : Code → List β → World → Prop) (xs : List β) (W : World) : Exit → Act → World → Prop
  | .normal, _, W' => KeepsFrom w.heap.size W W' ∧ Kp W W' ∧ I xs W'
  | .ret, _, W' => KeepsFrom w.heap.size W W' ∧ Ix .ret xs W'
  | .exit id, _, W' => KeepsFrom w.heap.size W W' ∧ Ix (.exit id) xs W'
  | .goto t, _, W' => KeepsFrom w.heap.size W W' ∧ Ix (.goto t) xs W'
  | .panic _, _, _ => False
  | .outgrown, _, _ => False

end Go.Proofs.YtiladlangkjoiaaGreat

namespace Go.Proofs.YtiladlangkjoiaaGreat
open Go.RowKit Go.Shelf

section
variable {P : Program}
theorem YieldAt.inRound' {F : Fence} {m : Nat} {l : Nat} {args : Array Value} {W : World} {R : Ending → World → Prop} (l0 : Nat) (h : YieldAt F m P l args W R) : YieldAt (F.inRound l0) m P l args W R := h
theorem room_any {F : Fence} (hd : F.depth = none) (k : Nat) : F.room k := fun d h => by rw [hd] at h; cases h
theorem YieldAt.anyD {F : Fence} (hd : F.depth = none) {m : Nat} (m' : Nat) {l : Nat} {args : Array Value} {W : World} {R : Ending → World → Prop} (h : YieldAt F m P l args W R) : YieldAt F m' P l args W R := by
  obtain ⟨fn, tmps, assign, body, hy, hR⟩ := h
  exact ⟨fn, tmps, assign, body, hy, hR.1, fun c cs _ => hR.2 c cs (room_any hd _)⟩
end
end Go.Proofs.YtiladlangkjoiaaGreat

namespace Go.Proofs.YtiladlangkjoiaaGreat
open Go.RowKit Go.Shelf

theorem marks_out {P : Program} {F : Fence} {n : Nat} {fn : Func} {tmps : Array Value} {R : Ending → World → Prop} (G : World → Prop) (K : Nat → Prop)
    (hG : ∀ w D, K D → G w → w.heap[D]? = some (.deferred (some [])) → G (w.putObj D (.deferred none)))
    (hR : ∀ w, G w → LeavesIn F n P fn tmps R [] .returning w) :
    ∀ (ds : List Nat) (w : World), ds.Nodup → (∀ D ∈ ds, K D ∧ w.heap[D]? = some (.deferred (some []))) → G w → LeavesInM F n P fn tmps R (ds.map fun D => { target := .collected D, args := #[] }) .returning w
  | [], w, _, _, hw => hR w hw
  | D :: ds, w, hn, hd, hw => by
    obtain ⟨h0, h1⟩ := hd D (by simp)
    obtain ⟨h2, h3⟩ := List.nodup_cons.1 hn
    refine ⟨by simp, .inl ⟨D, _, rfl, run_takeDeferred h1, marks_out G K hG hR ds _ h3 (fun D' hD' => ?_) (hG _ _ h0 hw h1)⟩⟩
    have hne : D' ≠ D := fun e => h2 (e ▸ hD')
    exact ⟨(hd D' (by simp [hD'])).1, (World.putObj_heap_other hne).trans (hd D' (by simp [hD'])).2⟩
def markD (D : Nat) : Deferred := { target := .collected D, args := #[] }
end Go.Proofs.YtiladlangkjoiaaGreat

namespace Go.Proofs.YtiladlangkjoiaaGreat
open Go.RowKit

section
variable {F : Fence} {n : Nat} {P : Program} {Q : Exit → Act → World → Prop} {a : Act} {w : World}
theorem stepR_scope {b : Frame} {k : List Item} {cs : List Frame} {c : Code} : step P (lone (b.atR a (.code (.scope c) :: k)) cs w) = .next (lone (b.atR a (.code c :: .inScope c :: k)) cs w) :=
  step_lone_go (by simp [stepG, stepG.exec, Frame.atR])
theorem stepR_inScope {b : Frame} {k : List Item} {cs : List Frame} {c : Code} : step P (lone (b.atR a (.inScope c :: k)) cs w) = .next (lone (b.atR a k) cs w) :=
  step_lone_go (by simp [stepG, stepG.exec, Frame.atR])
theorem wpIn_scope_straight {c : Code} (h : c.wpIn F n P (Exit.noGoto Q) a w) : (Code.scope c).wpIn F n P Q a w := by
  intro b k cs hro hb hr
  have h0 : (lone (b.atR a (.code (.scope c) :: k)) cs w).fenced P F := fenced_calm hb hr rfl
  obtain ⟨e, a₁, w₁, hq, harr⟩ := h b (.inScope c :: k) cs hro hb hr
  cases e with
  | normal => exact ⟨.normal, a₁, w₁, hq, .head h0 stepR_scope (StepsIn.trans harr (.one (fenced_calm hb hr rfl) stepR_inScope))⟩
  | exit id =>
    have hx : exitTo id (.inScope c :: k) = exitTo id k := by simp [exitTo]
    exact ⟨.exit id, a₁, w₁, hq, fun k' hk => .head h0 stepR_scope (harr.1 k' (by rw [hx]; exact hk)),
      fun hr' hk => let ⟨k₁, h1, h2⟩ := harr.2 hr' (by rw [hx]; exact hk); ⟨k₁, h1, .head h0 stepR_scope h2⟩⟩
  | goto l => exact hq.elim
  | ret => exact ⟨_, a₁, w₁, hq, .of_steps (.one h0 stepR_scope) harr⟩
  | panic ch => exact ⟨_, a₁, w₁, hq, .of_steps (.one h0 stepR_scope) harr⟩
  | outgrown => exact ⟨_, a₁, w₁, hq, .of_steps (.one h0 stepR_scope) harr⟩
end
end Go.Proofs.YtiladlangkjoiaaGreat
