/- A range over a function whose caller may itself be ranged over: each round is told what holds of its element; loops in rounds too. No condition. -/
import Derived.Test.YtiladlangkjoiaaGreatScopeIn
import Derived.Test.YtiladlangkjoiaaGreatPushLaw
namespace Go.Proofs.YtiladlangkjoiaaGreat
open Go.RowKit Go.Shelf

def SeqR {β : Type} (F : Fence) (n : Nat) (P : Program) (gf : Nat) (lb : Array Value) (encs : β → Array Value) (Kp : Nat → World → World → Prop) (Fx : List β → β → World → Prop) (S Sp : List β → World → Prop) (w : World) : Prop :=
  ∀ (l : Nat) (J Jx : List β → World → Prop) (W : World), Ext w W → (∃ r, W.heap[l]? = some (.loop r)) → OwnFrom W.heap.size J → OwnFrom W.heap.size Jx →
    (∀ pre x W1, J pre W1 → Fx pre x W1 → YieldAt F (n - 1) P l (encs x) W1 fun e W' =>
      (e = .returned (.bool true) ∧ J (pre ++ [x]) W' ∧ Kp l W1 W') ∨ (e = .returned (.bool false) ∧ Jx (pre ++ [x]) W' ∧ KeepsFrom W.heap.size W1 W')) →
    J [] W →
    CallsIn F n P gf (#[.func (.yield l) #[] #[]] ++ lb) W fun e W' => (∃ v, e = .returned v) ∧ ((∃ xs, S xs W' ∧ J xs W') ∨ (∃ pre, Sp pre W' ∧ Jx pre W'))
def IterR {β : Type} (P : Program) (gf : Nat) (lb : Array Value) (encs : β → Array Value) (Kp : Nat → World → World → Prop) (Fx : List β → β → World → Prop) (S Sp : List β → World → Prop) (w : World) : Prop :=
  ∀ n, SeqR Fence.wide n P gf lb encs Kp Fx S Sp w
theorem SeqR.inRound {β : Type} {F : Fence} {n : Nat} {P : Program} {gf : Nat} {lb : Array Value} {encs : β → Array Value} {Kp : Nat → World → World → Prop} {Fx : List β → β → World → Prop} {S Sp : List β → World → Prop} {w : World} (l0 : Nat) (h : SeqR F n P gf lb encs Kp Fx S Sp w) : SeqR (F.inRound l0) n P gf lb encs Kp Fx S Sp w :=
  fun l J Jx W h1 h0 h2 h3 h4 h5 => CallsIn.inRound l0 (h l J Jx W h1 h0 h2 h3 (fun pre x W1 h6 h7 => h4 pre x W1 h6 h7) h5)
theorem OwnFrom.ext {β : Type} {B : Nat} {I : β → World → Prop} (h : OwnFrom B I) {s : β} {W W' : World} (hs : I s W) (e : Ext W W') : I s W' := h s W W' none hs (ext_grown e) (by intro r hr; cases hr)

def KpE (ts : List TypeId) (nb l : Nat) (W W' : World) : Prop := Below nb W W' ∧ W.heap.size ≤ W'.heap.size ∧ ∀ g o, g ≠ l → (∀ cs t k, o = .cells cs t k → t ∉ ts) → W.heap[g]? = some o → W'.heap[g]? = some o
theorem KpE.refl (ts : List TypeId) (nb l : Nat) (W : World) : KpE ts nb l W W := ⟨Below.refl _ _, Nat.le_refl _, fun _ _ _ _ h => h⟩
theorem KpE.trans {ts : List TypeId} {nb l : Nat} {A B C : World} (h : KpE ts nb l A B) (k : KpE ts nb l B C) : KpE ts nb l A C := ⟨h.1.trans k.1, Nat.le_trans h.2.1 k.2.1, fun g o hg ht hb => k.2.2 g o hg ht (h.2.2 g o hg ht hb)⟩
theorem KpE.put {ts : List TypeId} {nb : Nat} {w : World} (hn : nb ≤ w.heap.size) (W : World) (l : Nat) (r r' : Loop) (hl : w.heap.size ≤ l) (h : W.heap[l]? = some (.loop r)) : KpE ts nb l W (W.putObj l (.loop r')) :=
  ⟨belowK_b hn W l _ _ hl h rfl rfl, (grownBy_putObj' W l (.loop r')).size, fun _ _ hg _ hb => (World.putObj_heap_other hg).trans hb⟩
theorem KpE.of_ext {ts : List TypeId} {nb l : Nat} {W W' : World} (e : Ext W W') (hn : nb ≤ W.heap.size) : KpE ts nb l W W' := ⟨e.mono hn, e.size, fun g _ _ _ hb => (e.block g (Array.getElem?_eq_some_iff.1 hb).1).trans hb⟩
theorem KpE.blk {ts : List TypeId} {nb l : Nat} {W W' : World} (h : KpE ts nb l W W') {g : Nat} {t : TypeId} {cs : Array Value} (hl : g ≠ l) (hg : t ∉ ts) (hb : Blk W g t cs) : Blk W' g t cs :=
  h.2.2 g _ hl (fun _ _ _ e => by injection e with _ e _; exact e ▸ hg) hb
theorem blk_no_loop {W : World} {g l : Nat} {t : TypeId} {cs : Array Value} {r : Loop} (hb : Blk W g t cs) (hl : W.heap[l]? = some (.loop r)) : g ≠ l := by
  rintro rfl
  unfold Blk at hb
  rw [hb] at hl
  injection hl with hl
  cases hl
section
variable {P : Program}
theorem wp_range_R {β : Type} {g : Operand} {ps : Array Tmp} {assign body : Code} {Q : Exit → Act → World → Prop} {a : Act} {w : World} {gf : Nat} {lb : Array Value} {encs : β → Array Value} {Kp : Nat → World → World → Prop} {Fx : List β → β → World → Prop} {S Sp : List β → World → Prop}
    (hit : IterR P gf lb encs Kp Fx S Sp w) (hg : a.eval g = .func (.func gf) #[] lb) (eg : ∀ args w, (callFunc gf args).run P w = .ok (.enter gf args) w) (hps : ∀ x, (encs x).size = ps.size)
    (hKt : ∀ {l : Nat} {A B C : World}, Kp l A B → Kp l B C → Kp l A C) (hKb : ∀ (W : World) (l : Nat) (r r' : Loop), w.heap.size ≤ l → W.heap[l]? = some (.loop r) → Kp l W (W.putObj l (.loop r'))) (hKx : ∀ (l : Nat) (W W' : World), w.heap.size ≤ W.heap.size → Ext W W' → Kp l W W')
    (hS : OwnFrom w.heap.size S) (hFx : ∀ x, OwnFrom w.heap.size (fun pre W => Fx pre x W))
    (I : List β → World → Prop) (Ix : Code → List β → World → Prop) (hI : OwnFrom w.heap.size I) (hIx : ∀ c, OwnFrom w.heap.size (Ix c)) (h0 : I [] w)
    (Ax : β → Act → World → Prop) (hAx : ∀ x a', OwnFrom w.heap.size (fun (_ : Unit) W => Ax x a' W))
    (hassign : ∀ (l n : Nat) (x : β) (W : World) (K : Act → World → Prop), w.heap.size ≤ W.heap.size → (∀ a' W', Ext W W' → Ax x a' W' → K a' W') →
      assign.wpIn (Fence.wide.inRound l) n P (Exit.then K (fun _ _ _ => False)) { tmps := (ps.zip (encs x)).foldl (fun t (p, v) => t.setIfInBounds p v) a.tmps, defers := [] } W)
    (hbody : ∀ (l : Nat) (r : Loop) (pre : List β) (x : β) (a' : Act) (W : World), w.heap.size ≤ l → W.heap[l]? = some (.loop r) → Fx pre x W → w.heap.size ≤ W.heap.size → I pre W → Ax x a' W →
      body.wpIn (Fence.wide.inRound l) 5 P (RoundK w (Kp l) I Ix (pre ++ [x]) W) a' W)
    (hdone : ∀ (D : Nat) (xs : List β) (W : World), w.heap.size ≤ D → S xs W → I xs W → W.heap[D]? = some (.deferred (some [])) → Q .normal { a with defers := { target := .collected D, args := #[] } :: a.defers } W)
    (hstop : ∀ (D : Nat) (c : Code) (pre : List β) (W : World), w.heap.size ≤ D → Ix c pre W → W.heap[D]? = some (.deferred (some [])) → c.wp P Q { a with defers := { target := .collected D, args := #[] } :: a.defers } W) :
    (Code.rangeFunc g ps assign body).wp P Q a w := by
  refine (wpIn_wide (n := 7)).1 (wpIn_rangeFunc fun fn hfn => ?_)
  obtain ⟨D, hD⟩ : ∃ D, D = w.heap.size := ⟨_, rfl⟩
  let rec0 : LoopState → Option Code → Loop := fun st pe => { state := st, pending := pe, fn := fn, tmps := a.tmps, params := ps, assign := assign, body := body, defers := w.heap.size }
  obtain ⟨rec, hrec⟩ : ∃ r, r = rec0 := ⟨_, rfl⟩
  obtain ⟨W1, hW1⟩ : ∃ W1, W1 = (w.alloc (.deferred (some []))).alloc (.loop (rec .ready none)) := ⟨_, rfl⟩
  have e1 : Ext w W1 := by rw [hW1]; exact (Ext.alloc0 _ _).trans (Ext.alloc0 _ _)
  have hd1 : W1.heap[D]? = some (.deferred (some [])) := by rw [hW1, hD]; exact (Below.heap_alloc _ _ _ (by simp)).trans (World.alloc_heap_new w _)
  have hl1 : W1.heap[D + 1]? = some (.loop (rec .ready none)) := by
    have h := World.alloc_heap_new (w.alloc (.deferred (some []))) (.loop (rec .ready none))
    rw [World.size_alloc] at h
    rw [hW1, hD]; exact h
  have hz1 : W1.heap.size = D + 2 := by rw [hW1, hD]; simp
  have hI1 : I [] W1 := by rw [hW1]; exact hI.alloc _ (hI.alloc _ h0)
  refine ⟨D + 1, [{ target := .collected D, args := #[] }], W1, { target := .fn (.func gf) lb, args := #[.func (.yield (D + 1)) #[] #[]] }, W1, gf, #[.func (.yield (D + 1)) #[] #[]] ++ lb, W1, ?_, ?_, fun _ _ => trivial, ?_, fun h => (by cases h), ?_⟩
  · rw [hW1, hrec, hD]; exact run_enterLoop_outer _ _ _ _ _
  · simp only [resolve, hg]
    simp [go_sem]
  · simp [invoke, go_sem, eg]
  have hrow : ∀ {A B : World} {row : Option Nat}, (∀ r, row = some r → W1.heap.size ≤ r ∧ ∃ o : Obj, A.heap[r]? = some o ∧ o.isCells = false) → (∀ r, row = some r → w.heap.size ≤ r ∧ ∃ o : Obj, A.heap[r]? = some o ∧ o.isCells = false) := by
    intro A B row hr r e
    obtain ⟨hB, o, ho, hw⟩ := hr r e
    exact ⟨by omega, o, ho, hw⟩
  have hkeep : ∀ {A B : World} {row : Option Nat} {k : Nat} {o : Obj}, A.grownBy B row → (∀ r, row = some r → W1.heap.size ≤ r ∧ ∃ o : Obj, A.heap[r]? = some o ∧ o.isCells = false) → k ≤ D + 1 → A.heap[k]? = some o → B.heap[k]? = some o := by
    intro A B row k o hgr hr hk hA
    refine (hgr.block k (Array.getElem?_eq_some_iff.1 hA).1 (fun e => ?_)).trans hA
    have := (hr k e.symm).1
    omega
  refine (hit _ (D + 1) (fun pre W => (I pre W ∧ D + 2 ≤ W.heap.size) ∧ W.heap[D + 1]? = some (.loop (rec .ready none)) ∧ W.heap[D]? = some (.deferred (some [])))
    (fun pre W => ∃ c, Ix c pre W ∧ W.heap[D + 1]? = some (.loop (rec .done (some c))) ∧ W.heap[D]? = some (.deferred (some []))) W1 e1 ⟨_, hl1⟩
    (fun s A B row hs hgr hr => ⟨⟨hI s A B row hs.1.1 hgr (hrow (B := B) hr), Nat.le_trans hs.1.2 hgr.size⟩, hkeep hgr hr (Nat.le_refl _) hs.2.1, hkeep hgr hr (Nat.le_succ _) hs.2.2⟩)
    (fun s A B row hs hgr hr => hs.elim fun c h => ⟨c, hIx c s A B row h.1 hgr (hrow (B := B) hr), hkeep hgr hr (Nat.le_refl _) h.2.1, hkeep hgr hr (Nat.le_succ _) h.2.2⟩)
    ?round ⟨⟨hI1, by omega⟩, hl1, hd1⟩).mono ?behind
  case round =>
    rintro pre x W0 ⟨⟨hi, hz⟩, hl, hd⟩ hlt
    have hy := run_yield (P := P) (args := encs x) hl (by rw [hrec]; exact hps x)
    rw [hrec] at hy
    refine ⟨fn, _, assign, body, hy, roundIn_of_wpIn hfn (hassign _ _ x W0 _ (by omega) ?_)⟩
    clear hy
    intro a' W hEx hAx1
    replace hi := OwnFrom.ext hI hi hEx
    replace hlt := OwnFrom.ext (hFx x) (s := pre) hlt hEx
    replace hl := (hEx.block (D + 1) (Array.getElem?_eq_some_iff.1 hl).1).trans hl
    replace hd := (hEx.block D (Array.getElem?_eq_some_iff.1 hd).1).trans hd
    have hKA : Kp (D + 1) W0 W := hKx _ _ _ (by omega) hEx
    have hz0 := hEx.size
    replace hz : D + 2 ≤ W.heap.size := by omega
    obtain ⟨V, hV⟩ : ∃ V, V = W.putObj (D + 1) (.loop { rec .ready none with state := .busy }) := ⟨_, rfl⟩
    refine ⟨V, by rw [hV]; exact run_beginRound hl (by rw [hrec]), ?_⟩
    have hKV : Kp (D + 1) W0 V := by rw [hV]; exact hKt hKA (hKb _ _ _ _ (by omega) hl)
    have hiV : I pre V := by rw [hV]; exact hI.putObj _ hi (by omega) hl rfl
    have hfV : Fx pre x V := by rw [hV]; exact (hFx x).putObj (s := pre) _ hlt (by omega) hl rfl
    have haV : Ax x a' V := by rw [hV]; exact (hAx x a').putObj (s := ()) _ hAx1 (by omega) hl rfl
    have hlV : V.heap[D + 1]? = some (.loop { rec .ready none with state := .busy }) := by rw [hV]; exact World.putObj_heap_same (Array.getElem?_eq_some_iff.1 hl).1
    have hdV : V.heap[D]? = some (.deferred (some [])) := by rw [hV]; exact (World.putObj_heap_other (by omega)).trans hd
    have hzV : D + 2 ≤ V.heap.size := by have := (Array.getElem?_eq_some_iff.1 hlV).1; omega
    have hV' := hV
    have hVz : W.heap.size ≤ V.heap.size := by rw [hV]; exact (grownBy_putObj' W _ _).size
    clear hV
    have hleft : ∀ X Y : World, KeepsFrom w.heap.size V X → (∃ o, Y = X.putObj (D + 1) o) → KeepsFrom W1.heap.size W0 Y := by
      rintro X Y hk ⟨o, rfl⟩
      refine ⟨Nat.le_trans (Nat.le_trans hz0 hVz) (Nat.le_trans hk.size (grownBy_putObj' X (D + 1) o).size), fun k o' hB hk' ho => ?_⟩
      have h1 := (hEx.block k (Array.getElem?_eq_some_iff.1 hk').1).trans hk'
      have h2 : V.heap[k]? = some o' := by rw [hV']; exact (World.putObj_heap_other (by omega)).trans h1
      exact (World.putObj_heap_other (by omega)).trans (hk.same _ _ (by omega) h2 ho)
    clear hV'
    refine wpIn_mono (hbody (D + 1) _ pre x a' V (by omega) hlV hfV (by omega) hiV haV) ?_
    have fin : ∀ (jump : Option Code) (X : World), KeepsFrom w.heap.size V X → ∃ Y, (Instr.endRound (D + 1) jump).run P X = .ok (.bool jump.isNone) Y ∧ Y = X.putObj (D + 1) (.loop (rec (if jump.isNone then .ready else .done) jump)) ∧
        X.heap[D + 1]? = some (.loop { rec .ready none with state := .busy }) ∧ Y.heap[D + 1]? = some (.loop (rec (if jump.isNone then .ready else .done) jump)) ∧ Y.heap[D]? = some (.deferred (some [])) := by
      intro jump X hk
      have hX := hk.same _ _ (by omega) hlV rfl
      have hr := run_endRound (P := P) jump hX
      have hXl := (Array.getElem?_eq_some_iff.1 hX).1
      refine ⟨_, ?_, rfl, hX, World.putObj_heap_same hXl, (World.putObj_heap_other (by omega)).trans (hk.same _ _ (by omega) hdV rfl)⟩
      rw [hrec] at hr ⊢; exact hr
    intro e a' X hp
    cases e with
    | normal =>
      obtain ⟨p1, p2, p3⟩ := hp
      obtain ⟨Y, q1, q2, q3, q4, q5⟩ := fin none X p1
      refine ⟨_, Y, q1, .inl ⟨rfl, ⟨⟨by rw [q2]; exact hI.putObj _ p3 (by omega) q3 rfl, ?_⟩, q4, q5⟩, hKt hKV (hKt p2 (by rw [q2]; exact hKb _ _ _ _ (by omega) q3))⟩⟩
      have := (Array.getElem?_eq_some_iff.1 q4).1
      omega
    | ret =>
      obtain ⟨p1, p2⟩ := hp
      obtain ⟨Y, q1, q2, q3, q4, q5⟩ := fin (some .ret) X p1
      exact ⟨_, Y, q1, .inr ⟨rfl, ⟨_, by rw [q2]; exact (hIx _).putObj _ p2 (by omega) q3 rfl, q4, q5⟩, hleft X Y p1 ⟨_, q2⟩⟩⟩
    | exit id =>
      obtain ⟨p1, p2⟩ := hp
      obtain ⟨Y, q1, q2, q3, q4, q5⟩ := fin (some (.exit id)) X p1
      exact ⟨_, Y, q1, .inr ⟨rfl, ⟨_, by rw [q2]; exact (hIx _).putObj _ p2 (by omega) q3 rfl, q4, q5⟩, hleft X Y p1 ⟨_, q2⟩⟩⟩
    | goto t =>
      obtain ⟨p1, p2⟩ := hp
      obtain ⟨Y, q1, q2, q3, q4, q5⟩ := fin (some (.goto t)) X p1
      exact ⟨_, Y, q1, .inr ⟨rfl, ⟨_, by rw [q2]; exact (hIx _).putObj _ p2 (by omega) q3 rfl, q4, q5⟩, hleft X Y p1 ⟨_, q2⟩⟩⟩
    | panic _ => exact hp.elim
    | outgrown => exact hp.elim
  case behind =>
    rintro e X ⟨⟨v, rfl⟩, h⟩
    rcases h with ⟨xs, hs, ⟨hi, _⟩, hl, hd⟩ | ⟨pre, _, c, hi, hl, hd⟩
    · have hr := run_endLoop (P := P) hl (by rw [hrec]; simp [rec0])
      refine ⟨none, _, by rw [hrec] at hr; exact hr, hdone D xs _ (by omega) (hS.putObj _ hs (by omega) hl rfl) (hI.putObj _ hi (by omega) hl rfl) ((World.putObj_heap_other (by omega)).trans hd)⟩
    · have hr := run_endLoop (P := P) hl (by rw [hrec]; simp [rec0])
      refine ⟨some c, _, by rw [hrec] at hr; exact hr, wpIn_wide.2 (hstop D c pre _ (by omega) ((hIx c).putObj _ hi (by omega) hl rfl) ((World.putObj_heap_other (by omega)).trans hd))⟩
theorem wpIn_range_R {β : Type} {g : Operand} {ps : Array Tmp} {assign body : Code} {Q : Exit → Act → World → Prop} {a : Act} {w : World} {gf : Nat} {lb : Array Value} {encs : β → Array Value} {Kp : Nat → World → World → Prop} {Fx : List β → β → World → Prop} {S Sp : List β → World → Prop} {l₀ n : Nat} {r₀ : Loop}
    (hl₀ : w.heap[l₀]? = some (.loop r₀)) (hn : 1 ≤ n) (hit : IterR P gf lb encs Kp Fx S Sp w) (hg : a.eval g = .func (.func gf) #[] lb) (eg : ∀ args w, (callFunc gf args).run P w = .ok (.enter gf args) w) (hps : ∀ x, (encs x).size = ps.size)
    (hKt : ∀ {l : Nat} {A B C : World}, Kp l A B → Kp l B C → Kp l A C) (hKb : ∀ (W : World) (l : Nat) (r r' : Loop), w.heap.size ≤ l → W.heap[l]? = some (.loop r) → Kp l W (W.putObj l (.loop r'))) (hKx : ∀ (l : Nat) (W W' : World), w.heap.size ≤ W.heap.size → Ext W W' → Kp l W W')
    (hS : OwnFrom w.heap.size S) (hFx : ∀ x, OwnFrom w.heap.size (fun pre W => Fx pre x W))
    (I : List β → World → Prop) (Ix : Code → List β → World → Prop) (hI : OwnFrom w.heap.size I) (hIx : ∀ c, OwnFrom w.heap.size (Ix c)) (h0 : I [] w)
    (Ax : β → Act → World → Prop) (hAx : ∀ x a', OwnFrom w.heap.size (fun (_ : Unit) W => Ax x a' W))
    (hassign : ∀ (l n : Nat) (x : β) (W : World) (K : Act → World → Prop), w.heap.size ≤ W.heap.size → (∀ a' W', Ext W W' → Ax x a' W' → K a' W') →
      assign.wpIn (Fence.wide.inRound l) n P (Exit.then K (fun _ _ _ => False)) { tmps := (ps.zip (encs x)).foldl (fun t (p, v) => t.setIfInBounds p v) a.tmps, defers := [] } W)
    (hbody : ∀ (l n : Nat) (pre : List β) (x : β) (a' : Act) (W : World), w.heap.size ≤ l → Fx pre x W → w.heap.size ≤ W.heap.size → I pre W → Ax x a' W →
      body.wpIn (Fence.wide.inRound l) n P (RoundK w (Kp l) I Ix (pre ++ [x]) W) a' W)
    (hdone : ∀ (xs : List β) (W : World), S xs W → I xs W → Q .normal a W)
    (hstop : ∀ (c : Code) (pre : List β) (W : World), Ix c pre W → c.wpIn (Fence.wide.inRound l₀) n P Q a W) :
    (Code.rangeFunc g ps assign body).wpIn (Fence.wide.inRound l₀) n P Q a w := by
  refine wpIn_rangeFunc fun fn hfn => ?_
  obtain ⟨D, hD⟩ : ∃ D, D = w.heap.size := ⟨_, rfl⟩
  let rec0 : LoopState → Option Code → Loop := fun st pe => { state := st, pending := pe, fn := fn, tmps := a.tmps, params := ps, assign := assign, body := body, defers := r₀.defers }
  obtain ⟨rec, hrec⟩ : ∃ r, r = rec0 := ⟨_, rfl⟩
  obtain ⟨W1, hW1⟩ : ∃ W1, W1 = w.alloc (.loop (rec .ready none)) := ⟨_, rfl⟩
  have e1 : Ext w W1 := by rw [hW1]; exact Ext.alloc0 _ _
  have hl1 : W1.heap[D]? = some (.loop (rec .ready none)) := by rw [hW1, hD]; exact World.alloc_heap_new w _
  have hz1 : W1.heap.size = D + 1 := by rw [hW1, hD]; simp
  have hI1 : I [] W1 := by rw [hW1]; exact hI.alloc _ h0
  refine ⟨D, [], W1, { target := .fn (.func gf) lb, args := #[.func (.yield D) #[] #[]] }, W1, gf, #[.func (.yield D) #[] #[]] ++ lb, W1, ?_, ?_, fun _ _ => trivial, ?_, fun _ => hn, ?_⟩
  · rw [hW1, hrec, hD]; exact run_enterLoop_inner hl₀ _ _ _ _ _
  · simp only [resolve, hg]
    simp [go_sem]
  · simp [invoke, go_sem, eg]
  have hrow : ∀ {A B : World} {row : Option Nat}, (∀ r, row = some r → W1.heap.size ≤ r ∧ ∃ o : Obj, A.heap[r]? = some o ∧ o.isCells = false) → (∀ r, row = some r → w.heap.size ≤ r ∧ ∃ o : Obj, A.heap[r]? = some o ∧ o.isCells = false) := by
    intro A B row hr r e
    obtain ⟨hB, o, ho, hw⟩ := hr r e
    exact ⟨by omega, o, ho, hw⟩
  have hkeep : ∀ {A B : World} {row : Option Nat} {o : Obj}, A.grownBy B row → (∀ r, row = some r → W1.heap.size ≤ r ∧ ∃ o : Obj, A.heap[r]? = some o ∧ o.isCells = false) → A.heap[D]? = some o → B.heap[D]? = some o := by
    intro A B row o hgr hr hA
    refine (hgr.block D (Array.getElem?_eq_some_iff.1 hA).1 (fun e => ?_)).trans hA
    have := (hr D e.symm).1
    omega
  refine ((hit _).inRound l₀ D (fun pre W => (I pre W ∧ D + 1 ≤ W.heap.size) ∧ W.heap[D]? = some (.loop (rec .ready none)))
    (fun pre W => ∃ c, Ix c pre W ∧ W.heap[D]? = some (.loop (rec .done (some c)))) W1 e1 ⟨_, hl1⟩
    (fun s A B row hs hgr hr => ⟨⟨hI s A B row hs.1.1 hgr (hrow (B := B) hr), Nat.le_trans hs.1.2 hgr.size⟩, hkeep hgr hr hs.2⟩)
    (fun s A B row hs hgr hr => hs.elim fun c h => ⟨c, hIx c s A B row h.1 hgr (hrow (B := B) hr), hkeep hgr hr h.2⟩)
    ?round ⟨⟨hI1, by omega⟩, hl1⟩).mono ?behind
  case round =>
    rintro pre x W0 ⟨⟨hi, hz⟩, hl⟩ hlt
    have hy := run_yield (P := P) (args := encs x) hl (by rw [hrec]; exact hps x)
    rw [hrec] at hy
    refine ⟨fn, _, assign, body, hy, roundIn_of_wpIn hfn (hassign _ _ x W0 _ (by omega) ?_)⟩
    clear hy
    intro a' W hEx hAx1
    replace hi := OwnFrom.ext hI hi hEx
    replace hlt := OwnFrom.ext (hFx x) (s := pre) hlt hEx
    replace hl := (hEx.block D (Array.getElem?_eq_some_iff.1 hl).1).trans hl
    have hKA : Kp D W0 W := hKx _ _ _ (by omega) hEx
    have hz0 := hEx.size
    replace hz : D + 1 ≤ W.heap.size := by omega
    obtain ⟨V, hV⟩ : ∃ V, V = W.putObj D (.loop { rec .ready none with state := .busy }) := ⟨_, rfl⟩
    refine ⟨V, by rw [hV]; exact run_beginRound hl (by rw [hrec]), ?_⟩
    have hKV : Kp D W0 V := by rw [hV]; exact hKt hKA (hKb _ _ _ _ (by omega) hl)
    have hiV : I pre V := by rw [hV]; exact hI.putObj _ hi (by omega) hl rfl
    have hfV : Fx pre x V := by rw [hV]; exact (hFx x).putObj (s := pre) _ hlt (by omega) hl rfl
    have haV : Ax x a' V := by rw [hV]; exact (hAx x a').putObj (s := ()) _ hAx1 (by omega) hl rfl
    have hlV : V.heap[D]? = some (.loop { rec .ready none with state := .busy }) := by rw [hV]; exact World.putObj_heap_same (Array.getElem?_eq_some_iff.1 hl).1
    have hzV : D + 1 ≤ V.heap.size := by have := (Array.getElem?_eq_some_iff.1 hlV).1; omega
    have hV' := hV
    have hVz : W.heap.size ≤ V.heap.size := by rw [hV]; exact (grownBy_putObj' W _ _).size
    clear hV
    have hleft : ∀ X Y : World, KeepsFrom w.heap.size V X → (∃ o, Y = X.putObj (D) o) → KeepsFrom W1.heap.size W0 Y := by
      rintro X Y hk ⟨o, rfl⟩
      refine ⟨Nat.le_trans (Nat.le_trans hz0 hVz) (Nat.le_trans hk.size (grownBy_putObj' X (D) o).size), fun k o' hB hk' ho => ?_⟩
      have h1 := (hEx.block k (Array.getElem?_eq_some_iff.1 hk').1).trans hk'
      have h2 : V.heap[k]? = some o' := by rw [hV']; exact (World.putObj_heap_other (by omega)).trans h1
      exact (World.putObj_heap_other (by omega)).trans (hk.same _ _ (by omega) h2 ho)
    clear hV'
    refine wpIn_mono (hbody D _ pre x a' V (by omega) hfV (by omega) hiV haV) ?_
    have fin : ∀ (jump : Option Code) (X : World), KeepsFrom w.heap.size V X → ∃ Y, (Instr.endRound D jump).run P X = .ok (.bool jump.isNone) Y ∧ Y = X.putObj D (.loop (rec (if jump.isNone then .ready else .done) jump)) ∧
        X.heap[D]? = some (.loop { rec .ready none with state := .busy }) ∧ Y.heap[D]? = some (.loop (rec (if jump.isNone then .ready else .done) jump)) := by
      intro jump X hk
      have hX := hk.same _ _ (by omega) hlV rfl
      have hr := run_endRound (P := P) jump hX
      have hXl := (Array.getElem?_eq_some_iff.1 hX).1
      refine ⟨_, ?_, rfl, hX, World.putObj_heap_same hXl⟩
      rw [hrec] at hr ⊢; exact hr
    intro e a' X hp
    cases e with
    | normal =>
      obtain ⟨p1, p2, p3⟩ := hp
      obtain ⟨Y, q1, q2, q3, q4⟩ := fin none X p1
      refine ⟨_, Y, q1, .inl ⟨rfl, ⟨⟨by rw [q2]; exact hI.putObj _ p3 (by omega) q3 rfl, ?_⟩, q4⟩, hKt hKV (hKt p2 (by rw [q2]; exact hKb _ _ _ _ (by omega) q3))⟩⟩
      have := (Array.getElem?_eq_some_iff.1 q4).1
      omega
    | ret =>
      obtain ⟨p1, p2⟩ := hp
      obtain ⟨Y, q1, q2, q3, q4⟩ := fin (some .ret) X p1
      exact ⟨_, Y, q1, .inr ⟨rfl, ⟨_, by rw [q2]; exact (hIx _).putObj _ p2 (by omega) q3 rfl, q4⟩, hleft X Y p1 ⟨_, q2⟩⟩⟩
    | exit id =>
      obtain ⟨p1, p2⟩ := hp
      obtain ⟨Y, q1, q2, q3, q4⟩ := fin (some (.exit id)) X p1
      exact ⟨_, Y, q1, .inr ⟨rfl, ⟨_, by rw [q2]; exact (hIx _).putObj _ p2 (by omega) q3 rfl, q4⟩, hleft X Y p1 ⟨_, q2⟩⟩⟩
    | goto t =>
      obtain ⟨p1, p2⟩ := hp
      obtain ⟨Y, q1, q2, q3, q4⟩ := fin (some (.goto t)) X p1
      exact ⟨_, Y, q1, .inr ⟨rfl, ⟨_, by rw [q2]; exact (hIx _).putObj _ p2 (by omega) q3 rfl, q4⟩, hleft X Y p1 ⟨_, q2⟩⟩⟩
    | panic _ => exact hp.elim
    | outgrown => exact hp.elim
  case behind =>
    rintro e X ⟨⟨v, rfl⟩, h⟩
    rcases h with ⟨xs, hs, ⟨hi, _⟩, hl⟩ | ⟨pre, _, c, hi, hl⟩
    · have hr := run_endLoop (P := P) hl (by rw [hrec]; simp [rec0])
      exact ⟨none, _, by rw [hrec] at hr; exact hr, hdone xs _ (hS.putObj _ hs (by omega) hl rfl) (hI.putObj _ hi (by omega) hl rfl)⟩
    · have hr := run_endLoop (P := P) hl (by rw [hrec]; simp [rec0])
      exact ⟨some c, _, by rw [hrec] at hr; exact hr, hstop c pre _ ((hIx c).putObj _ hi (by omega) hl rfl)⟩
theorem box_from (B : Nat) (T : TypeId) (cs : Array Value) (p : Nat → Prop) : OwnFrom B (fun (_ : Unit) W => ∃ b, B ≤ b ∧ Blk W b T cs ∧ p b) := by
  rintro _ W W' row ⟨b, h1, h2, h3⟩ hgr hr
  refine ⟨b, h1, ?_, h3⟩
  refine (hgr.block b h2.lt (fun e => ?_)).trans h2
  obtain ⟨_, o, ho, hc⟩ := hr b e.symm
  unfold Blk at h2
  rw [h2] at ho
  injection ho with ho
  rw [← ho] at hc
  cases hc
theorem wp_range_Rb {β : Type} {g : Operand} {ps : Array Tmp} {assign body : Code} {Q : Exit → Act → World → Prop} {a : Act} {w : World} {gf : Nat} {lb : Array Value} {encs : β → Array Value} {Kp : Nat → World → World → Prop} {Fx : List β → β → World → Prop} {S Sp : List β → World → Prop}
    (hit : IterR P gf lb encs Kp Fx S Sp w) (hg : a.eval g = .func (.func gf) #[] lb) (eg : ∀ args w, (callFunc gf args).run P w = .ok (.enter gf args) w) (hps : ∀ x, (encs x).size = ps.size)
    (hKt : ∀ {l : Nat} {A B C : World}, Kp l A B → Kp l B C → Kp l A C) (hKb : ∀ (W : World) (l : Nat) (r r' : Loop), w.heap.size ≤ l → W.heap[l]? = some (.loop r) → Kp l W (W.putObj l (.loop r'))) (hKx : ∀ (l : Nat) (W W' : World), w.heap.size ≤ W.heap.size → Ext W W' → Kp l W W')
    (hS : OwnFrom w.heap.size S) (hFx : ∀ x, OwnFrom w.heap.size (fun pre W => Fx pre x W))
    (I : List β → World → Prop) (Ix : Code → List β → World → Prop) (hI : OwnFrom w.heap.size I) (hIx : ∀ c, OwnFrom w.heap.size (Ix c)) (h0 : I [] w)
    (upd : β → Nat → Array Value → Array Value) (T : TypeId) (cells : β → Array Value)
    (hassign : ∀ (l n : Nat) (x : β) (W : World) (K : Act → World → Prop), K { tmps := upd x W.heap.size a.tmps, defers := [] } (W.alloc (.cells (cells x) T)) →
      assign.wpIn (Fence.wide.inRound l) n P (Exit.then K (fun _ _ _ => False)) { tmps := (ps.zip (encs x)).foldl (fun t (p, v) => t.setIfInBounds p v) a.tmps, defers := [] } W)
    (hbody : ∀ (l : Nat) (r : Loop) (pre : List β) (x : β) (b : Nat) (W : World), w.heap.size ≤ l → W.heap[l]? = some (.loop r) → Fx pre x W → w.heap.size ≤ W.heap.size → I pre W → w.heap.size ≤ b → Blk W b T (cells x) →
      body.wpIn (Fence.wide.inRound l) 5 P (RoundK w (Kp l) I Ix (pre ++ [x]) W) { tmps := upd x b a.tmps, defers := [] } W)
    (hdone : ∀ (D : Nat) (xs : List β) (W : World), w.heap.size ≤ D → S xs W → I xs W → W.heap[D]? = some (.deferred (some [])) → Q .normal { a with defers := { target := .collected D, args := #[] } :: a.defers } W)
    (hstop : ∀ (D : Nat) (c : Code) (pre : List β) (W : World), w.heap.size ≤ D → Ix c pre W → W.heap[D]? = some (.deferred (some [])) → c.wp P Q { a with defers := { target := .collected D, args := #[] } :: a.defers } W) :
    (Code.rangeFunc g ps assign body).wp P Q a w :=
  wp_range_R hit hg eg hps hKt hKb hKx hS hFx I Ix hI hIx h0 (fun x a' W => ∃ b, w.heap.size ≤ b ∧ Blk W b T (cells x) ∧ a' = { tmps := upd x b a.tmps, defers := [] }) (fun _ _ => box_from _ _ _ _)
    (fun l n x W K hz hK => hassign l n x W K (hK _ _ (Ext.alloc0 _ _) ⟨_, hz, Blk.newAt rfl, rfl⟩)) (fun l r pre x _ W h1 h2 h3 h4 h5 ⟨b, h6, h7, h8⟩ => h8 ▸ hbody l r pre x b W h1 h2 h3 h4 h5 h6 h7) hdone hstop
theorem wpIn_range_Rb {β : Type} {g : Operand} {ps : Array Tmp} {assign body : Code} {Q : Exit → Act → World → Prop} {a : Act} {w : World} {gf : Nat} {lb : Array Value} {encs : β → Array Value} {Kp : Nat → World → World → Prop} {Fx : List β → β → World → Prop} {S Sp : List β → World → Prop} {l₀ n : Nat} {r₀ : Loop}
    (hl₀ : w.heap[l₀]? = some (.loop r₀)) (hn : 1 ≤ n) (hit : IterR P gf lb encs Kp Fx S Sp w) (hg : a.eval g = .func (.func gf) #[] lb) (eg : ∀ args w, (callFunc gf args).run P w = .ok (.enter gf args) w) (hps : ∀ x, (encs x).size = ps.size)
    (hKt : ∀ {l : Nat} {A B C : World}, Kp l A B → Kp l B C → Kp l A C) (hKb : ∀ (W : World) (l : Nat) (r r' : Loop), w.heap.size ≤ l → W.heap[l]? = some (.loop r) → Kp l W (W.putObj l (.loop r'))) (hKx : ∀ (l : Nat) (W W' : World), w.heap.size ≤ W.heap.size → Ext W W' → Kp l W W')
    (hS : OwnFrom w.heap.size S) (hFx : ∀ x, OwnFrom w.heap.size (fun pre W => Fx pre x W))
    (I : List β → World → Prop) (Ix : Code → List β → World → Prop) (hI : OwnFrom w.heap.size I) (hIx : ∀ c, OwnFrom w.heap.size (Ix c)) (h0 : I [] w)
    (upd : β → Nat → Array Value → Array Value) (T : TypeId) (cells : β → Array Value)
    (hassign : ∀ (l n : Nat) (x : β) (W : World) (K : Act → World → Prop), K { tmps := upd x W.heap.size a.tmps, defers := [] } (W.alloc (.cells (cells x) T)) →
      assign.wpIn (Fence.wide.inRound l) n P (Exit.then K (fun _ _ _ => False)) { tmps := (ps.zip (encs x)).foldl (fun t (p, v) => t.setIfInBounds p v) a.tmps, defers := [] } W)
    (hbody : ∀ (l n : Nat) (pre : List β) (x : β) (b : Nat) (W : World), w.heap.size ≤ l → Fx pre x W → w.heap.size ≤ W.heap.size → I pre W → w.heap.size ≤ b → Blk W b T (cells x) →
      body.wpIn (Fence.wide.inRound l) n P (RoundK w (Kp l) I Ix (pre ++ [x]) W) { tmps := upd x b a.tmps, defers := [] } W)
    (hdone : ∀ (xs : List β) (W : World), S xs W → I xs W → Q .normal a W)
    (hstop : ∀ (c : Code) (pre : List β) (W : World), Ix c pre W → c.wpIn (Fence.wide.inRound l₀) n P Q a W) :
    (Code.rangeFunc g ps assign body).wpIn (Fence.wide.inRound l₀) n P Q a w :=
  wpIn_range_R hl₀ hn hit hg eg hps hKt hKb hKx hS hFx I Ix hI hIx h0 (fun x a' W => ∃ b, w.heap.size ≤ b ∧ Blk W b T (cells x) ∧ a' = { tmps := upd x b a.tmps, defers := [] }) (fun _ _ => box_from _ _ _ _)
    (fun l n x W K hz hK => hassign l n x W K (hK _ _ (Ext.alloc0 _ _) ⟨_, hz, Blk.newAt rfl, rfl⟩)) (fun l n pre x _ W h1 h2 h3 h4 ⟨b, h5, h6, h7⟩ => h7 ▸ hbody l n pre x b W h1 h2 h3 h4 h5 h6) hdone hstop
end
end Go.Proofs.YtiladlangkjoiaaGreat
