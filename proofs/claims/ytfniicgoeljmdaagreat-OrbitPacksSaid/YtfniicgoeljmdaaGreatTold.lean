/- A range over a function that hands out rows of its own making: what is known of them behind the loop is said of the last world. No condition. -/
import Derived.Test.YtfniicgoeljmdaaGreatForcedIn
namespace Go.Proofs.YtfniicgoeljmdaaGreat
open Go.RowKit Go.Shelf

def IterT {β : Type} (P : Program) (gf : Nat) (lb : Array Value) (encs : β → Array Value) (Kp : World → World → Prop) (S Sp : List β → World → Prop) (N : Nat) (w : World) : Prop :=
  ∀ (n l : Nat) (J Jx : List β → World → Prop) (W : World), Ext w W → AbidesFrom W.heap.size J → AbidesFrom W.heap.size Jx →
    (∀ pre x W1, J pre W1 → pre.length < N → YieldAt Fence.wide (n - 1) P l (encs x) W1 fun e W' =>
      (e = .returned (.bool true) ∧ J (pre ++ [x]) W' ∧ Kp W1 W') ∨ (e = .returned (.bool false) ∧ Jx (pre ++ [x]) W')) →
    J [] W →
    CallsIn Fence.wide n P gf (#[.func (.yield l) #[] #[]] ++ lb) W fun e W' => (∃ v, e = .returned v) ∧ ((∃ xs, S xs W' ∧ J xs W') ∨ (∃ pre, Sp pre W' ∧ Jx pre W'))

def RoundK {β : Type} (w : World) (Kp : World → World → Prop) (I : List β → World → Prop) (Ix : Code → List β → World → Prop) (xs : List β) (W : World) : Exit → Act → World → Prop
  | .normal, _, W' => KeepsFrom w.heap.size W W' ∧ Kp W W' ∧ I xs W'
  | .ret, _, W' => KeepsFrom w.heap.size W W' ∧ Ix .ret xs W'
  | .exit id, _, W' => KeepsFrom w.heap.size W W' ∧ Ix (.exit id) xs W'
  | .goto t, _, W' => KeepsFrom w.heap.size W W' ∧ Ix (.goto t) xs W'
  | .panic _, _, _ => False
  | .outgrown, _, _ => False

section
variable {P : Program}
theorem wp_range_told {β : Type} {g : Operand} {ps : Array Tmp} {assign body : Code} {Q : Exit → Act → World → Prop} {a : Act} {w : World} {gf : Nat} {lb : Array Value} {encs : β → Array Value} {Kp : World → World → Prop} {S Sp : List β → World → Prop} {N : Nat}
    (hit : IterT P gf lb encs Kp S Sp N w) (hg : a.eval g = .func (.func gf) #[] lb) (eg : ∀ args w, (callFunc gf args).run P w = .ok (.enter gf args) w) (hps : ∀ x, (encs x).size = ps.size)
    (hKt : ∀ {A B C : World}, Kp A B → Kp B C → Kp A C) (hKb : ∀ (W : World) (l : Nat) (o o' : Obj), w.heap.size ≤ l → W.heap[l]? = some o → o.isCells = false → o.isWalk = false → Kp W (W.putObj l o'))
    (hS : OwnFrom w.heap.size S)
    (I : List β → World → Prop) (Ix : Code → List β → World → Prop) (hI : OwnFrom w.heap.size I) (hIx : ∀ c, OwnFrom w.heap.size (Ix c)) (h0 : I [] w)
    (upd : β → Array Value → Array Value)
    (hassign : ∀ (l n : Nat) (x : β) (W : World) (K : Act → World → Prop), K { tmps := upd x a.tmps, defers := [] } W →
      assign.wpIn (Fence.wide.inRound l) n P (Exit.then K (fun _ _ _ => False)) { tmps := (ps.zip (encs x)).foldl (fun t (p, v) => t.setIfInBounds p v) a.tmps, defers := [] } W)
    (hbody : ∀ (l n : Nat) (pre : List β) (x : β) (W : World), pre.length < N → w.heap.size ≤ W.heap.size → I pre W →
      body.wpIn (Fence.wide.inRound l) n P (RoundK w Kp I Ix (pre ++ [x]) W) { tmps := upd x a.tmps, defers := [] } W)
    (hdone : ∀ (D : Nat) (xs : List β) (W : World), w.heap.size ≤ D → S xs W → I xs W → W.heap[D]? = some (.deferred (some [])) → Q .normal { a with defers := { target := .collected D, args := #[] } :: a.defers } W)
    (hstop : ∀ (D : Nat) (c : Code) (pre : List β) (W : World), w.heap.size ≤ D → Ix c pre W → W.heap[D]? = some (.deferred (some [])) → c.wp P Q { a with defers := { target := .collected D, args := #[] } :: a.defers } W) :
    (Code.rangeFunc g ps assign body).wp P Q a w := by
  refine (wpIn_wide (n := 3)).1 (wpIn_rangeFunc fun fn hfn => ?_)
  -- the two blocks that the loop lays: D for deferred calls, D + 1 its record
  obtain ⟨D, hD⟩ : ∃ D, D = w.heap.size := ⟨_, rfl⟩
  let rec0 : LoopState → Option Code → Loop := fun st pe => { state := st, pending := pe, fn := fn, tmps := a.tmps, params := ps, assign := assign, body := body, defers := w.heap.size }
  obtain ⟨rec, hrec⟩ : ∃ r, r = rec0 := ⟨_, rfl⟩
  obtain ⟨W1, hW1⟩ : ∃ W1, W1 = (w.alloc (.deferred (some []))).alloc (.loop (rec .ready none)) := ⟨_, rfl⟩
  have e1 : Ext w W1 := by rw [hW1]; exact (Ext.alloc0 _ _).trans (Ext.alloc0 _ _)
  have hd1 : W1.heap[D]? = some (.deferred (some [])) := by rw [hW1, hD]; exact (Below.heap_alloc _ _ _ (by simp)).trans (World.alloc_heap_new w _)
  have hl1 : W1.heap[D + 1]? = some (.loop (rec .ready none)) := by
    have h := World.alloc_heap_new (w.alloc (.deferred (some []))) (.loop (rec .ready none))
    rw [World.size_alloc] at h
    rw [hW1, hD]; exact h
  have hz1 : W1.heap.size = D + 2 := by rw [hW1, hD]; simp
  have hI1 : I [] W1 := by rw [hW1]; exact hI.alloc _ (hI.alloc _ h0)
  refine ⟨D + 1, [{ target := .collected D, args := #[] }], W1, { target := .fn (.func gf) lb, args := #[.func (.yield (D + 1)) #[] #[]] }, W1, gf, #[.func (.yield (D + 1)) #[] #[]] ++ lb, W1, ?_, ?_, fun _ _ => trivial, ?_, fun h => (by cases h), ?_⟩
  · rw [hW1, hrec, hD]; exact run_enterLoop_outer _ _ _ _ _
  · simp only [resolve, hg]
    simp [go_sem]
  · simp [invoke, go_sem, eg]
  -- what is no cells and lies at D or behind it is of our own turning
  have hrow : ∀ {A B : World} {row : Option Nat}, (∀ r, row = some r → W1.heap.size ≤ r ∧ ∃ o : Obj, A.heap[r]? = some o ∧ o.isWalk = true) → (∀ r, row = some r → w.heap.size ≤ r ∧ ∃ o : Obj, A.heap[r]? = some o ∧ o.isCells = false) := by
    intro A B row hr r e
    obtain ⟨hB, o, ho, hw⟩ := hr r e
    exact ⟨by omega, o, ho, Obj.not_cells_of_walk hw⟩
  have hkeep : ∀ {A B : World} {row : Option Nat} {k : Nat} {o : Obj}, A.grownBy B row → (∀ r, row = some r → W1.heap.size ≤ r ∧ ∃ o : Obj, A.heap[r]? = some o ∧ o.isWalk = true) → A.heap[k]? = some o → o.isWalk = false → B.heap[k]? = some o := by
    intro A B row k o hgr hr hk ho
    exact (grownBy_keeps hgr (fun r e => (hr r e).2) hk ho).trans hk
  refine (hit _ (D + 1) (fun pre W => (I pre W ∧ D + 2 ≤ W.heap.size) ∧ W.heap[D + 1]? = some (.loop (rec .ready none)) ∧ W.heap[D]? = some (.deferred (some [])))
    (fun pre W => ∃ c, Ix c pre W ∧ W.heap[D + 1]? = some (.loop (rec .done (some c))) ∧ W.heap[D]? = some (.deferred (some []))) W1 e1
    (fun s A B row hs hgr hr => ⟨⟨hI s A B row hs.1.1 hgr (hrow (B := B) hr), Nat.le_trans hs.1.2 hgr.size⟩, hkeep hgr hr hs.2.1 rfl, hkeep hgr hr hs.2.2 rfl⟩)
    (fun s A B row hs hgr hr => hs.elim fun c h => ⟨c, hIx c s A B row h.1 hgr (hrow (B := B) hr), hkeep hgr hr h.2.1 rfl, hkeep hgr hr h.2.2 rfl⟩)
    ?round ⟨⟨hI1, by omega⟩, hl1, hd1⟩).mono ?behind
  case round =>
    rintro pre x W ⟨⟨hi, hz⟩, hl, hd⟩ hlt
    have hy := run_yield (P := P) (args := encs x) hl (by rw [hrec]; exact hps x)
    rw [hrec] at hy
    refine ⟨fn, _, assign, body, hy, roundIn_of_wpIn hfn (hassign _ _ x W _ ?_)⟩
    obtain ⟨V, hV⟩ : ∃ V, V = W.putObj (D + 1) (.loop { rec .ready none with state := .busy }) := ⟨_, rfl⟩
    refine ⟨V, by rw [hV]; exact run_beginRound hl (by rw [hrec]), ?_⟩
    have hKV : Kp W V := by rw [hV]; exact hKb _ _ _ _ (by omega) hl rfl rfl
    have hiV : I pre V := by rw [hV]; exact hI.putObj _ hi (by omega) hl rfl
    have hlV : V.heap[D + 1]? = some (.loop { rec .ready none with state := .busy }) := by rw [hV]; exact World.putObj_heap_same (Array.getElem?_eq_some_iff.1 hl).1
    have hdV : V.heap[D]? = some (.deferred (some [])) := by rw [hV]; exact (World.putObj_heap_other (by omega)).trans hd
    have hzV : D + 2 ≤ V.heap.size := by have := (Array.getElem?_eq_some_iff.1 hlV).1; omega
    clear hV
    refine wpIn_mono (hbody (D + 1) _ pre x V hlt (by omega) hiV) ?_
    -- the end of a round: the record is turned
    have fin : ∀ (jump : Option Code) (X : World), KeepsFrom w.heap.size V X → ∃ Y, (Instr.endRound (D + 1) jump).run P X = .ok (.bool jump.isNone) Y ∧ Y = X.putObj (D + 1) (.loop (rec (if jump.isNone then .ready else .done) jump)) ∧
        X.heap[D + 1]? = some (.loop { rec .ready none with state := .busy }) ∧ Y.heap[D + 1]? = some (.loop (rec (if jump.isNone then .ready else .done) jump)) ∧ Y.heap[D]? = some (.deferred (some [])) := by
      intro jump X hk
      have hX := hk.same _ _ (by omega) hlV rfl
      have hr := run_endRound (P := P) jump hX
      have hXl := (Array.getElem?_eq_some_iff.1 hX).1
      refine ⟨_, ?_, rfl, hX, World.putObj_heap_same hXl, (World.putObj_heap_other (by omega)).trans (hk.same _ _ (by omega) hdV rfl)⟩
      rw [hrec] at hr ⊢; exact hr
    intro e a' X hp
    cases e with
    | normal =>
      obtain ⟨p1, p2, p3⟩ := hp
      obtain ⟨Y, q1, q2, q3, q4, q5⟩ := fin none X p1
      refine ⟨_, Y, q1, .inl ⟨rfl, ⟨⟨by rw [q2]; exact hI.putObj _ p3 (by omega) q3 rfl, ?_⟩, q4, q5⟩, hKt hKV (hKt p2 (by rw [q2]; exact hKb _ _ _ _ (by omega) q3 rfl rfl))⟩⟩
      have := (Array.getElem?_eq_some_iff.1 q4).1
      omega
    | ret =>
      obtain ⟨p1, p2⟩ := hp
      obtain ⟨Y, q1, q2, q3, q4, q5⟩ := fin (some .ret) X p1
      exact ⟨_, Y, q1, .inr ⟨rfl, _, by rw [q2]; exact (hIx _).putObj _ p2 (by omega) q3 rfl, q4, q5⟩⟩
    | exit id =>
      obtain ⟨p1, p2⟩ := hp
      obtain ⟨Y, q1, q2, q3, q4, q5⟩ := fin (some (.exit id)) X p1
      exact ⟨_, Y, q1, .inr ⟨rfl, _, by rw [q2]; exact (hIx _).putObj _ p2 (by omega) q3 rfl, q4, q5⟩⟩
    | goto t =>
      obtain ⟨p1, p2⟩ := hp
      obtain ⟨Y, q1, q2, q3, q4, q5⟩ := fin (some (.goto t)) X p1
      exact ⟨_, Y, q1, .inr ⟨rfl, _, by rw [q2]; exact (hIx _).putObj _ p2 (by omega) q3 rfl, q4, q5⟩⟩
    | panic _ => exact hp.elim
    | outgrown => exact hp.elim
  case behind =>
    rintro e X ⟨⟨v, rfl⟩, h⟩
    rcases h with ⟨xs, hs, ⟨hi, _⟩, hl, hd⟩ | ⟨pre, _, c, hi, hl, hd⟩
    · have hr := run_endLoop (P := P) hl (by rw [hrec]; simp [rec0])
      refine ⟨none, _, by rw [hrec] at hr; exact hr, hdone D xs _ (by omega) (hS.putObj _ hs (by omega) hl rfl) (hI.putObj _ hi (by omega) hl rfl) ((World.putObj_heap_other (by omega)).trans hd)⟩
    · have hr := run_endLoop (P := P) hl (by rw [hrec]; simp [rec0])
      refine ⟨some c, _, by rw [hrec] at hr; exact hr, wpIn_wide.2 (hstop D c pre _ (by omega) ((hIx c).putObj _ hi (by omega) hl rfl) ((World.putObj_heap_other (by omega)).trans hd))⟩
end
end Go.Proofs.YtfniicgoeljmdaaGreat
