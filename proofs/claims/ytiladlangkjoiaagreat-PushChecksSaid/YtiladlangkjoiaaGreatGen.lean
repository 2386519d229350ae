/- A region that draws its order, all of whose operations yield a fixed value in every world that extends the first one, may be walked in the order of the text. No condition. A region that draws its order: a body whose values are fixed, allocations in whatever order, a tail in a forced order (whose values need not be fixed). No condition. -/
import Derived.Test.YtiladlangkjoiaaGreatWideLaw
import Derived.OrdersHeld
namespace Go.Proofs.YtiladlangkjoiaaGreat
open Go.RowKit

def Gives (P : Program) (w0 : World) (v : Value) : Result Next → Prop
  | .ok (.value u) w' => u = v ∧ Ext w0 w'
  | .ok .skip w' => v = undef ∧ Ext w0 w'
  | .ok (.enter f args) w' => Calls P f args w' fun e w'' => e = .returned v ∧ Ext w0 w''
  | _ => False

def Stable (F : World → Prop) : Prop := ∀ w w', F w → Ext w w' → F w'
theorem Stable.ext (w0 : World) : Stable (Ext w0) := fun _ _ h k => h.trans k
theorem Stable.and {F G : World → Prop} (h : Stable F) (k : Stable G) : Stable fun w => F w ∧ G w := fun _ _ f e => ⟨h _ _ f.1 e, k _ _ f.2 e⟩

section
variable {P : Program} {ops : Array Oper} {Q : Exit → Act → World → Prop} {S : World → Prop}

theorem Gives.upon {w0 : World} {o : Oper} {a : Act} {v : Value} {r : Result Next} {K : Act → World → Prop} (h : Gives P w0 v r) (hK : ∀ w', Ext w0 w' → K (a.put o.dst v) w') : o.upon P a K Q r := by
  cases r with
  | ok n w' =>
    cases n <;> simp only [Gives, Oper.upon] at h ⊢
    case value u => obtain ⟨rfl, h⟩ := h; exact hK _ h
    case skip => obtain ⟨rfl, h⟩ := h; exact hK _ h
    case enter f args => exact h.mono fun e w'' ⟨he, hw⟩ => by subst he; exact hK _ hw
  | halt x w' => exact h.elim

def Yl (P : Program) (ops : Array Oper) (S : World → Prop) (o : Oper) (v : Value) (a : Act) : Prop :=
  (Region.wanted o (yielded ops a.tmps) = true ∧ ∀ w, S w → Gives P w v ((execOp a.eval o).run P w)) ∨ (Region.wanted o (yielded ops a.tmps) = false ∧ v = undef)

theorem Yl.wpOp {i : Nat} {o : Oper} {v : Value} {a : Act} (hi : ops[i]? = some o) (hy : Yl P ops S o v a)
    {K : Act → World → Prop} {w : World} (hst : Stable S) (hS : S w) (h : ∀ w', S w' → K (a.put o.dst v) w') : wpOp P ops Q i K a w := by
  unfold Go.wpOp
  simp only [hi]
  rcases hy with ⟨hw, hv⟩ | ⟨hw, rfl⟩
  · simp only [hw, if_true]; exact .inl ((hv w hS).upon fun w' e => h w' (hst _ _ hS e))
  · simp only [hw, Bool.false_eq_true, if_false]; exact h _ hS

theorem Yl.of_same {o : Oper} {v : Value} {a a' : Act} (hy : Yl P ops S o v a) (he : execOp a'.eval o = execOp a.eval o)
    (hw : Region.wanted o (yielded ops a'.tmps) = Region.wanted o (yielded ops a.tmps)) : Yl P ops S o v a' := by
  unfold Yl at *
  rw [he, hw]
  exact hy

def opAt (ops : Array Oper) (i : Nat) : Oper := ops.getD i default

def BW (P : Program) (ops : Array Oper) (S : World → Prop) (val : Nat → Value) : List Nat → Act → (Act → Prop) → Prop
  | [], a, K => K a
  | i :: r, a, K => Yl P ops S (opAt ops i) (val i) a ∧ BW P ops S val r (a.put (opAt ops i).dst (val i)) K

theorem BW.remove {val : Nat → Value} (hsel : ∀ i cs b, (opAt ops i).op ≠ .select cs b) {K : Act → Prop} {j : Nat} {R2 : List Nat} : ∀ (R1 : List Nat) (a : Act), (∀ r ∈ R1, (opAt ops r).apart ops (opAt ops j) = true) →
    BW P ops S val (R1 ++ j :: R2) a K → Yl P ops S (opAt ops j) (val j) a ∧ BW P ops S val (R1 ++ R2) (a.put (opAt ops j).dst (val j)) K
  | [], _, _, h => h
  | r :: R1, a, hap, h => by
    obtain ⟨hr, h⟩ := h
    obtain ⟨h1, h2, h3⟩ := Oper.apart_spec (hap r (by simp))
    obtain ⟨hj, h⟩ := BW.remove hsel R1 _ (fun x hx => hap x (by simp [hx])) h
    refine ⟨hj.of_same (execOp_put _ (hsel j) a _ _ h1).symm (wanted_put _ a _ _ h1).symm, ?_, ?_⟩
    · exact hr.of_same (execOp_put _ (hsel r) a _ _ h3) (wanted_put _ a _ _ h3)
    · rw [← Act.put_comm a _ _ h2]
      exact h

def textOk (ops : Array Oper) : Bool :=
  Region.noSelect ops && (List.range ops.size).all fun j =>
    (opAt ops j).after.all (fun e => !Region.binds .any e || decide (e.on < j)) &&
    (List.range j).all fun r => ((opAt ops j).after.any fun e => Region.binds .any e && e.on == r) || (opAt ops r).apart ops (opAt ops j)

theorem wpAny_text (hst : Stable S) {val : Nat → Value} (hok : textOk ops = true) : ∀ (R : List Nat) (fuel : Nat) (listed : Array Bool) (a : Act) (w : World), fuel = R.length → listed.size = ops.size →
    (∀ i, listed.getD i true = false ↔ i ∈ R) → R.Pairwise (· < ·) → S w → BW P ops S val R a (fun a' => ∀ w', S w' → Q .normal a' w') → wpAny P .any ops Q fuel listed a w := by
  simp only [textOk, Bool.and_eq_true] at hok
  obtain ⟨hns, hall⟩ := hok
  have hsel : ∀ i cs b, (opAt ops i).op ≠ .select cs b := fun i cs b => by
    unfold opAt
    rw [Array.getD_eq_getD_getElem?]
    cases hi : ops[i]? with
    | none => simp [default, instInhabitedOper.default, instInhabitedOp.default]
    | some o => exact Region.noSelect_spec hns i o cs b hi
  have hat : ∀ j o, ops[j]? = some o → opAt ops j = o := fun j o h => by simp [opAt, Array.getD_eq_getD_getElem?, h]
  have hlt : ∀ (listed : Array Bool) j, listed.size = ops.size → listed.getD j true = false → j < ops.size := fun listed j hs h => by
    rcases Nat.lt_or_ge j listed.size with h' | h'
    · omega
    · simp [Array.getElem?_eq_none h'] at h
  have hchk : ∀ j, j < ops.size → (∀ e ∈ (opAt ops j).after, Region.binds .any e = true → e.on < j) ∧ ∀ r, r < j → (∃ e ∈ (opAt ops j).after, Region.binds .any e = true ∧ e.on = r) ∨ (opAt ops r).apart ops (opAt ops j) = true := by
    intro j hj
    have := (List.all_eq_true.1 hall) j (List.mem_range.2 hj)
    simp only [Bool.and_eq_true] at this
    refine ⟨fun e he hb => ?_, fun r hr => ?_⟩
    · have h1 := (Array.all_eq_true_iff_forall_mem.1 this.1) e he
      simpa [hb] using h1
    · have h2 := (List.all_eq_true.1 this.2) r (List.mem_range.2 hr)
      simp only [Bool.or_eq_true, Array.any_eq_true] at h2
      rcases h2 with ⟨k, hk, h2⟩ | h2
      · simp only [Bool.and_eq_true, beq_iff_eq] at h2
        exact .inl ⟨_, Array.getElem_mem hk, h2.1, h2.2⟩
      · exact .inr h2
  intro R fuel
  induction fuel generalizing R with
  | zero =>
    intro listed a w hf hs hR hp hS h
    have hR0 : R = [] := List.eq_nil_of_length_eq_zero hf.symm
    subst hR0
    refine ⟨?_, h w hS⟩
    rw [List.eq_nil_iff_forall_not_mem]
    intro j hj
    exact absurd ((hR j).1 (mem_ready.1 hj).1) (by simp)
  | succ fuel ih =>
    intro listed a w hf hs hR hp hS h
    have hready : ∀ j, j ∈ Region.ready .any ops listed → j ∈ R := fun j hj => (hR j).1 (mem_ready.1 hj).1
    refine ⟨fun h0 => ?_, fun j hj => ?_⟩
    · -- the first of R may come up
      match R, hf with
      | i :: R', _ =>
        have hi : listed.getD i true = false := (hR i).2 (by simp)
        have hil := hlt _ _ hs hi
        have : i ∈ Region.ready .any ops listed := by
          refine mem_ready.2 ⟨hi, opAt ops i, by simp [opAt, Array.getD_eq_getD_getElem?, Array.getElem?_eq_getElem hil], fun e he hb => ?_⟩
          have hlt' := (hchk i hil).1 e he hb
          cases hx : listed.getD e.on true with
          | false =>
            have hm := (hR e.on).1 hx
            rcases List.mem_cons.1 hm with h1 | h1
            · omega
            · have := (List.pairwise_cons.1 hp).1 _ h1; omega
          | true =>
            have hb' : e.on < listed.size := by omega
            simpa [hb'] using hx
        rw [h0] at this
        cases this
    · have hjR := hready j hj
      obtain ⟨hj0, o, ho, hdep⟩ := mem_ready.1 hj
      have hjl := hlt _ _ hs hj0
      have hoj := hat j o ho
      obtain ⟨R1, R2, rfl⟩ := List.append_of_mem hjR
      have hap : ∀ r ∈ R1, (opAt ops r).apart ops (opAt ops j) = true := by
        intro r hr
        have hrj : r < j := by
          have := List.pairwise_append.1 hp
          exact this.2.2 r hr j (by simp)
        rcases (hchk j hjl).2 r hrj with ⟨e, he, hb, hon⟩ | h1
        · have h1 := hdep e (hoj ▸ he) hb
          have h2 : listed.getD r true = false := (hR r).2 (by simp [hr])
          rw [hon] at h1
          have hrl := hlt _ _ hs h2
          have : r < listed.size := by omega
          simp [this] at h1 h2
          rw [h2] at h1; cases h1
        · exact h1
      obtain ⟨hyj, hrest⟩ := BW.remove hsel R1 a hap h
      rw [hoj] at hyj hrest
      refine hyj.wpOp ho hst hS fun w' hw' => ?_
      refine ih (R1 ++ R2) _ _ w' (by simp at hf ⊢; omega) (by simpa using hs) ?_ ?_ hw' hrest
      · intro i
        by_cases hij : j = i
        · subst hij
          have hn : j ∉ R1 ++ R2 := by
            have := List.pairwise_append.1 hp
            have h2 := List.pairwise_cons.1 this.2.1
            intro hm
            rcases List.mem_append.1 hm with h1 | h1
            · have := this.2.2 j h1 j (by simp); omega
            · have := h2.1 j h1; omega
          simp only [hn, iff_false]
          have : j < listed.size := by omega
          simp [this]
        · rw [getD_set_ne true hij, hR i]
          simp [List.mem_append, List.mem_cons, Ne.symm hij]
      · have h1 := List.pairwise_append.1 hp
        have h2 := List.pairwise_cons.1 h1.2.1
        exact List.pairwise_append.2 ⟨h1.1, h2.2, fun x hx y hy => h1.2.2 x hx y (by simp [hy])⟩

def BL (P : Program) (ops : Array Oper) (S : World → Prop) : List Oper → Act → (Act → Prop) → Prop
  | [], a, K => K a
  | o :: r, a, K => ∃ v, Yl P ops S o v a ∧ BL P ops S r (a.put o.dst v) K

theorem BL.bw {K : Act → Prop} : ∀ (l : List Oper) (n : Nat) (a : Act), (∀ j, l[j]? = ops[n + j]?) → n + l.length = ops.size → BL P ops S l a K → ∃ val : Nat → Value, BW P ops S val (List.range' n l.length) a K
  | [], _, _, _, _, h => ⟨fun _ => undef, h⟩
  | o :: l, n, a, hl, hn, h => by
    obtain ⟨v, hy, h⟩ := h
    obtain ⟨val, hv⟩ := BL.bw l (n + 1) _ (fun j => by have := hl (j + 1); simpa [Nat.add_assoc, Nat.add_comm 1 j] using this) (by simp at hn ⊢; omega) h
    have h0 : ops[n]? = some o := by simpa using (hl 0).symm
    have ho : opAt ops n = o := by simp [opAt, Array.getD_eq_getD_getElem?, h0]
    refine ⟨fun i => if i = n then v else val i, ?_⟩
    simp only [List.length_cons, List.range'_succ, BW, ho, if_true]
    refine ⟨hy, ?_⟩
    have congr : ∀ (R : List Nat) (a : Act), (∀ r ∈ R, n < r) → BW P ops S val R a K → BW P ops S (fun i => if i = n then v else val i) R a K := by
      intro R
      induction R with
      | nil => intro a _ h; exact h
      | cons r R ih =>
        intro a hr h
        have hne : r ≠ n := by have := hr r (by simp); omega
        simp only [BW, if_neg hne] at h ⊢
        exact ⟨h.1, ih _ (fun x hx => hr x (by simp [hx])) h.2⟩
    exact congr _ _ (fun r hr => by rw [List.mem_range'] at hr; obtain ⟨i, _, rfl⟩ := hr; omega) hv

theorem BL.bw2 {K : Act → Prop} : ∀ (l : List Oper) (n : Nat) (a : Act), (∀ j, j < l.length → l[j]? = ops[n + j]?) → BL P ops S l a K → ∃ val : Nat → Value, BW P ops S val (List.range' n l.length) a K
  | [], _, _, _, h => ⟨fun _ => undef, h⟩
  | o :: l, n, a, hl, h => by
    obtain ⟨v, hy, h⟩ := h
    obtain ⟨val, hv⟩ := BL.bw2 l (n + 1) _ (fun j hj => by have := hl (j + 1) (by simp; omega); simpa [Nat.add_assoc, Nat.add_comm 1 j] using this) h
    have h0 : ops[n]? = some o := by simpa using (hl 0 (by simp)).symm
    have ho : opAt ops n = o := by simp [opAt, Array.getD_eq_getD_getElem?, h0]
    refine ⟨fun i => if i = n then v else val i, ?_⟩
    simp only [List.length_cons, List.range'_succ, BW, ho, if_true]
    refine ⟨hy, ?_⟩
    have congr : ∀ (R : List Nat) (a : Act), (∀ r ∈ R, n < r) → BW P ops S val R a K → BW P ops S (fun i => if i = n then v else val i) R a K := by
      intro R
      induction R with
      | nil => intro a _ h; exact h
      | cons r R ih =>
        intro a hr h
        have hne : r ≠ n := by have := hr r (by simp); omega
        simp only [BW, if_neg hne] at h ⊢
        exact ⟨h.1, ih _ (fun x hx => hr x (by simp [hx])) h.2⟩
    exact congr _ _ (fun r hr => by rw [List.mem_range'] at hr; obtain ⟨i, _, rfl⟩ := hr; omega) hv

theorem wp_region_text {id : Nat} {l : List Oper} {a : Act} {w : World} (hm : P.follows .mixedOrders = true) (hok : textOk l.toArray = true)
    (h : BL P l.toArray (Ext w) l a (fun a' => ∀ w', Ext w w' → Q .normal a' w')) : (Code.region id l.toArray true).wp P Q a w := by
  obtain ⟨val, hv⟩ := BL.bw l 0 a (by simp) (by simp) h
  refine wp_region_any hm ?_
  refine wpAny_text (Stable.ext w) hok _ _ _ _ _ (by simp) (by simp) (fun i => ?_) (List.pairwise_lt_range' ..) (Ext.drew (Ext.refl _)) hv
  simp only [List.mem_range', Nat.one_mul, Nat.zero_add]
  rcases Nat.lt_or_ge i l.length with hi | hi
  · simp [hi]
  · simp [hi]


def Blk (w : World) (g : Nat) (t : TypeId) (cs : Array Value) : Prop := w.heap[g]? = some (.cells cs t (0, 0))
theorem Blk.lt {w : World} {g : Nat} {t : TypeId} {cs : Array Value} (h : Blk w g t cs) : g < w.heap.size := by
  rcases Nat.lt_or_ge g w.heap.size with hlt | hge
  · exact hlt
  · unfold Blk at h; rw [Array.getElem?_eq_none hge] at h; cases h
theorem Blk.cell {w : World} {g : Nat} {t : TypeId} {cs : Array Value} (h : Blk w g t cs) (i : Nat) : w.cell? ⟨g, i, none⟩ = cs[i]? := cell_of_row w g i cs t (0, 0) h
theorem Blk.frozen {w : World} {g : Nat} {t : TypeId} {cs : Array Value} (h : Blk w g t cs) (i : Nat) : w.frozen? ⟨g, i, none⟩ = false := by
  unfold Blk at h
  simp [World.frozen?, h]
theorem Blk.new (w : World) (t : TypeId) (cs : Array Value) : Blk (w.alloc (.cells cs t)) w.heap.size t cs := heap_alloc_new w _
theorem Blk.newAt {w : World} {t : TypeId} {cs : Array Value} {n : Nat} (h : n = w.heap.size) : Blk (w.alloc (.cells cs t)) n t cs := h ▸ Blk.new w t cs
theorem Blk.set_ {w : World} {g : Nat} {t : TypeId} {cs : Array Value} (h : Blk w g t cs) (i : Nat) (u : Value) : Blk (w.setCell ⟨g, i, none⟩ u) g t (cs.setIfInBounds i u) := by
  unfold Blk at h ⊢
  simp [World.setCell, Array.getElem?_modify, h]
theorem Blk.far {w : World} {g : Nat} {t : TypeId} {cs : Array Value} (h : Blk w g t cs) {p : Addr} (hp : g ≠ p.block) (u : Value) : Blk (w.setCell p u) g t cs := (Below.heap_setCell w p u g hp).trans h
theorem Blk.ext {w w' : World} {g : Nat} {t : TypeId} {cs : Array Value} (h : Blk w g t cs) (hb : Ext w w') : Blk w' g t cs := (hb.block g h.lt).trans h
def putC (b : Nat) : World → Nat → List Value → World
  | w, _, [] => w
  | w, i, v :: r => putC b (w.setCell ⟨b, i, none⟩ v) (i + 1) r
theorem Ext.putC {a : World} {b : Nat} (hb : a.heap.size ≤ b) : ∀ (l : List Value) {w : World} (i : Nat), Ext a w → Ext a (putC b w i l)
  | [], _, _, h => h
  | v :: r, _, i, h => Ext.putC hb r (i + 1) (Ext.set h hb v)
theorem Blk.putFar {g b : Nat} {t : TypeId} {cs : Array Value} (hb : g ≠ b) : ∀ (l : List Value) {w : World} (i : Nat), Blk w g t cs → Blk (putC b w i l) g t cs
  | [], _, _, h => h
  | v :: r, _, i, h => Blk.putFar hb r (i + 1) (Blk.far (p := ⟨b, i, none⟩) h hb v)
theorem Blk.putAll {b : Nat} {t : TypeId} : ∀ (l pre rest : List Value) {w : World}, rest.length = l.length → Blk w b t (pre ++ rest).toArray → Blk (putC b w pre.length l) b t (pre ++ l).toArray
  | [], pre, rest, w, hl, h => by
    obtain rfl : rest = [] := List.eq_nil_of_length_eq_zero hl
    exact h
  | v :: r, pre, [], _, hl, _ => by simp at hl
  | v :: r, pre, u :: rest, w, hl, h => by
    have h1 : Blk (w.setCell ⟨b, pre.length, none⟩ v) b t ((pre ++ [v]) ++ rest).toArray := by
      have h2 := h.set_ pre.length v
      have e : (pre ++ u :: rest).toArray.setIfInBounds pre.length v = ((pre ++ [v]) ++ rest).toArray := by simp
      rw [e] at h2
      exact h2
    have h3 := Blk.putAll r (pre ++ [v]) rest (by simpa using hl) h1
    rw [List.length_append, List.length_singleton, List.append_assoc] at h3
    exact h3
theorem Blk.putAt {b : Nat} {t : TypeId} {w : World} {l : List Value} {cs : Array Value} (h : Blk w b t cs) (hl : cs.size = l.length) : Blk (putC b w 0 l) b t l.toArray :=
  Blk.putAll l [] cs.toList (by simpa using hl) (by simpa using h)

theorem Stable.blk (g : Nat) (t : TypeId) (cs : Array Value) : Stable fun w => Blk w g t cs := fun _ _ h e => Blk.ext h e

theorem BW.mono {val : Nat → Value} {K K' : Act → Prop} (hK : ∀ a, K a → K' a) : ∀ (R : List Nat) (a : Act), BW P ops S val R a K → BW P ops S val R a K'
  | [], _, h => hK _ h
  | _ :: R, _, h => ⟨h.1, BW.mono hK R _ h.2⟩

theorem BW.push {val : Nat → Value} (hsel : ∀ i cs b, (opAt ops i).op ≠ .select cs b) {o : Oper} (hso : ∀ cs b, o.op ≠ .select cs b) (hg : o.guard = none) {K : Act → Prop} : ∀ (R : List Nat) (a : Act), (∀ r ∈ R, (opAt ops r).apart ops o = true) →
    BW P ops S val R a K → ∃ a1, K a1 ∧ execOp a1.eval o = execOp a.eval o ∧ ∀ v (K' : Act → Prop), K' (a1.put o.dst v) → BW P ops S val R (a.put o.dst v) K'
  | [], a, _, h => ⟨a, h, rfl, fun _ _ h' => h'⟩
  | r :: R, a, hap, h => by
    obtain ⟨h1, h2, h3⟩ := Oper.apart_spec (hap r (by simp))
    obtain ⟨hr, h⟩ := h
    obtain ⟨a1, hK, he, hp⟩ := BW.push hsel hso hg R _ (fun x hx => hap x (by simp [hx])) h
    refine ⟨a1, hK, he.trans (execOp_put _ hso a _ _ h1), fun v K' hK' => ⟨?_, ?_⟩⟩
    · exact hr.of_same (execOp_put _ (hsel r) a _ _ h3) (wanted_put _ a _ _ h3)
    · rw [← Act.put_comm a _ _ h2]
      exact hp v K' hK'

theorem bl_nil {a : Act} {K : Act → Prop} (h : K a) : BL P ops S [] a K := h
theorem bl_op {o : Oper} {r : List Oper} {a : Act} {K : Act → Prop} {v : Value} (hw : Region.wanted o (yielded ops a.tmps) = true)
    (h : ∀ w, S w → Gives P w v ((execOp a.eval o).run P w)) (hr : BL P ops S r (a.put o.dst v) K) : BL P ops S (o :: r) a K := ⟨v, .inl ⟨hw, h⟩, hr⟩
theorem bl_off {o : Oper} {r : List Oper} {a : Act} {K : Act → Prop} (hw : Region.wanted o (yielded ops a.tmps) = false)
    (hr : BL P ops S r (a.put o.dst undef) K) : BL P ops S (o :: r) a K := ⟨undef, .inr ⟨hw, rfl⟩, hr⟩
theorem bl_split {o : Oper} {r : List Oper} {a : Act} {K : Act → Prop} {x : Bool} {j : Nat} {b : Bool} (_hg : o.guard = some (j, b)) (_hy : yielded ops a.tmps j = some x)
    (ht : x = true → BL P ops S (o :: r) a K) (hf : x = false → BL P ops S (o :: r) a K) : BL P ops S (o :: r) a K := by
  cases x
  · exact hf rfl
  · exact ht rfl
def Wr (w0 : World) (g : Nat) (w : World) : Prop := w0.grownBy w (some g)
theorem Wr.stable (w0 : World) (g : Nat) : Stable (Wr w0 g) := fun _ _ h e =>
  ⟨e.os.trans h.os, e.tape.trans h.tape, e.output.trans h.output, Nat.le_trans h.size e.size, fun i hi hn => (e.block i (Nat.lt_of_lt_of_le hi h.size)).trans (h.block i hi hn)⟩
theorem Wr.refl (w0 : World) (g : Nat) : Wr w0 g w0 := World.grownBy.refl _ _
theorem Wr.cells {w0 w : World} {g : Nat} (h : Wr w0 g w) : (∀ b o, b < w0.heap.size → b ≠ g → w.cell? ⟨b, o, none⟩ = w0.cell? ⟨b, o, none⟩) ∧ (∀ b o, b < w0.heap.size → b ≠ g → w.frozen? ⟨b, o, none⟩ = w0.frozen? ⟨b, o, none⟩) ∧ w0.heap.size ≤ w.heap.size :=
  ⟨fun b o hb hn => World.cell?_of_block (h.block b hb (fun e => hn (by injection e))), fun b o hb hn => World.frozen?_of_block (h.block b hb (fun e => hn (by injection e))), h.size⟩
theorem Wr.set {w0 w : World} {g : Nat} (h : Wr w0 g w) {p : Addr} (hp : p.block = g) (u : Value) : Wr w0 g (w.setCell p u) :=
  ⟨h.os, h.tape, h.output, by simpa [World.setCell] using h.size, fun i hi hne => (Below.heap_setCell w p u i (fun e => hne (by rw [e, hp]))).trans (h.block i hi hne)⟩
theorem Wr.ext {w0 w wb : World} {g : Nat} (h : Wr w0 g w) (e : Ext wb w0) (hg : wb.heap.size ≤ g) : Ext wb w :=
  ⟨h.os.trans e.os, h.tape.trans e.tape, h.output.trans e.output, Nat.le_trans e.size h.size, fun i hi => (h.block i (Nat.lt_of_lt_of_le hi e.size) (fun x => by injection x; omega)).trans (e.block i hi)⟩
theorem Wr.pre {w0 : World} {g : Nat} {e : TypeId} {zs : Array Value} (h : Blk w0 g e zs) : (fun w => Wr w0 g w ∧ Blk w g e zs) w0.drew := ⟨Wr.stable _ _ _ _ (Wr.refl _ _) (Ext.drew (Ext.refl _)), h⟩
theorem gives_call {f : FuncId} {args : Array Value} {w' : World} {v : Value} (h : Calls P f args w' fun e w'' => e = .returned v ∧ Ext w' w'') : Gives P w' v (.ok (.enter f args) w') := h
end
end Go.Proofs.YtiladlangkjoiaaGreat

namespace Go.Proofs.YtiladlangkjoiaaGreat
open Go.RowKit

section
variable {P : Program} {ops : Array Oper} {Q : Exit → Act → World → Prop} {S : World → Prop}

def RunsTo (P : Program) (G : Value → World → Prop) : Result Next → Prop
  | .ok (.value u) w' => G u w'
  | .ok .skip w' => G undef w'
  | .ok (.enter f args) w' => Calls P f args w' fun e w'' => ∃ v, e = .returned v ∧ G v w''
  | _ => False
theorem RunsTo.upon {o : Oper} {a : Act} {G : Value → World → Prop} {r : Result Next} {K : Act → World → Prop} (h : RunsTo P G r) (hK : ∀ v w', G v w' → K (a.put o.dst v) w') : o.upon P a K Q r := by
  cases r with
  | ok n w' =>
    cases n <;> simp only [RunsTo, Oper.upon] at h ⊢
    case value u => exact hK _ _ h
    case skip => exact hK _ _ h
    case enter f args => exact h.mono fun e w'' ⟨v, he, hw⟩ => by subst he; exact hK _ _ hw
  | halt x w' => exact h.elim

def Eff (P : Program) (S : World → Prop) (o : Oper) (a : Act) (F : World → Prop) (K : Act → (World → Prop) → Prop) : Prop :=
  o.guard = none ∧ ∀ w, F w → RunsTo P (fun v w1 => ∃ F' : World → Prop, Stable F' ∧ (∀ w, F' w → S w) ∧ F' w1 ∧ K (a.put o.dst v) F') ((execOp a.eval o).run P w)
def TG (P : Program) (S : World → Prop) (Q : Exit → Act → World → Prop) : List Oper → Act → (World → Prop) → Prop
  | [], a, F => ∀ w, F w → Q .normal a w
  | o :: T, a, F => Eff P S o a F fun a' F' => TG P S Q T a' F'
def AG (P : Program) (ops : Array Oper) (S : World → Prop) (Q : Exit → Act → World → Prop) (T : List Oper) : Nat → List Nat → Act → (World → Prop) → Prop
  | 0, _, a, F => TG P S Q T a F
  | k + 1, L, a, F => ∀ j ∈ L, Eff P S (opAt ops j) a F fun a' F' => AG P ops S Q T k (L.erase j) a' F'

def deps (ops : Array Oper) (j r : Nat) : Bool := (opAt ops j).after.any fun e => Region.binds .any e && e.on == r
theorem deps_spec {j r : Nat} : deps ops j r = true ↔ ∃ e ∈ (opAt ops j).after, Region.binds .any e = true ∧ e.on = r := by
  unfold deps
  simp only [Array.any_eq_true, Bool.and_eq_true, beq_iff_eq]
  constructor
  · rintro ⟨i, hi, h1, h2⟩; exact ⟨_, Array.getElem_mem hi, h1, h2⟩
  · rintro ⟨e, he, h1, h2⟩
    obtain ⟨i, hi, rfl⟩ := Array.mem_iff_getElem.1 he
    exact ⟨i, hi, h1, h2⟩
def onlyOn (ops : Array Oper) (j : Nat) (p : Nat → Bool) : Bool := (opAt ops j).after.all fun e => !Region.binds .any e || p e.on
theorem onlyOn_spec {j : Nat} {p : Nat → Bool} (h : onlyOn ops j p = true) : ∀ e ∈ (opAt ops j).after, Region.binds .any e = true → p e.on = true := fun e he hb => by
  have h1 := (Array.all_eq_true_iff_forall_mem.1 h) e he
  simpa [hb] using h1

def tailsOk (ops : Array Oper) (Bd Al : List Nat) : List Nat → List Nat → Bool
  | _, [] => true
  | pre, j :: T => onlyOn ops j (fun r => Bd.contains r || Al.contains r || pre.contains r) && (Bd.all fun r => deps ops j r || (opAt ops r).apart ops (opAt ops j)) &&
      (match pre with | [] => Al.all (fun r => deps ops j r) | q :: _ => deps ops j q) && tailsOk ops Bd Al (j :: pre) T

def genOk (ops : Array Oper) (Bd Al Tl : List Nat) : Bool :=
  Region.noSelect ops && (decide ((Bd ++ Al ++ Tl).length = ops.size) && (List.range ops.size).all fun i => (Bd ++ Al ++ Tl).contains i) && (decide (Bd ++ Al ++ Tl).Nodup && (Bd ++ Al ++ Tl).all fun i => decide (i < ops.size)) && decide (Bd.Pairwise (· < ·)) &&
  (Bd.all fun j => onlyOn ops j (fun r => Bd.contains r && decide (r < j)) && (Bd.all fun r => !decide (r < j) || deps ops j r || (opAt ops r).apart ops (opAt ops j))) &&
  (Al.all fun j => onlyOn ops j (fun r => Bd.contains r) && (Bd.all fun r => deps ops j r || (opAt ops r).apart ops (opAt ops j))) && tailsOk ops Bd Al [] Tl

theorem BW.push' {val : Nat → Value} (hsel : ∀ i cs b, (opAt ops i).op ≠ .select cs b) {o : Oper} (hso : ∀ cs b, o.op ≠ .select cs b) {K : Act → Prop} : ∀ (R : List Nat) (a : Act), (∀ r ∈ R, (opAt ops r).apart ops o = true) →
    BW P ops S val R a K → ∃ a1, K a1 ∧ execOp a1.eval o = execOp a.eval o ∧ ∀ v (K' : Act → Prop), K' (a1.put o.dst v) → BW P ops S val R (a.put o.dst v) K'
  | [], a, _, h => ⟨a, h, rfl, fun _ _ h' => h'⟩
  | r :: R, a, hap, h => by
    obtain ⟨h1, h2, h3⟩ := Oper.apart_spec (hap r (by simp))
    obtain ⟨hr, h⟩ := h
    obtain ⟨a1, hK, he, hp⟩ := BW.push' hsel hso R _ (fun x hx => hap x (by simp [hx])) h
    refine ⟨a1, hK, he.trans (execOp_put _ hso a _ _ h1), fun v K' hK' => ⟨?_, ?_⟩⟩
    · exact hr.of_same (execOp_put _ (hsel r) a _ _ h3) (wanted_put _ a _ _ h3)
    · rw [← Act.put_comm a _ _ h2]
      exact hp v K' hK'

theorem tailsOk_spec {Bd Al : List Nat} : ∀ (Tl pre : List Nat), tailsOk ops Bd Al pre Tl = true → ∀ (T1 : List Nat) (j : Nat) (T2 : List Nat), Tl = T1 ++ j :: T2 →
    onlyOn ops j (fun r => Bd.contains r || Al.contains r || (T1.reverse ++ pre).contains r) = true ∧ (∀ r ∈ Bd, deps ops j r = true ∨ (opAt ops r).apart ops (opAt ops j) = true) ∧
    (match T1.reverse ++ pre with | [] => ∀ r ∈ Al, deps ops j r = true | q :: _ => deps ops j q = true)
  | [], _, _, T1, j, T2, e => by simp at e
  | i :: Tl, pre, h, [], j, T2, e => by
    simp only [List.nil_append, List.cons.injEq] at e
    obtain ⟨rfl, rfl⟩ := e
    simp only [tailsOk, Bool.and_eq_true, List.all_eq_true, Bool.or_eq_true] at h
    refine ⟨h.1.1.1, h.1.1.2, ?_⟩
    have h2 := h.1.2
    cases pre with
    | nil => simpa using h2
    | cons q r => simpa using h2
  | i :: Tl, pre, h, k :: T1, j, T2, e => by
    simp only [List.cons_append, List.cons.injEq] at e
    obtain ⟨rfl, rfl⟩ := e
    simp only [tailsOk, Bool.and_eq_true] at h
    have := tailsOk_spec (T1 ++ j :: T2) (i :: pre) h.2 T1 j T2 rfl
    simpa [List.reverse_cons, List.append_assoc] using this

theorem wpAny_gen {val : Nat → Value} {Bd Al Tl : List Nat} (hok : genOk ops Bd Al Tl = true) : ∀ (fuel : Nat) (R L T1 T : List Nat) (F : World → Prop) (listed : Array Bool) (a : Act) (w : World),
    fuel = R.length + L.length + T.length → Tl = T1 ++ T → (L ≠ [] → T1 = []) → listed.size = ops.size → (∀ i, listed.getD i true = false ↔ (i ∈ R ∨ i ∈ L ∨ i ∈ T)) →
    (∀ i ∈ R, i ∈ Bd) → R.Pairwise (· < ·) → (∀ i ∈ L, i ∈ Al) → L.Nodup → Stable F → (∀ w, F w → S w) → F w →
    BW P ops S val R a (fun a' => AG P ops S Q (T.map (opAt ops)) L.length L a' F) → wpAny P .any ops Q fuel listed a w := by
  simp only [genOk, Bool.and_eq_true, decide_eq_true_eq] at hok
  obtain ⟨⟨⟨⟨⟨⟨hns, hlen, hcov⟩, hnd, hbd⟩, hsort⟩, hB⟩, hA⟩, hT⟩ := hok
  have hsel' : ∀ (i : Nat) (o : Oper) (cs : Array SelectCase) (b : Bool), ops[i]? = some o → o.op ≠ .select cs b := fun i o cs b hi => Region.noSelect_spec hns i o cs b hi
  have hsel : ∀ i cs b, (opAt ops i).op ≠ .select cs b := fun i cs b => by
    unfold opAt
    rw [Array.getD_eq_getD_getElem?]
    cases hi : ops[i]? with
    | none => simp [default, instInhabitedOper.default, instInhabitedOp.default]
    | some o => exact hsel' i o cs b hi
  have hat : ∀ j o, ops[j]? = some o → opAt ops j = o := fun j o h => by simp [opAt, Array.getD_eq_getD_getElem?, h]
  have hlt : ∀ i, (i ∈ Bd ∨ i ∈ Al ∨ i ∈ Tl) → i < ops.size := fun i hi => by
    have := (List.all_eq_true.1 hbd) i (by simpa [or_assoc] using hi)
    simpa using this
  have dBA : ∀ i, i ∈ Bd → i ∈ Al → False := fun i h1 h2 => by
    rw [List.append_assoc, List.nodup_append] at hnd
    exact hnd.2.2 i h1 i (by simp [h2]) rfl
  have dBT : ∀ i, i ∈ Bd → i ∈ Tl → False := fun i h1 h2 => by
    rw [List.append_assoc, List.nodup_append] at hnd
    exact hnd.2.2 i h1 i (by simp [h2]) rfl
  have dAT : ∀ i, i ∈ Al → i ∈ Tl → False := fun i h1 h2 => by
    rw [List.nodup_append] at hnd
    exact hnd.2.2 i (by simp [h1]) i h2 rfl
  have ndT : Tl.Nodup := by rw [List.nodup_append] at hnd; exact hnd.2.1
  have hB' : ∀ j ∈ Bd, (∀ e ∈ (opAt ops j).after, Region.binds .any e = true → e.on ∈ Bd ∧ e.on < j) ∧ ∀ r ∈ Bd, r < j → deps ops j r = true ∨ (opAt ops r).apart ops (opAt ops j) = true := fun j hj => by
    have := (List.all_eq_true.1 hB) j hj
    simp only [Bool.and_eq_true] at this
    refine ⟨fun e he hb => by simpa using onlyOn_spec this.1 e he hb, fun r hr hrj => ?_⟩
    have h2 := (List.all_eq_true.1 this.2) r hr
    simpa [hrj] using h2
  have hA' : ∀ j ∈ Al, (∀ e ∈ (opAt ops j).after, Region.binds .any e = true → e.on ∈ Bd) ∧ ∀ r ∈ Bd, deps ops j r = true ∨ (opAt ops r).apart ops (opAt ops j) = true := fun j hj => by
    have := (List.all_eq_true.1 hA) j hj
    simp only [Bool.and_eq_true] at this
    refine ⟨fun e he hb => by simpa using onlyOn_spec this.1 e he hb, fun r hr => ?_⟩
    have h2 := (List.all_eq_true.1 this.2) r hr
    simpa using h2
  intro fuel
  induction fuel with
  | zero =>
    intro R L T1 T F listed a w hf hTl hLT hs hR hRB hp hLA hnL hFs hFe hF h
    obtain rfl : R = [] := List.eq_nil_of_length_eq_zero (by omega)
    obtain rfl : L = [] := List.eq_nil_of_length_eq_zero (by omega)
    obtain rfl : T = [] := List.eq_nil_of_length_eq_zero (by omega)
    refine ⟨?_, h w hF⟩
    rw [List.eq_nil_iff_forall_not_mem]
    intro j hj
    have := (hR j).1 (mem_ready.1 hj).1
    simp at this
  | succ fuel ih =>
    intro R L T1 T F listed a w hf hTl hLT hs hR hRB hp hLA hnL hFs hFe hF h
    have hTm : ∀ i ∈ T, i ∈ Tl := fun i hi => by rw [hTl]; simp [hi]
    have hndT : T.Nodup := by rw [hTl, List.nodup_append] at ndT; exact ndT.2.1
    have hdT : ∀ i ∈ T1, i ∈ T → False := fun i h1 h2 => by rw [hTl, List.nodup_append] at ndT; exact ndT.2.2 i h1 i h2 rfl
    have hun : ∀ i, (i ∈ R ∨ i ∈ L ∨ i ∈ T) → listed.getD i true = false := fun i hi => (hR i).2 hi
    have hall : ∀ i, (i ∈ R ∨ i ∈ L ∨ i ∈ T) → i < ops.size := fun i hi => hlt i (by
      rcases hi with h1 | h1 | h1
      · exact .inl (hRB i h1)
      · exact .inr (.inl (hLA i h1))
      · exact .inr (.inr (hTm i h1)))
    have hin : ∀ i, i < ops.size → ¬ (i ∈ R ∨ i ∈ L ∨ i ∈ T) → listed.getD i false = true := by
      intro i hi hne
      have h1 : listed.getD i true ≠ false := fun hx => hne ((hR i).1 hx)
      have hi' : i < listed.size := by omega
      simp [hi'] at h1 ⊢
      exact h1
    have hnotdep : ∀ j, j ∈ Region.ready .any ops listed → ∀ r, (r ∈ R ∨ r ∈ L ∨ r ∈ T) → deps ops j r = true → False := fun j hj r hr hd => by
      obtain ⟨hj0, o, ho, hdep⟩ := mem_ready.1 hj
      obtain ⟨e, he, hb, hon⟩ := deps_spec.1 hd
      rw [hat j o ho] at he
      have h1 := hdep e he hb
      have h2 := hun r hr
      rw [hon] at h1
      have : r < listed.size := by have := hall r hr; omega
      simp [this] at h1 h2
      rw [h2] at h1; cases h1
    refine ⟨fun h0 => ?_, fun j hj => ?_⟩
    · exfalso
      have rdy : ∀ i, (i ∈ R ∨ i ∈ L ∨ i ∈ T) → (∀ e ∈ (opAt ops i).after, Region.binds .any e = true → ¬ (e.on ∈ R ∨ e.on ∈ L ∨ e.on ∈ T) ∧ e.on < ops.size) → False := fun i hi hd => by
        have hil := hall i hi
        have : i ∈ Region.ready .any ops listed := mem_ready.2 ⟨hun i hi, opAt ops i, by simp [opAt, Array.getD_eq_getD_getElem?, Array.getElem?_eq_getElem hil], fun e he hb => hin _ (hd e he hb).2 (hd e he hb).1⟩
        rw [h0] at this
        cases this
      match R, L, T, hf with
      | i :: R', L, T, _ =>
        refine rdy i (by simp) fun e he hb => ?_
        obtain ⟨h1, h2⟩ := (hB' i (hRB i (by simp))).1 e he hb
        refine ⟨?_, hlt _ (.inl h1)⟩
        rintro (h3 | h3 | h3)
        · rcases List.mem_cons.1 h3 with h4 | h4
          · omega
          · have := (List.pairwise_cons.1 hp).1 _ h4; omega
        · exact dBA _ h1 (hLA _ h3)
        · exact dBT _ h1 (hTm _ h3)
      | [], i :: L', T, _ =>
        refine rdy i (by simp) fun e he hb => ?_
        have h1 := (hA' i (hLA i (by simp))).1 e he hb
        refine ⟨?_, hlt _ (.inl h1)⟩
        rintro (h3 | h3 | h3)
        · cases h3
        · exact dBA _ h1 (hLA _ h3)
        · exact dBT _ h1 (hTm _ h3)
      | [], [], i :: T', _ =>
        obtain ⟨h1, _, _⟩ := tailsOk_spec Tl [] hT T1 i T' hTl
        refine rdy i (by simp) fun e he hb => ?_
        have h2 := onlyOn_spec h1 e he hb
        simp only [List.append_nil, Bool.or_eq_true, List.contains_iff_mem, List.mem_reverse] at h2
        refine ⟨?_, hlt _ ?_⟩
        · rintro (h3 | h3 | h3)
          · cases h3
          · cases h3
          · rcases h2 with (h2 | h2) | h2
            · exact dBT _ h2 (hTm _ h3)
            · exact dAT _ h2 (hTm _ h3)
            · exact hdT _ h2 h3
        · rcases h2 with (h2 | h2) | h2
          · exact .inl h2
          · exact .inr (.inl h2)
          · exact .inr (.inr (by rw [hTl]; simp [h2]))
    · have hjm : j ∈ R ∨ j ∈ L ∨ j ∈ T := (hR j).1 (mem_ready.1 hj).1
      obtain ⟨hj0, o, ho, hdep⟩ := mem_ready.1 hj
      have hjl := hall j hjm
      have hoj := hat j o ho
      rcases hjm with hjR | hjL | hjT
      · obtain ⟨R1, R2, rfl⟩ := List.append_of_mem hjR
        have hap : ∀ r ∈ R1, (opAt ops r).apart ops (opAt ops j) = true := by
          intro r hr
          have hrj : r < j := (List.pairwise_append.1 hp).2.2 r hr j (by simp)
          rcases (hB' j (hRB j (by simp))).2 r (hRB r (by simp [hr])) hrj with hd | h1
          · exact (hnotdep j hj r (.inl (by simp [hr])) hd).elim
          · exact h1
        obtain ⟨hyj, hrest⟩ := BW.remove hsel R1 a hap h
        rw [hoj] at hyj hrest
        have fin : ∀ w', F w' → wpAny P .any ops Q fuel (listed.setIfInBounds j true) (a.put o.dst (val j)) w' := by
          intro w' hw'
          refine ih (R1 ++ R2) L T1 T F _ _ w' (by simp at hf ⊢; omega) hTl hLT (by simpa using hs) ?_ (fun i hi => hRB i (by simp at hi ⊢; rcases hi with h1 | h1 <;> simp [h1])) ?_ hLA hnL hFs hFe hw' hrest
          · intro i
            by_cases hij : j = i
            · subst hij
              have hn : j ∉ R1 ++ R2 := by
                have h1 := List.pairwise_append.1 hp
                have h2 := List.pairwise_cons.1 h1.2.1
                intro hm
                rcases List.mem_append.1 hm with h3 | h3
                · have := h1.2.2 j h3 j (by simp); omega
                · have := h2.1 j h3; omega
              have hjB := hRB j (by simp)
              have hjs : j < listed.size := by omega
              constructor
              · intro hx; simp [hjs] at hx
              · rintro (h1 | h1 | h1)
                · exact absurd h1 hn
                · exact (dBA j hjB (hLA j h1)).elim
                · exact (dBT j hjB (hTm j h1)).elim
            · rw [getD_set_ne true hij, hR i]
              simp [List.mem_append, List.mem_cons, Ne.symm hij]
          · have h1 := List.pairwise_append.1 hp
            have h2 := List.pairwise_cons.1 h1.2.1
            exact List.pairwise_append.2 ⟨h1.1, h2.2, fun x hx y hy => h1.2.2 x hx y (by simp [hy])⟩
        unfold wpOp
        simp only [ho]
        rcases hyj with ⟨hwd, hv⟩ | ⟨hwd, hu⟩
        · simp only [hwd, if_true]
          refine .inl ?_
          have hg := hv w (hFe _ hF)
          exact hg.upon fun w' hw' => fin w' (hFs _ _ hF hw')
        · simp only [hwd, Bool.false_eq_true, if_false]
          rw [hu] at fin
          exact fin w hF
      · -- an allocation
        have hap : ∀ r ∈ R, (opAt ops r).apart ops o = true := by
          intro r hr
          rcases (hA' j (hLA j hjL)).2 r (hRB r hr) with hd | h1
          · exact (hnotdep j hj r (.inl hr) hd).elim
          · rw [hoj] at h1; exact h1
        obtain ⟨a1, hK, he, hp'⟩ := BW.push' hsel (fun cs b => hsel' j o cs b ho) R a hap h
        obtain ⟨k, hk⟩ : ∃ k, L.length = k + 1 := ⟨L.length - 1, by have := List.length_pos_of_mem hjL; omega⟩
        rw [hk] at hK
        obtain ⟨hg, hrun⟩ := hK j hjL
        rw [hoj] at hg hrun
        have hwd : Region.wanted o (yielded ops a.tmps) = true := by simp [Region.wanted, hg]
        unfold wpOp
        simp only [ho, hwd, if_true]
        refine .inl ?_
        unfold Oper.wp
        rw [← he]
        refine (hrun w hF).upon fun v w1 ⟨F', hs', he', hF1, hK1⟩ => ?_
        have hle : (L.erase j).length = k := by rw [List.length_erase_of_mem hjL]; omega
        refine ih R (L.erase j) T1 T F' _ _ w1 (by omega) hTl (fun hne => hLT (fun e => by rw [e] at hjL; cases hjL)) (by simpa using hs) ?_ hRB hp (fun i hi => hLA i (List.mem_of_mem_erase hi)) (hnL.erase j) hs' he' hF1 (hp' v _ (by rw [hle]; exact hK1))
        intro i
        by_cases hij : j = i
        · subst hij
          have hjs : j < listed.size := by omega
          constructor
          · intro hx; simp [hjs] at hx
          · rintro (h1 | h1 | h1)
            · exact (dBA j (hRB j h1) (hLA j hjL)).elim
            · exact absurd h1 (List.Nodup.not_mem_erase hnL)
            · exact (dAT j (hLA j hjL) (hTm j h1)).elim
        · rw [getD_set_ne true hij, hR i, hnL.mem_erase_iff]
          simp [Ne.symm hij]
      · -- the first of the tail
        match T, hjT with
        | i :: T', hjT =>
          have hjm' : j = i := by
            rcases List.mem_cons.1 hjT with h1 | h1
            · exact h1
            · exfalso
              obtain ⟨X, Y, rfl⟩ := List.append_of_mem h1
              obtain ⟨_, _, h3⟩ := tailsOk_spec Tl [] hT (T1 ++ i :: X) j Y (by rw [hTl]; simp)
              simp only [List.append_nil, List.reverse_append, List.reverse_cons, List.append_assoc] at h3
              rcases List.eq_nil_or_concat X with hX | ⟨X', q, hX⟩
              · subst hX
                exact hnotdep j hj i (.inr (.inr (by simp))) (by simpa using h3)
              · rw [hX] at h3
                exact hnotdep j hj q (.inr (.inr (by rw [hX]; simp))) (by simpa using h3)
          subst hjm'
          obtain ⟨_, h2, h3⟩ := tailsOk_spec Tl [] hT T1 j T' hTl
          have hL0 : L = [] := by
            cases L with
            | nil => rfl
            | cons q L' =>
              obtain rfl : T1 = [] := hLT (by simp)
              simp only [List.reverse_nil, List.append_nil] at h3
              exact (hnotdep j hj q (.inr (.inl (by simp))) (h3 q (hLA q (by simp)))).elim
          subst hL0
          have hap : ∀ r ∈ R, (opAt ops r).apart ops o = true := by
            intro r hr
            rcases h2 r (hRB r hr) with hd | h1
            · exact (hnotdep j hj r (.inl hr) hd).elim
            · rw [hoj] at h1; exact h1
          obtain ⟨a1, hK, he, hp'⟩ := BW.push' hsel (fun cs b => hsel' j o cs b ho) R a hap h
          simp only [List.length_nil, List.map_cons, AG, TG] at hK
          obtain ⟨hg, hrun⟩ := hK
          rw [hoj] at hg hrun
          have hwd : Region.wanted o (yielded ops a.tmps) = true := by simp [Region.wanted, hg]
          unfold wpOp
          simp only [ho, hwd, if_true]
          refine .inl ?_
          unfold Oper.wp
          rw [← he]
          refine (hrun w hF).upon fun v w1 ⟨F', hs', he', hF1, hK1⟩ => ?_
          refine ih R [] (T1 ++ [j]) T' F' _ _ w1 (by simp at hf ⊢; omega) (by rw [hTl]; simp) (fun hne => absurd rfl hne) (by simpa using hs) ?_ hRB hp (fun i hi => by cases hi) (by simp) hs' he' hF1 (hp' v _ hK1)
          intro i
          by_cases hij : j = i
          · subst hij
            have hjs : j < listed.size := by omega
            constructor
            · intro hx; simp [hjs] at hx
            · rintro (h1 | h1 | h1)
              · exact (dBT j (hRB j h1) (hTm j (by simp))).elim
              · cases h1
              · exact absurd h1 (List.nodup_cons.1 hndT).1
          · rw [getD_set_ne true hij, hR i]
            simp [Ne.symm hij]

def pick (l : List Oper) : List Nat → List Oper
  | [] => []
  | i :: r => match l.drop i with
    | o :: _ => o :: pick l r
    | [] => default :: pick l r
theorem pick_eq (l : List Oper) : ∀ R : List Nat, pick l R = R.map (opAt l.toArray)
  | [] => rfl
  | i :: r => by
    have : opAt l.toArray i = (match l.drop i with | o :: _ => o | [] => default) := by
      unfold opAt
      rw [Array.getD_eq_getD_getElem?, List.getElem?_toArray, ← List.head?_drop]
      cases l.drop i <;> rfl
    rw [pick, List.map_cons, this]
    cases h : l.drop i <;> simp only [pick_eq l r]

theorem BL.bwR {K : Act → Prop} : ∀ (R : List Nat) (a : Act), R.Nodup → BL P ops S (R.map (opAt ops)) a K → ∃ val : Nat → Value, BW P ops S val R a K
  | [], _, _, h => ⟨fun _ => undef, h⟩
  | n :: R, a, hn, h => by
    obtain ⟨v, hy, h⟩ := h
    obtain ⟨h1, h2⟩ := List.nodup_cons.1 hn
    obtain ⟨val, hv⟩ := BL.bwR R _ h2 h
    refine ⟨fun i => if i = n then v else val i, ?_⟩
    simp only [BW, if_true]
    refine ⟨hy, ?_⟩
    have congr : ∀ (R : List Nat) (a : Act), (∀ r ∈ R, r ≠ n) → BW P ops S val R a K → BW P ops S (fun i => if i = n then v else val i) R a K := by
      intro R
      induction R with
      | nil => intro a _ h; exact h
      | cons r R ih =>
        intro a hr h
        simp only [BW, if_neg (hr r (by simp))] at h ⊢
        exact ⟨h.1, ih _ (fun x hx => hr x (by simp [hx])) h.2⟩
    exact congr _ _ (fun r hr e => h1 (e ▸ hr)) hv

theorem wp_region_gen {id : Nat} {l : List Oper} (Bd Al Tl : List Nat) (S F : World → Prop) {a : Act} {w : World} (hst : Stable F) (hFS : ∀ w, F w → S w) (hS : F w.drew) (hm : P.follows .mixedOrders = true) (hok : genOk l.toArray Bd Al Tl = true)
    (h : BL P l.toArray S (pick l Bd) a (fun a' => AG P l.toArray S Q (pick l Tl) Al.length Al a' F)) : (Code.region id l.toArray true).wp P Q a w := by
  rw [pick_eq, pick_eq] at h
  have hok' := hok
  simp only [genOk, Bool.and_eq_true, decide_eq_true_eq] at hok'
  obtain ⟨⟨⟨⟨⟨⟨hns, hlen, hcov⟩, hnd, hbd⟩, hsort⟩, hB⟩, hA⟩, hT⟩ := hok'
  have n1 : Bd.Nodup := by rw [List.append_assoc, List.nodup_append] at hnd; exact hnd.1
  have n2 : Al.Nodup := by rw [List.nodup_append, List.nodup_append] at hnd; exact hnd.1.2.1
  obtain ⟨val, hv⟩ := BL.bwR Bd a n1 h
  refine wp_region_any hm ?_
  refine wpAny_gen (S := S) hok _ Bd Al [] Tl F _ _ _ ?_ rfl (fun _ => rfl) (by simp) (fun i => ?_) (fun i hi => hi) hsort (fun i hi => hi) n2 hst hFS hS hv
  · simp only [List.length_append] at hlen; omega
  · have hperm : ∀ i, i < l.length → i ∈ Bd ∨ i ∈ Al ∨ i ∈ Tl := by
      intro i hi
      have := (List.all_eq_true.1 hcov) i (by simpa using hi)
      simpa [or_assoc] using this
    rcases Nat.lt_or_ge i l.length with hi | hi
    · simp [hi, hperm i hi]
    · have : ¬ (i ∈ Bd ∨ i ∈ Al ∨ i ∈ Tl) := fun h => by
        have := (List.all_eq_true.1 hbd) i (by simpa [or_assoc] using h)
        have h2 := of_decide_eq_true this
        rw [List.size_toArray] at h2; omega
      simp only [this, iff_false]
      rw [Array.getD_eq_getD_getElem?, Array.getElem?_eq_none (by rw [Array.size_replicate, List.size_toArray]; exact hi)]
      simp

theorem tg_nil {a : Act} {F : World → Prop} (h : ∀ w, F w → Q .normal a w) : TG P S Q [] a F := h
theorem tg_val {o : Oper} {T : List Oper} {a : Act} {F : World → Prop} {v : Value} (hg : o.guard = none) (hF : Stable F) (hFS : ∀ w, F w → S w) (hrun : ∀ w, F w → (execOp a.eval o).run P w = .ok (.value v) w)
    (h : TG P S Q T (a.put o.dst v) F) : TG P S Q (o :: T) a F :=
  ⟨hg, fun w hw => by rw [hrun w hw]; exact ⟨F, hF, hFS, hw, h⟩⟩
theorem tg_skip {o : Oper} {T : List Oper} {a : Act} {F : World → Prop} (F' : World → Prop) (hg : o.guard = none) (hd : o.dst = none) (hF : Stable F') (hFS : ∀ w, F' w → S w)
    (hrun : ∀ w, F w → ∃ w1, (execOp a.eval o).run P w = .ok .skip w1 ∧ F' w1) (h : TG P S Q T a F') : TG P S Q (o :: T) a F :=
  ⟨hg, fun w hw => by
    obtain ⟨w1, h1, h2⟩ := hrun w hw
    rw [h1]
    exact ⟨F', hF, hFS, h2, by rw [hd]; exact h⟩⟩
theorem ag_two {w0 : World} {F : World → Prop} {j1 j2 : Nat} {T : List Oper} {a : Act} {e1 e2 : TypeId} {zs1 zs2 : Array Value} (hF : Stable F) (hFS : ∀ w, F w → Ext w0 w) (hne : j1 ≠ j2)
    (hg1 : (opAt ops j1).guard = none) (hg2 : (opAt ops j2).guard = none)
    (hd : ∀ u v, (a.put (opAt ops j2).dst v).put (opAt ops j1).dst u = (a.put (opAt ops j1).dst u).put (opAt ops j2).dst v)
    (hrun1 : ∀ (v : Value) w, (execOp a.eval (opAt ops j1)).run P w = .ok (.value (.pointer (some ⟨w.heap.size, 0, none⟩))) (w.alloc (.cells zs1 e1)) ∧ (execOp (a.put (opAt ops j2).dst v).eval (opAt ops j1)).run P w = .ok (.value (.pointer (some ⟨w.heap.size, 0, none⟩))) (w.alloc (.cells zs1 e1)))
    (hrun2 : ∀ (v : Value) w, (execOp a.eval (opAt ops j2)).run P w = .ok (.value (.pointer (some ⟨w.heap.size, 0, none⟩))) (w.alloc (.cells zs2 e2)) ∧ (execOp (a.put (opAt ops j1).dst v).eval (opAt ops j2)).run P w = .ok (.value (.pointer (some ⟨w.heap.size, 0, none⟩))) (w.alloc (.cells zs2 e2)))
    (h : ∀ b1 b2, w0.heap.size ≤ b1 → w0.heap.size ≤ b2 → b1 ≠ b2 → TG P (Ext w0) Q T ((a.put (opAt ops j1).dst (.pointer (some ⟨b1, 0, none⟩))).put (opAt ops j2).dst (.pointer (some ⟨b2, 0, none⟩))) fun w => F w ∧ Blk w b1 e1 zs1 ∧ Blk w b2 e2 zs2) :
    AG P ops (Ext w0) Q T 2 [j1, j2] a F := by
  have two : ∀ (F : World → Prop) (e : TypeId) (zs : Array Value) (b : Nat), Stable F → Stable fun w => F w ∧ Blk w b e zs := fun F e zs b hF => hF.and (Stable.blk b e zs)
  intro j hj
  simp only [List.mem_cons, List.not_mem_nil, or_false] at hj
  rcases hj with rfl | rfl
  · refine ⟨hg1, fun w hw => ?_⟩
    rw [(hrun1 undef w).1]
    refine ⟨_, two F e1 zs1 w.heap.size hF, fun w h => hFS w h.1, ⟨hF _ _ hw (Ext.alloc0 _ _), Blk.new w e1 zs1⟩, ?_⟩
    intro j' hj'
    simp only [List.erase_cons_head, List.mem_cons, List.not_mem_nil, or_false] at hj'
    subst hj'
    refine ⟨hg2, fun w2 hw2 => ?_⟩
    rw [(hrun2 _ w2).2]
    have hlt := hw2.2.lt
    refine ⟨_, hF.and ((Stable.blk w.heap.size e1 zs1).and (Stable.blk w2.heap.size e2 zs2)), fun w h => hFS w h.1, ⟨hF _ _ hw2.1 (Ext.alloc0 _ _), hw2.2.ext (Ext.alloc0 _ _), Blk.new w2 e2 zs2⟩, h _ _ (hFS _ hw).size (hFS _ hw2.1).size (by omega)⟩
  · refine ⟨hg2, fun w hw => ?_⟩
    rw [(hrun2 undef w).1]
    refine ⟨_, two F e2 zs2 w.heap.size hF, fun w h => hFS w h.1, ⟨hF _ _ hw (Ext.alloc0 _ _), Blk.new w e2 zs2⟩, ?_⟩
    intro j' hj'
    have he : [j1, j].erase j = [j1] := by rw [List.erase_cons_tail (by simpa using hne)]; simp
    rw [he] at hj'
    simp only [List.mem_cons, List.not_mem_nil, or_false] at hj'
    subst hj'
    refine ⟨hg1, fun w2 hw2 => ?_⟩
    rw [(hrun1 _ w2).2]
    have hlt := hw2.2.lt
    refine ⟨_, hF.and ((Stable.blk w2.heap.size e1 zs1).and (Stable.blk w.heap.size e2 zs2)), fun w h => hFS w h.1, ⟨hF _ _ hw2.1 (Ext.alloc0 _ _), Blk.new w2 e1 zs1, hw2.2.ext (Ext.alloc0 _ _)⟩, ?_⟩
    have := h w2.heap.size w.heap.size (hFS _ hw2.1).size (hFS _ hw).size (by omega)
    rw [hd]
    exact this
end
end Go.Proofs.YtiladlangkjoiaaGreat
