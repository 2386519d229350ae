/- A region that draws its order, all of whose operations yield a fixed value in every world that extends the first one, may be walked in the order of the text. No condition. -/
import Derived.Test.YtfniicgoeljmdaaRootLaw
import Derived.OrdersHeld
namespace Go.Proofs.Ytfniicgoeljmdaa
open Go.RowKit

def Gives (P : Program) (w0 : World) (v : Value) : Result Next → Prop
  | .ok (.value u) w' => u = v ∧ Ext w0 w'
  | .ok .skip w' => v = undef ∧ Ext w0 w'
  | .ok (.enter f args) w' => Calls P f args w' fun e w'' => e = .returned v ∧ Ext w0 w''
  | _ => False

def Stable (F : World → Prop) : Prop := ∀ w w', F w → Ext w w' → F w'
theorem Stable.ext (w0 : World) : Stable (Ext w0) := fun _ _ h k => h.trans k
theorem Stable.and {F G : World → Prop} (h : Stable F) (k : Stable G) : Stable fun w => F w ∧ G w := fun _ _ f e => ⟨h _ _ f.1 e, k _ _ f.2 e⟩

section
variable {P : Program} {ops : Array Oper} {Q : Exit → Act → World → Prop} {S : World → Prop}

theorem Gives.upon {w0 : World} {o : Oper} {a : Act} {v : Value} {r : Result Next} {K : Act → World → Prop} (h : Gives P w0 v r) (hK : ∀ w', Ext w0 w' → K (a.put o.dst v) w') : o.upon P a K Q r := by
  cases r with
  | ok n w' =>
    cases n <;> simp only [Gives, Oper.upon] at h ⊢
    case value u => obtain ⟨rfl, h⟩ := h; exact hK _ h
    case skip => obtain ⟨rfl, h⟩ := h; exact hK _ h
    case enter f args => exact h.mono fun e w'' ⟨he, hw⟩ => by subst he; exact hK _ hw
  | halt x w' => exact h.elim

def Yl (P : Program) (ops : Array Oper) (S : World → Prop) (o : Oper) (v : Value) (a : Act) : Prop :=
  (Region.wanted o (yielded ops a.tmps) = true ∧ ∀ w, S w → Gives P w v ((execOp a.eval o).run P w)) ∨ (Region.wanted o (yielded ops a.tmps) = false ∧ v = undef)

theorem Yl.wpOp {i : Nat} {o : Oper} {v : Value} {a : Act} (hi : ops[i]? = some o) (hy : Yl P ops S o v a)
    {K : Act → World → Prop} {w : World} (hst : Stable S) (hS : S w) (h : ∀ w', S w' → K (a.put o.dst v) w') : wpOp P ops Q i K a w := by
  unfold Go.wpOp
  simp only [hi]
  rcases hy with ⟨hw, hv⟩ | ⟨hw, rfl⟩
  · simp only [hw, if_true]; exact .inl ((hv w hS).upon fun w' e => h w' (hst _ _ hS e))
  · simp only [hw, Bool.false_eq_true, if_false]; exact h _ hS

theorem Yl.of_same {o : Oper} {v : Value} {a a' : Act} (hy : Yl P ops S o v a) (he : execOp a'.eval o = execOp a.eval o)
    (hw : Region.wanted o (yielded ops a'.tmps) = Region.wanted o (yielded ops a.tmps)) : Yl P ops S o v a' := by
  unfold Yl at *
  rw [he, hw]
  exact hy

def opAt (ops : Array Oper) (i : Nat) : Oper := ops.getD i default

def BW (P : Program) (ops : Array Oper) (S : World → Prop) (val : Nat → Value) : List Nat → Act → (Act → Prop) → Prop
  | [], a, K => K a
  | i :: r, a, K => Yl P ops S (opAt ops i) (val i) a ∧ BW P ops S val r (a.put (opAt ops i).dst (val i)) K

theorem BW.remove {val : Nat → Value} (hsel : ∀ i cs b, (opAt ops i).op ≠ .select cs b) {K : Act → Prop} {j : Nat} {R2 : List Nat} : ∀ (R1 : List Nat) (a : Act), (∀ r ∈ R1, (opAt ops r).apart ops (opAt ops j) = true) →
    BW P ops S val (R1 ++ j :: R2) a K → Yl P ops S (opAt ops j) (val j) a ∧ BW P ops S val (R1 ++ R2) (a.put (opAt ops j).dst (val j)) K
  | [], _, _, h => h
  | r :: R1, a, hap, h => by
    obtain ⟨hr, h⟩ := h
    obtain ⟨h1, h2, h3⟩ := Oper.apart_spec (hap r (by simp))
    obtain ⟨hj, h⟩ := BW.remove hsel R1 _ (fun x hx => hap x (by simp [hx])) h
    refine ⟨hj.of_same (execOp_put _ (hsel j) a _ _ h1).symm (wanted_put _ a _ _ h1).symm, ?_, ?_⟩
    · exact hr.of_same (execOp_put _ (hsel r) a _ _ h3) (wanted_put _ a _ _ h3)
    · rw [← Act.put_comm a _ _ h2]
      exact h

def textOk (ops : Array Oper) : Bool :=
  Region.noSelect ops && (List.range ops.size).all fun j =>
    (opAt ops j).after.all (fun e => !Region.binds .any e || decide (e.on < j)) &&
    (List.range j).all fun r => ((opAt ops j).after.any fun e => Region.binds .any e && e.on == r) || (opAt ops r).apart ops (opAt ops j)

theorem wpAny_text (hst : Stable S) {val : Nat → Value} (hok : textOk ops = true) : ∀ (R : List Nat) (fuel : Nat) (listed : Array Bool) (a : Act) (w : World), fuel = R.length → listed.size = ops.size →
    (∀ i, listed.getD i true = false ↔ i ∈ R) → R.Pairwise (· < ·) → S w → BW P ops S val R a (fun a' => ∀ w', S w' → Q .normal a' w') → wpAny P .any ops Q fuel listed a w := by
  simp only [textOk, Bool.and_eq_true] at hok
  obtain ⟨hns, hall⟩ := hok
  have hsel : ∀ i cs b, (opAt ops i).op ≠ .select cs b := fun i cs b => by
    unfold opAt
    rw [Array.getD_eq_getD_getElem?]
    cases hi : ops[i]? with
    | none => simp [default, instInhabitedOper.default, instInhabitedOp.default]
    | some o => exact Region.noSelect_spec hns i o cs b hi
  have hat : ∀ j o, ops[j]? = some o → opAt ops j = o := fun j o h => by simp [opAt, Array.getD_eq_getD_getElem?, h]
  have hlt : ∀ (listed : Array Bool) j, listed.size = ops.size → listed.getD j true = false → j < ops.size := fun listed j hs h => by
    rcases Nat.lt_or_ge j listed.size with h' | h'
    · omega
    · simp [Array.getElem?_eq_none h'] at h
  have hchk : ∀ j, j < ops.size → (∀ e ∈ (opAt ops j).after, Region.binds .any e = true → e.on < j) ∧ ∀ r, r < j → (∃ e ∈ (opAt ops j).after, Region.binds .any e = true ∧ e.on = r) ∨ (opAt ops r).apart ops (opAt ops j) = true := by
    intro j hj
    have := (List.all_eq_true.1 hall) j (List.mem_range.2 hj)
    simp only [Bool.and_eq_true] at this
    refine ⟨fun e he hb => ?_, fun r hr => ?_⟩
    · have h1 := (Array.all_eq_true_iff_forall_mem.1 this.1) e he
      simpa [hb] using h1
    · have h2 := (List.all_eq_true.1 this.2) r (List.mem_range.2 hr)
      simp only [Bool.or_eq_true, Array.any_eq_true] at h2
      rcases h2 with ⟨k, hk, h2⟩ | h2
      · simp only [Bool.and_eq_true, beq_iff_eq] at h2
        exact .inl ⟨_, Array.getElem_mem hk, h2.1, h2.2⟩
      · exact .inr h2
  intro R fuel
  induction fuel generalizing R with
  | zero =>
    intro listed a w hf hs hR hp hS h
    have hR0 : R = [] := List.eq_nil_of_length_eq_zero hf.symm
    subst hR0
    refine ⟨?_, h w hS⟩
    rw [List.eq_nil_iff_forall_not_mem]
    intro j hj
    exact absurd ((hR j).1 (mem_ready.1 hj).1) (by simp)
  | succ fuel ih =>
    intro listed a w hf hs hR hp hS h
    have hready : ∀ j, j ∈ Region.ready .any ops listed → j ∈ R := fun j hj => (hR j).1 (mem_ready.1 hj).1
    refine ⟨fun h0 => ?_, fun j hj => ?_⟩
    · -- the first of R may come up
      match R, hf with
      | i :: R', _ =>
        have hi : listed.getD i true = false := (hR i).2 (by simp)
        have hil := hlt _ _ hs hi
        have : i ∈ Region.ready .any ops listed := by
          refine mem_ready.2 ⟨hi, opAt ops i, by simp [opAt, Array.getD_eq_getD_getElem?, Array.getElem?_eq_getElem hil], fun e he hb => ?_⟩
          have hlt' := (hchk i hil).1 e he hb
          cases hx : listed.getD e.on true with
          | false =>
            have hm := (hR e.on).1 hx
            rcases List.mem_cons.1 hm with h1 | h1
            · omega
            · have := (List.pairwise_cons.1 hp).1 _ h1; omega
          | true =>
            have hb' : e.on < listed.size := by omega
            simpa [hb'] using hx
        rw [h0] at this
        cases this
    · have hjR := hready j hj
      obtain ⟨hj0, o, ho, hdep⟩ := mem_ready.1 hj
      have hjl := hlt _ _ hs hj0
      have hoj := hat j o ho
      obtain ⟨R1, R2, rfl⟩ := List.append_of_mem hjR
      have hap : ∀ r ∈ R1, (opAt ops r).apart ops (opAt ops j) = true := by
        intro r hr
        have hrj : r < j := by
          have := List.pairwise_append.1 hp
          exact this.2.2 r hr j (by simp)
        rcases (hchk j hjl).2 r hrj with ⟨e, he, hb, hon⟩ | h1
        · have h1 := hdep e (hoj ▸ he) hb
          have h2 : listed.getD r true = false := (hR r).2 (by simp [hr])
          rw [hon] at h1
          have hrl := hlt _ _ hs h2
          have : r < listed.size := by omega
          simp [this] at h1 h2
          rw [h2] at h1; cases h1
        · exact h1
      obtain ⟨hyj, hrest⟩ := BW.remove hsel R1 a hap h
      rw [hoj] at hyj hrest
      refine hyj.wpOp ho hst hS fun w' hw' => ?_
      refine ih (R1 ++ R2) _ _ w' (by simp at hf ⊢; omega) (by simpa using hs) ?_ ?_ hw' hrest
      · intro i
        by_cases hij : j = i
        · subst hij
          have hn : j ∉ R1 ++ R2 := by
            have := List.pairwise_append.1 hp
            have h2 := List.pairwise_cons.1 this.2.1
            intro hm
            rcases List.mem_append.1 hm with h1 | h1
            · have := this.2.2 j h1 j (by simp); omega
            · have := h2.1 j h1; omega
          simp only [hn, iff_false]
          have : j < listed.size := by omega
          simp [this]
        · rw [getD_set_ne true hij, hR i]
          simp [List.mem_append, List.mem_cons, Ne.symm hij]
      · have h1 := List.pairwise_append.1 hp
        have h2 := List.pairwise_cons.1 h1.2.1
        exact List.pairwise_append.2 ⟨h1.1, h2.2, fun x hx y hy => h1.2.2 x hx y (by simp [hy])⟩

def BL (P : Program) (ops : Array Oper) (S : World → Prop) : List Oper → Act → (Act → Prop) → Prop
  | [], a, K => K a
  | o :: r, a, K => ∃ v, Yl P ops S o v a ∧ BL P ops S r (a.put o.dst v) K

theorem BL.bw {K : Act → Prop} : ∀ (l : List Oper) (n : Nat) (a : Act), (∀ j, l[j]? = ops[n + j]?) → n + l.length = ops.size → BL P ops S l a K → ∃ val : Nat → Value, BW P ops S val (List.range' n l.length) a K
  | [], _, _, _, _, h => ⟨fun _ => undef, h⟩
  | o :: l, n, a, hl, hn, h => by
    obtain ⟨v, hy, h⟩ := h
    obtain ⟨val, hv⟩ := BL.bw l (n + 1) _ (fun j => by have := hl (j + 1); simpa [Nat.add_assoc, Nat.add_comm 1 j] using this) (by simp at hn ⊢; omega) h
    have h0 : ops[n]? = some o := by simpa using (hl 0).symm
    have ho : opAt ops n = o := by simp [opAt, Array.getD_eq_getD_getElem?, h0]
    refine ⟨fun i => if i = n then v else val i, ?_⟩
    simp only [List.length_cons, List.range'_succ, BW, ho, if_true]
    refine ⟨hy, ?_⟩
    have congr : ∀ (R : List Nat) (a : Act), (∀ r ∈ R, n < r) → BW P ops S val R a K → BW P ops S (fun i => if i = n then v else val i) R a K := by
      intro R
      induction R with
      | nil => intro a _ h; exact h
      | cons r R ih =>
        intro a hr h
        have hne : r ≠ n := by have := hr r (by simp); omega
        simp only [BW, if_neg hne] at h ⊢
        exact ⟨h.1, ih _ (fun x hx => hr x (by simp [hx])) h.2⟩
    exact congr _ _ (fun r hr => by rw [List.mem_range'] at hr; obtain ⟨i, _, rfl⟩ := hr; omega) hv

theorem BL.bw2 {K : Act → Prop} : ∀ (l : List Oper) (n : Nat) (a : Act), (∀ j, j < l.length → l[j]? = ops[n + j]?) → BL P ops S l a K → ∃ val : Nat → Value, BW P ops S val (List.range' n l.length) a K
  | [], _, _, _, h => ⟨fun _ => undef, h⟩
  | o :: l, n, a, hl, h => by
    obtain ⟨v, hy, h⟩ := h
    obtain ⟨val, hv⟩ := BL.bw2 l (n + 1) _ (fun j hj => by have := hl (j + 1) (by simp; omega); simpa [Nat.add_assoc, Nat.add_comm 1 j] using this) h
    have h0 : ops[n]? = some o := by simpa using (hl 0 (by simp)).symm
    have ho : opAt ops n = o := by simp [opAt, Array.getD_eq_getD_getElem?, h0]
    refine ⟨fun i => if i = n then v else val i, ?_⟩
    simp only [List.length_cons, List.range'_succ, BW, ho, if_true]
    refine ⟨hy, ?_⟩
    have congr : ∀ (R : List Nat) (a : Act), (∀ r ∈ R, n < r) → BW P ops S val R a K → BW P ops S (fun i => if i = n then v else val i) R a K := by
      intro R
      induction R with
      | nil => intro a _ h; exact h
      | cons r R ih =>
        intro a hr h
        have hne : r ≠ n := by have := hr r (by simp); omega
        simp only [BW, if_neg hne] at h ⊢
        exact ⟨h.1, ih _ (fun x hx => hr x (by simp [hx])) h.2⟩
    exact congr _ _ (fun r hr => by rw [List.mem_range'] at hr; obtain ⟨i, _, rfl⟩ := hr; omega) hv

theorem wp_region_text {id : Nat} {l : List Oper} {a : Act} {w : World} (hm : P.follows .mixedOrders = true) (hok : textOk l.toArray = true)
    (h : BL P l.toArray (Ext w) l a (fun a' => ∀ w', Ext w w' → Q .normal a' w')) : (Code.region id l.toArray true).wp P Q a w := by
  obtain ⟨val, hv⟩ := BL.bw l 0 a (by simp) (by simp) h
  refine wp_region_any hm ?_
  refine wpAny_text (Stable.ext w) hok _ _ _ _ _ (by simp) (by simp) (fun i => ?_) (List.pairwise_lt_range' ..) (Ext.drew (Ext.refl _)) hv
  simp only [List.mem_range', Nat.one_mul, Nat.zero_add]
  rcases Nat.lt_or_ge i l.length with hi | hi
  · simp [hi]
  · simp [hi]


def Blk (w : World) (g : Nat) (t : TypeId) (cs : Array Value) : Prop := w.heap[g]? = some (.cells cs t (0, 0))
theorem Blk.lt {w : World} {g : Nat} {t : TypeId} {cs : Array Value} (h : Blk w g t cs) : g < w.heap.size := by
  rcases Nat.lt_or_ge g w.heap.size with hlt | hge
  · exact hlt
  · unfold Blk at h; rw [Array.getElem?_eq_none hge] at h; cases h
theorem Blk.cell {w : World} {g : Nat} {t : TypeId} {cs : Array Value} (h : Blk w g t cs) (i : Nat) : w.cell? ⟨g, i, none⟩ = cs[i]? := cell_of_row w g i cs t (0, 0) h
theorem Blk.frozen {w : World} {g : Nat} {t : TypeId} {cs : Array Value} (h : Blk w g t cs) (i : Nat) : w.frozen? ⟨g, i, none⟩ = false := by
  unfold Blk at h
  simp [World.frozen?, h]
theorem Blk.new (w : World) (t : TypeId) (cs : Array Value) : Blk (w.alloc (.cells cs t)) w.heap.size t cs := heap_alloc_new w _
theorem Blk.newAt {w : World} {t : TypeId} {cs : Array Value} {n : Nat} (h : n = w.heap.size) : Blk (w.alloc (.cells cs t)) n t cs := h ▸ Blk.new w t cs
theorem Blk.set_ {w : World} {g : Nat} {t : TypeId} {cs : Array Value} (h : Blk w g t cs) (i : Nat) (u : Value) : Blk (w.setCell ⟨g, i, none⟩ u) g t (cs.setIfInBounds i u) := by
  unfold Blk at h ⊢
  simp [World.setCell, Array.getElem?_modify, h]
theorem Blk.far {w : World} {g : Nat} {t : TypeId} {cs : Array Value} (h : Blk w g t cs) {p : Addr} (hp : g ≠ p.block) (u : Value) : Blk (w.setCell p u) g t cs := (Below.heap_setCell w p u g hp).trans h
theorem Blk.ext {w w' : World} {g : Nat} {t : TypeId} {cs : Array Value} (h : Blk w g t cs) (hb : Ext w w') : Blk w' g t cs := (hb.block g h.lt).trans h
def putC (b : Nat) : World → Nat → List Value → World
  | w, _, [] => w
  | w, i, v :: r => putC b (w.setCell ⟨b, i, none⟩ v) (i + 1) r
theorem Ext.putC {a : World} {b : Nat} (hb : a.heap.size ≤ b) : ∀ (l : List Value) {w : World} (i : Nat), Ext a w → Ext a (putC b w i l)
  | [], _, _, h => h
  | v :: r, _, i, h => Ext.putC hb r (i + 1) (Ext.set h hb v)
theorem Blk.putFar {g b : Nat} {t : TypeId} {cs : Array Value} (hb : g ≠ b) : ∀ (l : List Value) {w : World} (i : Nat), Blk w g t cs → Blk (putC b w i l) g t cs
  | [], _, _, h => h
  | v :: r, _, i, h => Blk.putFar hb r (i + 1) (Blk.far (p := ⟨b, i, none⟩) h hb v)
theorem Blk.putAll {b : Nat} {t : TypeId} : ∀ (l pre rest : List Value) {w : World}, rest.length = l.length → Blk w b t (pre ++ rest).toArray → Blk (putC b w pre.length l) b t (pre ++ l).toArray
  | [], pre, rest, w, hl, h => by
    obtain rfl : rest = [] := List.eq_nil_of_length_eq_zero hl
    exact h
  | v :: r, pre, [], _, hl, _ => by simp at hl
  | v :: r, pre, u :: rest, w, hl, h => by
    have h1 : Blk (w.setCell ⟨b, pre.length, none⟩ v) b t ((pre ++ [v]) ++ rest).toArray := by
      have h2 := h.set_ pre.length v
      have e : (pre ++ u :: rest).toArray.setIfInBounds pre.length v = ((pre ++ [v]) ++ rest).toArray := by simp
      rw [e] at h2
      exact h2
    have h3 := Blk.putAll r (pre ++ [v]) rest (by simpa using hl) h1
    rw [List.length_append, List.length_singleton, List.append_assoc] at h3
    exact h3
theorem Blk.putAt {b : Nat} {t : TypeId} {w : World} {l : List Value} {cs : Array Value} (h : Blk w b t cs) (hl : cs.size = l.length) : Blk (putC b w 0 l) b t l.toArray :=
  Blk.putAll l [] cs.toList (by simpa using hl) (by simpa using h)

theorem Stable.blk (g : Nat) (t : TypeId) (cs : Array Value) : Stable fun w => Blk w g t cs := fun _ _ h e => Blk.ext h e

theorem BW.mono {val : Nat → Value} {K K' : Act → Prop} (hK : ∀ a, K a → K' a) : ∀ (R : List Nat) (a : Act), BW P ops S val R a K → BW P ops S val R a K'
  | [], _, h => hK _ h
  | _ :: R, _, h => ⟨h.1, BW.mono hK R _ h.2⟩

theorem bl_nil {a : Act} {K : Act → Prop} (h : K a) : BL P ops S [] a K := h
theorem bl_op {o : Oper} {r : List Oper} {a : Act} {K : Act → Prop} {v : Value} (hw : Region.wanted o (yielded ops a.tmps) = true)
    (h : ∀ w, S w → Gives P w v ((execOp a.eval o).run P w)) (hr : BL P ops S r (a.put o.dst v) K) : BL P ops S (o :: r) a K := ⟨v, .inl ⟨hw, h⟩, hr⟩
theorem bl_off {o : Oper} {r : List Oper} {a : Act} {K : Act → Prop} (hw : Region.wanted o (yielded ops a.tmps) = false)
    (hr : BL P ops S r (a.put o.dst undef) K) : BL P ops S (o :: r) a K := ⟨undef, .inr ⟨hw, rfl⟩, hr⟩
theorem bl_split {o : Oper} {r : List Oper} {a : Act} {K : Act → Prop} {x : Bool} {j : Nat} {b : Bool} (_hg : o.guard = some (j, b)) (_hy : yielded ops a.tmps j = some x)
    (ht : x = true → BL P ops S (o :: r) a K) (hf : x = false → BL P ops S (o :: r) a K) : BL P ops S (o :: r) a K := by
  cases x
  · exact hf rfl
  · exact ht rfl
def Wr (w0 : World) (g : Nat) (w : World) : Prop := w0.grownBy w (some g)
theorem Wr.stable (w0 : World) (g : Nat) : Stable (Wr w0 g) := fun _ _ h e =>
  ⟨e.os.trans h.os, e.tape.trans h.tape, e.output.trans h.output, Nat.le_trans h.size e.size, fun i hi hn => (e.block i (Nat.lt_of_lt_of_le hi h.size)).trans (h.block i hi hn)⟩
theorem Wr.refl (w0 : World) (g : Nat) : Wr w0 g w0 := World.grownBy.refl _ _
theorem Wr.cells {w0 w : World} {g : Nat} (h : Wr w0 g w) : (∀ b o, b < w0.heap.size → b ≠ g → w.cell? ⟨b, o, none⟩ = w0.cell? ⟨b, o, none⟩) ∧ (∀ b o, b < w0.heap.size → b ≠ g → w.frozen? ⟨b, o, none⟩ = w0.frozen? ⟨b, o, none⟩) ∧ w0.heap.size ≤ w.heap.size :=
  ⟨fun b o hb hn => World.cell?_of_block (h.block b hb (fun e => hn (by injection e))), fun b o hb hn => World.frozen?_of_block (h.block b hb (fun e => hn (by injection e))), h.size⟩
theorem Wr.set {w0 w : World} {g : Nat} (h : Wr w0 g w) {p : Addr} (hp : p.block = g) (u : Value) : Wr w0 g (w.setCell p u) :=
  ⟨h.os, h.tape, h.output, by simpa [World.setCell] using h.size, fun i hi hne => (Below.heap_setCell w p u i (fun e => hne (by rw [e, hp]))).trans (h.block i hi hne)⟩
theorem Wr.ext {w0 w wb : World} {g : Nat} (h : Wr w0 g w) (e : Ext wb w0) (hg : wb.heap.size ≤ g) : Ext wb w :=
  ⟨h.os.trans e.os, h.tape.trans e.tape, h.output.trans e.output, Nat.le_trans e.size h.size, fun i hi => (h.block i (Nat.lt_of_lt_of_le hi e.size) (fun x => by injection x; omega)).trans (e.block i hi)⟩
theorem Wr.pre {w0 : World} {g : Nat} {e : TypeId} {zs : Array Value} (h : Blk w0 g e zs) : (fun w => Wr w0 g w ∧ Blk w g e zs) w0.drew := ⟨Wr.stable _ _ _ _ (Wr.refl _ _) (Ext.drew (Ext.refl _)), h⟩
theorem gives_call {f : FuncId} {args : Array Value} {w' : World} {v : Value} (h : Calls P f args w' fun e w'' => e = .returned v ∧ Ext w' w'') : Gives P w' v (.ok (.enter f args) w') := h
end
end Go.Proofs.Ytfniicgoeljmdaa
