/- A name for a world. No condition. A region that draws its order, whose last operation comes behind all others: these have fixed values, the last one may do anything. No condition. -/
import Derived.Test.YtfniicgoeljmdaaGreatGen
namespace Go.Proofs.YtfniicgoeljmdaaGreat
theorem name_w {Q : World → Prop} (w : World) (h : ∀ W, W = w → Q W) : Q w := h w rfl
end Go.Proofs.YtfniicgoeljmdaaGreat

namespace Go.Proofs.YtfniicgoeljmdaaGreat
open Go.RowKit

section
variable {P : Program} {ops : Array Oper} {Q : Exit → Act → World → Prop} {S : World → Prop}

def lastOk (ops : Array Oper) (n : Nat) : Bool :=
  Region.noSelect ops && decide (ops.size = n + 1) && ((List.range (n + 1)).all fun j => onlyOn ops j fun r => decide (r < j)) &&
  ((List.range n).all fun j => (List.range j).all fun r => deps ops j r || (opAt ops r).apart ops (opAt ops j)) && (List.range n).all fun r => (List.range (n + 1)).any fun i => decide (r < i) && deps ops i r

theorem wpAny_last (hst : Stable S) {val : Nat → Value} {n : Nat} (hok : lastOk ops n = true) : ∀ (fuel : Nat) (R : List Nat) (listed : Array Bool) (a : Act) (w : World), fuel = R.length + 1 → listed.size = ops.size →
    (∀ i, listed.getD i true = false ↔ (i ∈ R ∨ i = n)) → (∀ i ∈ R, i < n) → R.Pairwise (· < ·) → (∀ i, i < n → i ∉ R → ∀ r, deps ops i r = true → r ∉ R) → S w →
    BW P ops S val R a (fun a' => ∀ w', S w' → (opAt ops n).guard = none ∧ RunsTo P (fun v w1 => Q .normal (a'.put (opAt ops n).dst v) w1) ((execOp a'.eval (opAt ops n)).run P w')) → wpAny P .any ops Q fuel listed a w := by
  simp only [lastOk, Bool.and_eq_true, decide_eq_true_eq] at hok
  obtain ⟨⟨⟨⟨hns, hsz⟩, hon⟩, hap⟩, hanc⟩ := hok
  have hsel : ∀ i cs b, (opAt ops i).op ≠ .select cs b := fun i cs b => by
    unfold opAt
    rw [Array.getD_eq_getD_getElem?]
    cases hi : ops[i]? with
    | none => simp [default, instInhabitedOper.default, instInhabitedOp.default]
    | some o => exact Region.noSelect_spec hns i o cs b hi
  have hat : ∀ j o, ops[j]? = some o → opAt ops j = o := fun j o h => by simp [opAt, Array.getD_eq_getD_getElem?, h]
  have hon' : ∀ j, j ≤ n → ∀ e ∈ (opAt ops j).after, Region.binds .any e = true → e.on < j := fun j hj e he hb => by
    have := (List.all_eq_true.1 hon) j (List.mem_range.2 (by omega))
    simpa using onlyOn_spec this e he hb
  have hap' : ∀ j, j < n → ∀ r, r < j → deps ops j r = true ∨ (opAt ops r).apart ops (opAt ops j) = true := fun j hj r hr => by
    have := (List.all_eq_true.1 ((List.all_eq_true.1 hap) j (List.mem_range.2 hj))) r (List.mem_range.2 hr)
    simpa using this
  have hanc' : ∀ r, r < n → ∃ i, r < i ∧ i ≤ n ∧ deps ops i r = true := fun r hr => by
    have := (List.all_eq_true.1 hanc) r (List.mem_range.2 hr)
    obtain ⟨i, hi, h⟩ := List.any_eq_true.1 this
    simp only [Bool.and_eq_true, decide_eq_true_eq] at h
    exact ⟨i, h.1, by have := List.mem_range.1 hi; omega, h.2⟩
  intro fuel
  induction fuel with
  | zero => intro R listed a w hf; omega
  | succ fuel ih =>
    intro R listed a w hf hs hR hRn hp hcl hS h
    have hlt : ∀ j, listed.getD j true = false → j < ops.size := fun j hj => by
      rcases (hR j).1 hj with h1 | h1
      · have := hRn j h1; omega
      · omega
    have hnotdep : ∀ j, j ∈ Region.ready .any ops listed → ∀ r, r ∈ R → deps ops j r = true → False := fun j hj r hr hd => by
      obtain ⟨hj0, o, ho, hdep⟩ := mem_ready.1 hj
      obtain ⟨e, he, hb, hon⟩ := deps_spec.1 hd
      rw [hat j o ho] at he
      have h1 := hdep e he hb
      have h2 := (hR r).2 (.inl hr)
      rw [hon] at h1
      have : r < listed.size := by have := hRn r hr; omega
      simp [this] at h1 h2
      rw [h2] at h1; cases h1
    refine ⟨fun h0 => ?_, fun j hj => ?_⟩
    · exfalso
      have rdy : ∀ i, i ≤ n → listed.getD i true = false → (∀ r, r < i → r ∉ R) → False := fun i hi hi0 hr => by
        have : i ∈ Region.ready .any ops listed := by
          refine mem_ready.2 ⟨hi0, opAt ops i, by simp [opAt, Array.getD_eq_getD_getElem?, Array.getElem?_eq_getElem (show i < ops.size by omega)], fun e he hb => ?_⟩
          have h1 := hon' i hi e he hb
          cases hx : listed.getD e.on true with
          | false =>
            rcases (hR e.on).1 hx with h2 | h2
            · exact absurd h2 (hr _ h1)
            · omega
          | true =>
            have hb' : e.on < listed.size := by omega
            simpa [hb'] using hx
        rw [h0] at this
        cases this
      match R, hf with
      | [], _ => exact rdy n (Nat.le_refl _) ((hR n).2 (.inr rfl)) fun r _ h => by cases h
      | i :: R', _ =>
        refine rdy i (by have := hRn i (by simp); omega) ((hR i).2 (.inl (by simp))) fun r hri hr => ?_
        rcases List.mem_cons.1 hr with h1 | h1
        · omega
        · have := (List.pairwise_cons.1 hp).1 _ h1; omega
    · obtain ⟨hj0, o, ho, hdep⟩ := mem_ready.1 hj
      have hjl := hlt _ hj0
      have hoj := hat j o ho
      rcases (hR j).1 hj0 with hjR | hjn
      · obtain ⟨R1, R2, rfl⟩ := List.append_of_mem hjR
        have hjn := hRn j hjR
        have hap2 : ∀ r ∈ R1, (opAt ops r).apart ops (opAt ops j) = true := by
          intro r hr
          have hrj : r < j := (List.pairwise_append.1 hp).2.2 r hr j (by simp)
          rcases hap' j hjn r hrj with h1 | h1
          · exact (hnotdep j hj r (by simp [hr]) h1).elim
          · exact h1
        obtain ⟨hyj, hrest⟩ := BW.remove hsel R1 a hap2 h
        rw [hoj] at hyj hrest
        have hn : j ∉ R1 ++ R2 := by
          have h1 := List.pairwise_append.1 hp
          have h2 := List.pairwise_cons.1 h1.2.1
          intro hm
          rcases List.mem_append.1 hm with h3 | h3
          · have := h1.2.2 j h3 j (by simp); omega
          · have := h2.1 j h3; omega
        refine hyj.wpOp ho hst hS fun w' hw' => ?_
        refine ih (R1 ++ R2) _ _ w' (by simp at hf ⊢; omega) (by simpa using hs) ?_ (fun i hi => hRn i (by simp at hi ⊢; rcases hi with h1 | h1 <;> simp [h1])) ?_ ?_ hw' hrest
        · intro i
          by_cases hij : j = i
          · subst hij
            simp only [hn, false_or]
            have : j < listed.size := by omega
            constructor
            · intro h1; simp [this] at h1
            · intro h1; omega
          · rw [getD_set_ne true hij, hR i]
            simp [List.mem_append, List.mem_cons, Ne.symm hij]
        · have h1 := List.pairwise_append.1 hp
          have h2 := List.pairwise_cons.1 h1.2.1
          exact List.pairwise_append.2 ⟨h1.1, h2.2, fun x hx y hy => h1.2.2 x hx y (by simp [hy])⟩
        · intro i hi hiR r hd hr
          have hr' : r ∈ R1 ++ j :: R2 := by simp at hr ⊢; rcases hr with h1 | h1 <;> simp [h1]
          by_cases hij : i = j
          · subst hij
            exact hnotdep i hj r hr' hd
          · exact hcl i hi (by simp at hiR ⊢; exact ⟨hiR.1, hij, hiR.2⟩) r hd hr'
      · subst hjn
        have hR0 : R = [] := by
          rcases List.eq_nil_or_concat R with h1 | ⟨R', r, h1⟩
          · exact h1
          · exfalso
            rw [List.concat_eq_append] at h1
            subst h1
            have hrn := hRn r (by simp)
            obtain ⟨i, hi1, hi2, hd⟩ := hanc' r hrn
            by_cases hij : i = j
            · subst hij
              exact hnotdep i hj r (by simp) hd
            · refine hcl i (by omega) (fun hm => ?_) r hd (by simp)
              rcases List.mem_append.1 hm with h2 | h2
              · have := (List.pairwise_append.1 hp).2.2 i h2 r (by simp); omega
              · simp at h2; omega
        subst hR0
        obtain ⟨hg, hrun⟩ := h w hS
        rw [hoj] at hg hrun
        have hwd : Region.wanted o (yielded ops a.tmps) = true := by simp [Region.wanted, hg]
        unfold wpOp
        simp only [ho, hwd, if_true]
        refine .inl ?_
        unfold Oper.wp
        refine hrun.upon fun v w1 hq => ?_
        have hf0 : fuel = 0 := by simp at hf; exact hf
        subst hf0
        refine ⟨?_, hq⟩
        rw [List.eq_nil_iff_forall_not_mem]
        intro i hi
        have hi0 := (mem_ready.1 hi).1
        by_cases hij : j = i
        · subst hij
          have : j < listed.size := by omega
          simp [this] at hi0
        · rw [getD_set_ne true hij, hR i] at hi0
          rcases hi0 with h1 | h1
          · cases h1
          · exact hij h1.symm
theorem wp_region_last {id : Nat} {l : List Oper} (n : Nat) (S : World → Prop) {a : Act} {w : World} (hst : Stable S) (hS : S w.drew) (hm : P.follows .mixedOrders = true) (hok : lastOk l.toArray n = true)
    (h : BL P l.toArray S (l.take n) a (fun a' => ∀ w', S w' → (opAt l.toArray n).guard = none ∧ RunsTo P (fun v w1 => Q .normal (a'.put (opAt l.toArray n).dst v) w1) ((execOp a'.eval (opAt l.toArray n)).run P w'))) : (Code.region id l.toArray true).wp P Q a w := by
  have hnl : l.length = n + 1 := by
    simp only [lastOk, Bool.and_eq_true, decide_eq_true_eq] at hok
    simpa using hok.1.1.1.2
  obtain ⟨val, hv⟩ := BL.bw2 (ops := l.toArray) (l.take n) 0 a (fun j hj => by simp at hj ⊢; rw [List.getElem?_take]; split <;> simp_all) h
  have hlen : (l.take n).length = n := by simp; omega
  rw [hlen] at hv
  refine wp_region_any hm ?_
  refine wpAny_last hst hok _ (List.range' 0 n) _ _ _ (by simp [hnl]) (by simp) (fun i => ?_) (fun i hi => ?_) (List.pairwise_lt_range' ..) (fun i hi hiR => ?_) hS hv
  · simp only [List.mem_range', Nat.one_mul, Nat.zero_add, List.size_toArray]
    rcases Nat.lt_or_ge i l.length with hi | hi
    · simp [hi]; omega
    · simp [hi]; omega
  · rw [List.mem_range'] at hi
    obtain ⟨k, hk, rfl⟩ := hi
    omega
  · exfalso
    apply hiR
    rw [List.mem_range']
    exact ⟨i, hi, by omega⟩
end
end Go.Proofs.YtfniicgoeljmdaaGreat
