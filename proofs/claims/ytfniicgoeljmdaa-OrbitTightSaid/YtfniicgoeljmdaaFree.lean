/- A region that draws its order, all of whose operations only make new blocks: values that are fixed, and values of which something holds; guards may be there. It may be walked in the text's order. No condition. -/
import Derived.Test.YtfniicgoeljmdaaGenD
namespace Go.Proofs.Ytfniicgoeljmdaa
open Go.RowKit

section
variable {P : Program} {ops : Array Oper} {Q : Exit → Act → World → Prop} {S : World → Prop}

def seesB (ops : Array Oper) (j i : Nat) : Bool := match (opAt ops i).dst with | some d => ((opAt ops j).looksAt ops).contains d | none => false
def seenL (ops : Array Oper) (j : Nat) : List Nat := (List.range j).filter fun i => seesB ops j i
def freeOk (ops : Array Oper) : Bool :=
  Region.noSelect ops && (List.range ops.size).all fun j => onlyOn ops j (fun r => decide (r < j)) && (seenL ops j).all (fun i => deps ops j i) &&
    (List.range ops.size).all fun i => (i == j || match (opAt ops i).dst with | some d => (opAt ops j).dst != some d | none => true) && (decide (i < j) || !seesB ops j i)
abbrev GR := Nat → Value → World → Prop
def Does (P : Program) (ops : Array Oper) (o : Oper) (a : Act) (w : World) (G : Value → World → Prop) : Prop :=
  (Region.wanted o (yielded ops a.tmps) = true ∧ RunsTo P (fun v w1 => G v w1 ∧ Ext w w1) ((execOp a.eval o).run P w)) ∨ (Region.wanted o (yielded ops a.tmps) = false ∧ G undef w)
theorem Does.wpOp {i : Nat} {o : Oper} {a : Act} {w : World} {G : Value → World → Prop} (hi : ops[i]? = some o) (hd : Does P ops o a w G)
    {K : Act → World → Prop} (h : ∀ v w', G v w' → Ext w w' → K (a.put o.dst v) w') : wpOp P ops Q i K a w := by
  unfold Go.wpOp
  simp only [hi]
  rcases hd with ⟨hw, hv⟩ | ⟨hw, hg⟩
  · simp only [hw, if_true]; exact .inl (hv.upon fun v w' hv => h v w' hv.1 hv.2)
  · simp only [hw, Bool.false_eq_true, if_false]; exact h _ _ hg (Ext.refl _)
theorem Does.of_same {o : Oper} {a a' : Act} {w : World} {G : Value → World → Prop} (h : Does P ops o a w G) (he : execOp a'.eval o = execOp a.eval o)
    (hw : Region.wanted o (yielded ops a'.tmps) = Region.wanted o (yielded ops a.tmps)) : Does P ops o a' w G := by
  unfold Does at *
  rw [he, hw]
  exact h
theorem freeOk_spec (hok : freeOk ops = true) : (∀ i cs b, (opAt ops i).op ≠ .select cs b) ∧ ∀ j, j < ops.size → (∀ e ∈ (opAt ops j).after, Region.binds .any e = true → e.on < j) ∧ (∀ i ∈ seenL ops j, deps ops j i = true) ∧
    ∀ i, i < ops.size → (i ≠ j → ∀ d, (opAt ops i).dst = some d → (opAt ops j).dst ≠ some d) ∧ (j ≤ i → seesB ops j i = false) := by
  simp only [freeOk, Bool.and_eq_true, List.all_eq_true, List.mem_range] at hok
  obtain ⟨hns, hall⟩ := hok
  refine ⟨fun i cs b => ?_, fun j hj => ?_⟩
  · unfold opAt
    rw [Array.getD_eq_getD_getElem?]
    cases hi : ops[i]? with
    | none => simp [default, instInhabitedOper.default, instInhabitedOp.default]
    | some o => exact Region.noSelect_spec hns i o cs b hi
  · obtain ⟨⟨h1, h2⟩, h3⟩ := hall j hj
    refine ⟨fun e he hb => by simpa using onlyOn_spec h1 e he hb, h2, fun i hi => ?_⟩
    obtain ⟨h4, h5⟩ := h3 i hi
    refine ⟨fun hij d hd => ?_, fun hle => ?_⟩
    · rw [hd] at h4
      simp only [Bool.or_eq_true, beq_iff_eq, bne_iff_ne] at h4
      rcases h4 with h4 | h4
      · exact absurd h4 hij
      · exact h4
    · simp only [Bool.or_eq_true, decide_eq_true_eq, Bool.not_eq_true'] at h5
      rcases h5 with h5 | h5
      · omega
      · exact h5
theorem same_putL (hok : freeOk ops = true) {j : Nat} (val : Nat → Value) : ∀ (L : List Nat) (a : Act), (∀ i ∈ L, seesB ops j i = false) →
    execOp (putL ops val L a).eval (opAt ops j) = execOp a.eval (opAt ops j) ∧ Region.wanted (opAt ops j) (yielded ops (putL ops val L a).tmps) = Region.wanted (opAt ops j) (yielded ops a.tmps)
  | [], _, _ => ⟨rfl, rfl⟩
  | i :: L, a, h => by
    have e : putL ops val (i :: L) a = putL ops val L (a.put (opAt ops i).dst (val i)) := rfl
    obtain ⟨h1, h2⟩ := same_putL hok val L (a.put (opAt ops i).dst (val i)) fun x hx => h x (by simp [hx])
    have hs := h i (by simp)
    have hno : ∀ d, (opAt ops i).dst = some d → d ∉ (opAt ops j).looksAt ops := fun d hd => by
      unfold seesB at hs
      rw [hd] at hs
      simpa using hs
    rw [e, h1, h2]
    exact ⟨execOp_put (ops := ops) _ ((freeOk_spec hok).1 j) a _ _ hno, wanted_put _ a _ _ hno⟩
theorem putL_perm (hok : freeOk ops = true) (val : Nat → Value) {L L' : List Nat} (a : Act) (hL : ∀ r ∈ L, r < ops.size) (hp : L.Perm L') : putL ops val L a = putL ops val L' a := by
  refine hp.foldl_eq' (fun x hx y hy z => ?_) a
  by_cases hxy : x = y
  · subst hxy; rfl
  · exact Act.put_comm z _ _ ((((freeOk_spec hok).2 y (hL y hy)).2.2 x (hL x hx)).1 hxy)
theorem putL_app (val : Nat → Value) (L L' : List Nat) (a : Act) : putL ops val (L ++ L') a = putL ops val L' (putL ops val L a) := by unfold putL; rw [List.foldl_append]

theorem wpAny_free (hok : freeOk ops = true) (G : GR) (hst : Stable S) (hG : ∀ j v, Stable (G j v)) {a0 : Act}
    (hOb : ∀ j, j < ops.size → ∀ val w, S w → (∀ d ∈ seenL ops j, G d (val d) w) → Does P ops (opAt ops j) (putL ops val (seenL ops j) a0) w (G j))
    (hQ : ∀ val w, S w → (∀ j, j < ops.size → G j (val j) w) → Q .normal (putL ops val (List.range ops.size) a0) w) :
    ∀ (fuel : Nat) (D R : List Nat) (val : Nat → Value) (listed : Array Bool) (w : World), fuel = R.length → (D ++ R).Perm (List.range ops.size) → listed.size = ops.size → (∀ i, i < ops.size → (listed.getD i true = false ↔ i ∉ D)) →
      S w → (∀ d ∈ D, G d (val d) w) → wpAny P .any ops Q fuel listed (putL ops val D a0) w := by
  obtain ⟨hsel, hchk⟩ := freeOk_spec hok
  have hat : ∀ j o, ops[j]? = some o → opAt ops j = o := fun j o h => by simp [opAt, Array.getD_eq_getD_getElem?, h]
  intro fuel
  induction fuel with
  | zero =>
    intro D R val listed w hf hp hs hR hS hg
    obtain rfl : R = [] := List.eq_nil_of_length_eq_zero hf.symm
    have hperm : D.Perm (List.range ops.size) := by simpa using hp
    have hD : ∀ d ∈ D, d < ops.size := fun d hd => List.mem_range.1 (hperm.mem_iff.1 hd)
    have hfull : ∀ i, i < ops.size → i ∈ D := fun i hi => hperm.mem_iff.2 (List.mem_range.2 hi)
    refine ⟨?_, ?_⟩
    · rw [List.eq_nil_iff_forall_not_mem]
      intro j hj
      obtain ⟨h1, o, ho, _⟩ := mem_ready.1 hj
      have hjl : j < ops.size := (Array.getElem?_eq_some_iff.1 ho).1
      exact (hR j hjl).1 h1 (hfull j hjl)
    · rw [putL_perm hok val a0 hD hperm]
      exact hQ val w hS fun j hj => hg j (hfull j hj)
  | succ fuel ih =>
    intro D R val listed w hf hp hs hR hS hg
    have hD : ∀ d ∈ D, d < ops.size := fun d hd => List.mem_range.1 (hp.mem_iff.1 (by simp [hd]))
    have hRl : ∀ d ∈ R, d < ops.size := fun d hd => List.mem_range.1 (hp.mem_iff.1 (by simp [hd]))
    have hndDR : (D ++ R).Nodup := hp.nodup_iff.2 List.nodup_range
    have hnd : D.Nodup := (List.nodup_append.1 hndDR).1
    have hdis : ∀ d ∈ R, d ∉ D := fun d hd hd' => (List.nodup_append.1 hndDR).2.2 d hd' d hd rfl
    have hmem : ∀ i, i < ops.size → i ∉ D → i ∈ R := fun i hi hx => by
      have := hp.mem_iff.2 (List.mem_range.2 hi)
      rcases List.mem_append.1 this with h | h
      · exact absurd h hx
      · exact h
    refine ⟨fun h0 => ?_, fun j hj => ?_⟩
    · -- the least that has not come up may come up
      exfalso
      have hex : ∃ i, i < ops.size ∧ i ∉ D := by
        match R, hf, hRl, hdis with
        | r :: R', _, hRl, hdis => exact ⟨r, hRl r (by simp), hdis r (by simp)⟩
      obtain ⟨i, ⟨hi, hiD⟩, hmin⟩ : ∃ i, (i < ops.size ∧ i ∉ D) ∧ ∀ k, k < i → ¬ (k < ops.size ∧ k ∉ D) := by
        obtain ⟨i, hi⟩ := hex
        induction i using Nat.strongRecOn with
        | ind i ihh =>
          by_cases hk : ∃ k, k < i ∧ (k < ops.size ∧ k ∉ D)
          · obtain ⟨k, hk1, hk2⟩ := hk
            exact ihh k hk1 hk2
          · exact ⟨i, hi, fun k hki hc => hk ⟨k, hki, hc⟩⟩
      have : i ∈ Region.ready .any ops listed := by
        refine mem_ready.2 ⟨(hR i hi).2 hiD, opAt ops i, by simp [opAt, Array.getD_eq_getD_getElem?, Array.getElem?_eq_getElem hi], fun e he hb => ?_⟩
        have h1 := (hchk i hi).1 e he hb
        have h2 : e.on ∈ D := Classical.byContradiction fun hx => hmin e.on h1 ⟨by omega, hx⟩
        have h3 : listed.getD e.on true ≠ false := fun hx => (hR e.on (by omega)).1 hx h2
        have hi' : e.on < listed.size := by omega
        simp [hi'] at h3 ⊢
        exact h3
      rw [h0] at this
      cases this
    · obtain ⟨hj0, o, ho, hdep⟩ := mem_ready.1 hj
      have hjl : j < ops.size := (Array.getElem?_eq_some_iff.1 ho).1
      have hoj := hat j o ho
      have hjD : j ∉ D := (hR j hjl).1 hj0
      have huD : ∀ d ∈ seenL ops j, d ∈ D := fun d hd => by
        have h1 := (hchk j hjl).2.1 d hd
        obtain ⟨e, he, hb, hon⟩ := deps_spec.1 h1
        have hlt := (hchk j hjl).1 e he hb
        rw [hoj] at he
        have h2 := hdep e he hb
        rw [hon] at h2 hlt
        refine Classical.byContradiction fun hx => ?_
        have h3 := (hR d (by omega)).2 hx
        have hd' : d < listed.size := by omega
        simp [hd'] at h2 h3
        rw [h3] at h2; cases h2
      have hsnd : (seenL ops j).Nodup := List.Pairwise.filter _ List.nodup_range
      obtain ⟨RR, h1, h2⟩ := split_perm (seenL ops j) D hsnd hnd huD
      have hns : ∀ i ∈ RR, seesB ops j i = false := fun i hi => by
        obtain ⟨h3, h4⟩ := h2 i hi
        rcases Nat.lt_or_ge i j with hlt | hge
        · cases hx : seesB ops j i with
          | false => rfl
          | true => exact absurd (List.mem_filter.2 ⟨List.mem_range.2 hlt, hx⟩) h4
        · exact ((hchk j hjl).2.2 i (hD i h3)).2 hge
      have he : putL ops val D a0 = putL ops val RR (putL ops val (seenL ops j) a0) := by
        rw [← putL_perm hok val a0 (fun r hr => hD r (h1.mem_iff.1 hr)) h1, putL_app]
      obtain ⟨e1, e2⟩ := same_putL hok (j := j) val RR (putL ops val (seenL ops j) a0) hns
      have hdo := (hOb j hjl val w hS fun d hd => hg d (huD d hd)).of_same (a' := putL ops val D a0) (by rw [he]; exact e1) (by rw [he]; exact e2)
      rw [hoj] at hdo
      refine hdo.wpOp ho fun v w' hv hw' => ?_
      have hcg : ∀ d ∈ D, (if d = j then v else val d) = val d := fun d hd => if_neg fun e : d = j => hjD (e ▸ hd)
      have hput : (putL ops val D a0).put o.dst v = putL ops (fun i => if i = j then v else val i) (D ++ [j]) a0 := by
        rw [putL_app]
        have : putL ops (fun i => if i = j then v else val i) [j] (putL ops (fun i => if i = j then v else val i) D a0) = (putL ops (fun i => if i = j then v else val i) D a0).put (opAt ops j).dst (if j = j then v else val j) := rfl
        rw [this, if_pos rfl, hoj]
        congr 1
        exact putL_congr D a0 fun i hi => (hcg i hi).symm
      rw [hput]
      have hjR : j ∈ R := hmem j hjl hjD
      refine ih (D ++ [j]) (R.erase j) _ _ w' (by rw [List.length_erase_of_mem hjR]; omega) ?_ (by simpa using hs) ?_ (hst _ _ hS hw') ?_
      · refine List.Perm.trans ?_ hp
        rw [List.append_assoc]
        exact List.Perm.append_left D (List.perm_cons_erase hjR).symm
      · intro i hi
        by_cases hij : j = i
        · subst hij
          have : j < listed.size := by omega
          simp [this]
        · rw [getD_set_ne true hij, hR i hi]
          simp [Ne.symm hij]
      · intro d hd
        rcases List.mem_append.1 hd with h | h
        · simp only [hcg d h]
          exact hG d _ _ _ (hg d h) hw'
        · simp at h
          subst h
          simp only [if_true]
          exact hv
end
end Go.Proofs.Ytfniicgoeljmdaa
