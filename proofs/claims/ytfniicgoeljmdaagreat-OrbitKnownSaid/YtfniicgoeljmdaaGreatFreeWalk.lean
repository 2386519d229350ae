/- A region that draws its order, all of whose operations only make new blocks: values that are fixed, and values of which something holds; guards may be there. It may be walked in the text's order. No condition. A region that draws its order and only makes new blocks, walked in the text's order: the moves. No condition. -/
import Derived.Test.YtfniicgoeljmdaaGreatGenD
namespace Go.Proofs.YtfniicgoeljmdaaGreat
open Go.RowKit

section
variable {P : Program} {ops : Array Oper} {Q : Exit → Act → World → Prop} {S : World → Prop}

def seesB (ops : Array Oper) (j i : Nat) : Bool := match (opAt ops i).dst with | some d => ((opAt ops j).looksAt ops).contains d | none => false
def seenL (ops : Array Oper) (j : Nat) : List Nat := (List.range j).filter fun i => seesB ops j i
def freeOk (ops : Array Oper) : Bool :=
  Region.noSelect ops && (List.range ops.size).all fun j => onlyOn ops j (fun r => decide (r < j)) && (seenL ops j).all (fun i => deps ops j i) &&
    (List.range ops.size).all fun i => (i == j || match (opAt ops i).dst with | some d => (opAt ops j).dst != some d | none => true) && (decide (i < j) || !seesB ops j i)
abbrev GR := Nat → Value → World → Prop
def Does (P : Program) (ops : Array Oper) (o : Oper) (a : Act) (w : World) (G : Value → World → Prop) : Prop :=
  (Region.wanted o (yielded ops a.tmps) = true ∧ RunsTo P (fun v w1 => G v w1 ∧ Ext w w1) ((execOp a.eval o).run P w)) ∨ (Region.wanted o (yielded ops a.tmps) = false ∧ G undef w)
theorem Does.wpOp {i : Nat} {o : Oper} {a : Act} {w : World} {G : Value → World → Prop} (hi : ops[i]? = some o) (hd : Does P ops o a w G)
    {K : Act → World → Prop} (h : ∀ v w', G v w' → Ext w w' → K (a.put o.dst v) w') : wpOp P ops Q i K a w := by
  unfold Go.wpOp
  simp only [hi]
  rcases hd with ⟨hw, hv⟩ | ⟨hw, hg⟩
  · simp only [hw, if_true]; exact .inl (hv.upon fun v w' hv => h v w' hv.1 hv.2)
  · simp only [hw, Bool.false_eq_true, if_false]; exact h _ _ hg (Ext.refl _)
theorem Does.of_same {o : Oper} {a a' : Act} {w : World} {G : Value → World → Prop} (h : Does P ops o a w G) (he : execOp a'.eval o = execOp a.eval o)
    (hw : Region.wanted o (yielded ops a'.tmps) = Region.wanted o (yielded ops a.tmps)) : Does P ops o a' w G := by
  unfold Does at *
  rw [he, hw]
  exact h
theorem freeOk_spec (hok : freeOk ops = true) : (∀ i cs b, (opAt ops i).op ≠ .select cs b) ∧ ∀ j, j < ops.size → (∀ e ∈ (opAt ops j).after, Region.binds .any e = true → e.on < j) ∧ (∀ i ∈ seenL ops j, deps ops j i = true) ∧
    ∀ i, i < ops.size → (i ≠ j → ∀ d, (opAt ops i).dst = some d → (opAt ops j).dst ≠ some d) ∧ (j ≤ i → seesB ops j i = false) := by
  simp only [freeOk, Bool.and_eq_true, List.all_eq_true, List.mem_range] at hok
  obtain ⟨hns, hall⟩ := hok
  refine ⟨fun i cs b => ?_, fun j hj => ?_⟩
  · unfold opAt
    rw [Array.getD_eq_getD_getElem?]
    cases hi : ops[i]? with
    | none => simp [default, instInhabitedOper.default, instInhabitedOp.default]
    | some o => exact Region.noSelect_spec hns i o cs b hi
  · obtain ⟨⟨h1, h2⟩, h3⟩ := hall j hj
    refine ⟨fun e he hb => by simpa using onlyOn_spec h1 e he hb, h2, fun i hi => ?_⟩
    obtain ⟨h4, h5⟩ := h3 i hi
    refine ⟨fun hij d hd => ?_, fun hle => ?_⟩
    · rw [hd] at h4
      simp only [Bool.or_eq_true, beq_iff_eq, bne_iff_ne] at h4
      rcases h4 with h4 | h4
      · exact absurd h4 hij
      · exact h4
    · simp only [Bool.or_eq_true, decide_eq_true_eq, Bool.not_eq_true'] at h5
      rcases h5 with h5 | h5
      · omega
      · exact h5
theorem same_putL (hok : freeOk ops = true) {j : Nat} (val : Nat → Value) : ∀ (L : List Nat) (a : Act), (∀ i ∈ L, seesB ops j i = false) →
    execOp (putL ops val L a).eval (opAt ops j) = execOp a.eval (opAt ops j) ∧ Region.wanted (opAt ops j) (yielded ops (putL ops val L a).tmps) = Region.wanted (opAt ops j) (yielded ops a.tmps)
  | [], _, _ => ⟨rfl, rfl⟩
  | i :: L, a, h => by
    have e : putL ops val (i :: L) a = putL ops val L (a.put (opAt ops i).dst (val i)) := rfl
    obtain ⟨h1, h2⟩ := same_putL hok val L (a.put (opAt ops i).dst (val i)) fun x hx => h x (by simp [hx])
    have hs := h i (by simp)
    have hno : ∀ d, (opAt ops i).dst = some d → d ∉ (opAt ops j).looksAt ops := fun d hd => by
      unfold seesB at hs
      rw [hd] at hs
      simpa using hs
    rw [e, h1, h2]
    exact ⟨execOp_put (ops := ops) _ ((freeOk_spec hok).1 j) a _ _ hno, wanted_put _ a _ _ hno⟩
theorem putL_perm (hok : freeOk ops = true) (val : Nat → Value) {L L' : List Nat} (a : Act) (hL : ∀ r ∈ L, r < ops.size) (hp : L.Perm L') : putL ops val L a = putL ops val L' a := by
  refine hp.foldl_eq' (fun x hx y hy z => ?_) a
  by_cases hxy : x = y
  · subst hxy; rfl
  · exact Act.put_comm z _ _ ((((freeOk_spec hok).2 y (hL y hy)).2.2 x (hL x hx)).1 hxy)
theorem putL_app (val : Nat → Value) (L L' : List Nat) (a : Act) : putL ops val (L ++ L') a = putL ops val L' (putL ops val L a) := by unfold putL; rw [List.foldl_append]

theorem wpAny_free (hok : freeOk ops = true) (G : GR) (hst : Stable S) (hG : ∀ j v, Stable (G j v)) {a0 : Act}
    (hOb : ∀ j, j < ops.size → ∀ val w, S w → (∀ d ∈ seenL ops j, G d (val d) w) → Does P ops (opAt ops j) (putL ops val (seenL ops j) a0) w (G j))
    (hQ : ∀ val w, S w → (∀ j, j < ops.size → G j (val j) w) → Q .normal (putL ops val (List.range ops.size) a0) w) :
    ∀ (fuel : Nat) (D R : List Nat) (val : Nat → Value) (listed : Array Bool) (w : World), fuel = R.length → (D ++ R).Perm (List.range ops.size) → listed.size = ops.size → (∀ i, i < ops.size → (listed.getD i true = false ↔ i ∉ D)) →
      S w → (∀ d ∈ D, G d (val d) w) → wpAny P .any ops Q fuel listed (putL ops val D a0) w := by
  obtain ⟨hsel, hchk⟩ := freeOk_spec hok
  have hat : ∀ j o, ops[j]? = some o → opAt ops j = o := fun j o h => by simp [opAt, Array.getD_eq_getD_getElem?, h]
  intro fuel
  induction fuel with
  | zero =>
    intro D R val listed w hf hp hs hR hS hg
    obtain rfl : R = [] := List.eq_nil_of_length_eq_zero hf.symm
    have hperm : D.Perm (List.range ops.size) := by simpa using hp
    have hD : ∀ d ∈ D, d < ops.size := fun d hd => List.mem_range.1 (hperm.mem_iff.1 hd)
    have hfull : ∀ i, i < ops.size → i ∈ D := fun i hi => hperm.mem_iff.2 (List.mem_range.2 hi)
    refine ⟨?_, ?_⟩
    · rw [List.eq_nil_iff_forall_not_mem]
      intro j hj
      obtain ⟨h1, o, ho, _⟩ := mem_ready.1 hj
      have hjl : j < ops.size := (Array.getElem?_eq_some_iff.1 ho).1
      exact (hR j hjl).1 h1 (hfull j hjl)
    · rw [putL_perm hok val a0 hD hperm]
      exact hQ val w hS fun j hj => hg j (hfull j hj)
  | succ fuel ih =>
    intro D R val listed w hf hp hs hR hS hg
    have hD : ∀ d ∈ D, d < ops.size := fun d hd => List.mem_range.1 (hp.mem_iff.1 (by simp [hd]))
    have hRl : ∀ d ∈ R, d < ops.size := fun d hd => List.mem_range.1 (hp.mem_iff.1 (by simp [hd]))
    have hndDR : (D ++ R).Nodup := hp.nodup_iff.2 List.nodup_range
    have hnd : D.Nodup := (List.nodup_append.1 hndDR).1
    have hdis : ∀ d ∈ R, d ∉ D := fun d hd hd' => (List.nodup_append.1 hndDR).2.2 d hd' d hd rfl
    have hmem : ∀ i, i < ops.size → i ∉ D → i ∈ R := fun i hi hx => by
      have := hp.mem_iff.2 (List.mem_range.2 hi)
      rcases List.mem_append.1 this with h | h
      · exact absurd h hx
      · exact h
    refine ⟨fun h0 => ?_, fun j hj => ?_⟩
    · -- the least that has not come up may come up
      exfalso
      have hex : ∃ i, i < ops.size ∧ i ∉ D := by
        match R, hf, hRl, hdis with
        | r :: R', _, hRl, hdis => exact ⟨r, hRl r (by simp), hdis r (by simp)⟩
      obtain ⟨i, ⟨hi, hiD⟩, hmin⟩ : ∃ i, (i < ops.size ∧ i ∉ D) ∧ ∀ k, k < i → ¬ (k < ops.size ∧ k ∉ D) := by
        obtain ⟨i, hi⟩ := hex
        induction i using Nat.strongRecOn with
        | ind i ihh =>
          by_cases hk : ∃ k, k < i ∧ (k < ops.size ∧ k ∉ D)
          · obtain ⟨k, hk1, hk2⟩ := hk
            exact ihh k hk1 hk2
          · exact ⟨i, hi, fun k hki hc => hk ⟨k, hki, hc⟩⟩
      have : i ∈ Region.ready .any ops listed := by
        refine mem_ready.2 ⟨(hR i hi).2 hiD, opAt ops i, by simp [opAt, Array.getD_eq_getD_getElem?, Array.getElem?_eq_getElem hi], fun e he hb => ?_⟩
        have h1 := (hchk i hi).1 e he hb
        have h2 : e.on ∈ D := Classical.byContradiction fun hx => hmin e.on h1 ⟨by omega, hx⟩
        have h3 : listed.getD e.on true ≠ false := fun hx => (hR e.on (by omega)).1 hx h2
        have hi' : e.on < listed.size := by omega
        simp [hi'] at h3 ⊢
        exact h3
      rw [h0] at this
      cases this
    · obtain ⟨hj0, o, ho, hdep⟩ := mem_ready.1 hj
      have hjl : j < ops.size := (Array.getElem?_eq_some_iff.1 ho).1
      have hoj := hat j o ho
      have hjD : j ∉ D := (hR j hjl).1 hj0
      have huD : ∀ d ∈ seenL ops j, d ∈ D := fun d hd => by
        have h1 := (hchk j hjl).2.1 d hd
        obtain ⟨e, he, hb, hon⟩ := deps_spec.1 h1
        have hlt := (hchk j hjl).1 e he hb
        rw [hoj] at he
        have h2 := hdep e he hb
        rw [hon] at h2 hlt
        refine Classical.byContradiction fun hx => ?_
        have h3 := (hR d (by omega)).2 hx
        have hd' : d < listed.size := by omega
        simp [hd'] at h2 h3
        rw [h3] at h2; cases h2
      have hsnd : (seenL ops j).Nodup := List.Pairwise.filter _ List.nodup_range
      obtain ⟨RR, h1, h2⟩ := split_perm (seenL ops j) D hsnd hnd huD
      have hns : ∀ i ∈ RR, seesB ops j i = false := fun i hi => by
        obtain ⟨h3, h4⟩ := h2 i hi
        rcases Nat.lt_or_ge i j with hlt | hge
        · cases hx : seesB ops j i with
          | false => rfl
          | true => exact absurd (List.mem_filter.2 ⟨List.mem_range.2 hlt, hx⟩) h4
        · exact ((hchk j hjl).2.2 i (hD i h3)).2 hge
      have he : putL ops val D a0 = putL ops val RR (putL ops val (seenL ops j) a0) := by
        rw [← putL_perm hok val a0 (fun r hr => hD r (h1.mem_iff.1 hr)) h1, putL_app]
      obtain ⟨e1, e2⟩ := same_putL hok (j := j) val RR (putL ops val (seenL ops j) a0) hns
      have hdo := (hOb j hjl val w hS fun d hd => hg d (huD d hd)).of_same (a' := putL ops val D a0) (by rw [he]; exact e1) (by rw [he]; exact e2)
      rw [hoj] at hdo
      refine hdo.wpOp ho fun v w' hv hw' => ?_
      have hcg : ∀ d ∈ D, (if d = j then v else val d) = val d := fun d hd => if_neg fun e : d = j => hjD (e ▸ hd)
      have hput : (putL ops val D a0).put o.dst v = putL ops (fun i => if i = j then v else val i) (D ++ [j]) a0 := by
        rw [putL_app]
        have : putL ops (fun i => if i = j then v else val i) [j] (putL ops (fun i => if i = j then v else val i) D a0) = (putL ops (fun i => if i = j then v else val i) D a0).put (opAt ops j).dst (if j = j then v else val j) := rfl
        rw [this, if_pos rfl, hoj]
        congr 1
        exact putL_congr D a0 fun i hi => (hcg i hi).symm
      rw [hput]
      have hjR : j ∈ R := hmem j hjl hjD
      refine ih (D ++ [j]) (R.erase j) _ _ w' (by rw [List.length_erase_of_mem hjR]; omega) ?_ (by simpa using hs) ?_ (hst _ _ hS hw') ?_
      · refine List.Perm.trans ?_ hp
        rw [List.append_assoc]
        exact List.Perm.append_left D (List.perm_cons_erase hjR).symm
      · intro i hi
        by_cases hij : j = i
        · subst hij
          have : j < listed.size := by omega
          simp [this]
        · rw [getD_set_ne true hij, hR i hi]
          simp [Ne.symm hij]
      · intro d hd
        rcases List.mem_append.1 hd with h | h
        · simp only [hcg d h]
          exact hG d _ _ _ (hg d h) hw'
        · simp at h
          subst h
          simp only [if_true]
          exact hv
end
end Go.Proofs.YtfniicgoeljmdaaGreat

namespace Go.Proofs.YtfniicgoeljmdaaGreat
open Go.RowKit

abbrev Env := List (Nat × Option Tmp × (Value → World → Prop))
def putV (val : Nat → Value) : Env → Act → Act
  | [], a => a
  | p :: r, a => putV val r (a.put p.2.1 (val p.1))
section
variable {P : Program} {ops : Array Oper} {Q : Exit → Act → World → Prop} {S : World → Prop}
def seesE (ops : Array Oper) (n : Nat) (env : Env) : Env := env.filter fun p => seesB ops n p.1
def Obl (P : Program) (ops : Array Oper) (S : World → Prop) (n : Nat) (env : Env) (a : Act) (g : Value → World → Prop) (o : Oper) : Prop :=
  ∀ val w, S w → (∀ p ∈ seesE ops n env, p.2.2 (val p.1) w) → Does P ops o (putV val (seesE ops n env) a) w g
def FB (P : Program) (ops : Array Oper) (S : World → Prop) (K : Env → Act → Prop) : List Oper → Nat → Env → Act → Prop
  | [], _, env, a => K env a
  | o :: r, n, env, a => (∃ v, Obl P ops S n env a (fun u _ => u = v) o ∧ FB P ops S K r (n + 1) env (a.put o.dst v)) ∨
      (∃ g : Value → World → Prop, (∀ v, Stable (g v)) ∧ Obl P ops S n env a g o ∧ FB P ops S K r (n + 1) ((n, o.dst, g) :: env) a)

theorem putV_eq (val : Nat → Value) : ∀ (env : Env) (a : Act), (∀ p ∈ env, p.2.1 = (opAt ops p.1).dst) → putV val env a = putL ops val (env.map (·.1)) a
  | [], _, _ => rfl
  | p :: r, a, h => by
    have e : putL ops val ((p :: r).map (·.1)) a = putL ops val (r.map (·.1)) (a.put (opAt ops p.1).dst (val p.1)) := rfl
    rw [e, ← h p (by simp), putV]
    exact putV_eq val r _ fun q hq => h q (by simp [hq])
theorem FB.collect {K : Env → Act → Prop} {a0 : Act} (hok : freeOk ops = true) : ∀ (l : List Oper) (n : Nat) (env : Env) (fx : List Nat) (vf : Nat → Value) (G0 : GR), l = ops.toList.drop n → n + l.length = ops.size →
    (fx ++ env.map (·.1)).Perm (List.range n) → (∀ i ∈ fx, G0 i = fun u _ => u = vf i) → (∀ p ∈ env, G0 p.1 = p.2.2 ∧ (∀ v, Stable (p.2.2 v)) ∧ p.2.1 = (opAt ops p.1).dst) →
    FB P ops S K l n env (putL ops vf fx a0) →
    ∃ (G : GR) (env' : Env) (fx' : List Nat) (vf' : Nat → Value), (∀ i, i < n → G i = G0 i) ∧ (∀ j, n ≤ j → j < ops.size → ∀ val w, S w → (∀ d ∈ seenL ops j, G d (val d) w) → Does P ops (opAt ops j) (putL ops val (seenL ops j) a0) w (G j)) ∧
      (fx' ++ env'.map (·.1)).Perm (List.range ops.size) ∧ (∀ i ∈ fx', G i = fun u _ => u = vf' i) ∧ (∀ p ∈ env', G p.1 = p.2.2 ∧ (∀ v, Stable (p.2.2 v)) ∧ p.2.1 = (opAt ops p.1).dst) ∧ K env' (putL ops vf' fx' a0)
  | [], n, env, fx, vf, G0, _, hn, hp, hf, he, h => by
    have : n = ops.size := by simpa using hn
    subst this
    exact ⟨G0, env, fx, vf, fun _ _ => rfl, fun j h1 h2 => by omega, hp, hf, he, h⟩
  | o :: r, n, env, fx, vf, G0, hl, hn, hp, hf, he, h => by
    have hnl : n < ops.size := by simp at hn; omega
    have hon : opAt ops n = o := by
      have h1 : ops.toList[n]? = some o := by
        have := congrArg List.head? hl
        rw [List.head?_drop] at this
        simpa using this.symm
      unfold opAt
      rw [Array.getD_eq_getD_getElem?, ← Array.getElem?_toList, h1]
      rfl
    have hr : r = ops.toList.drop (n + 1) := by
      have := congrArg List.tail hl
      rw [List.tail_drop] at this
      simpa using this
    have hfx : ∀ i ∈ fx, i < n := fun i hi => List.mem_range.1 (hp.mem_iff.1 (by simp [hi]))
    have hek : ∀ p ∈ env, p.1 < n := fun p hp' => List.mem_range.1 (hp.mem_iff.1 (by
      rw [List.mem_append]; exact .inr (List.mem_map.2 ⟨p, hp', rfl⟩)))
    have hnd : (fx ++ env.map (·.1)).Nodup := hp.nodup_iff.2 List.nodup_range
    -- what the obligation of n says of the true act
    have key : ∀ (g : Value → World → Prop) (G : GR), (∀ i, i < n → G i = G0 i) → Obl P ops S n env (putL ops vf fx a0) g o → ∀ val w, S w → (∀ d ∈ seenL ops n, G d (val d) w) → Does P ops (opAt ops n) (putL ops val (seenL ops n) a0) w g := by
      intro g G hG hob val w hS hu
      have hval : ∀ d ∈ seenL ops n, d ∈ fx → val d = vf d := fun d hd hdf => by
        have h1 := hu d hd
        rw [hG d (hfx d hdf), hf d hdf] at h1
        exact h1
      have hU : ∀ p ∈ seesE ops n env, p.1 ∈ seenL ops n ∧ p ∈ env := fun p hp' => by
        obtain ⟨h1, h2⟩ := List.mem_filter.1 hp'
        exact ⟨List.mem_filter.2 ⟨List.mem_range.2 (hek p h1), h2⟩, h1⟩
      have hob' : ∀ val w, S w → (∀ p ∈ seesE ops n env, p.2.2 (val p.1) w) → Does P ops o (putL ops val ((seesE ops n env).map (·.1)) (putL ops vf fx a0)) w g := fun val w hS hu => by
        rw [← putV_eq val (seesE ops n env) _ fun p hp' => (he p (List.mem_filter.1 hp').1).2.2]
        exact hob val w hS hu
      have hd := hob' val w hS fun p hp' => by
        obtain ⟨h1, h2⟩ := hU p hp'
        have h3 := hu p.1 h1
        rw [hG _ (hek p h2), (he p h2).1] at h3
        exact h3
      obtain ⟨val', hv'⟩ : ∃ v : Nat → Value, v = fun i => if i ∈ fx then vf i else val i := ⟨_, rfl⟩
      have e1 : putL ops vf fx a0 = putL ops val' fx a0 := putL_congr fx a0 fun i hi => by rw [hv']; simp [hi]
      have hkn : ∀ p ∈ env, p.1 ∉ fx := fun p hp' hx => (List.nodup_append.1 hnd).2.2 p.1 hx p.1 (List.mem_map.2 ⟨p, hp', rfl⟩) rfl
      have e2 : putL ops val ((seesE ops n env).map (·.1)) (putL ops val' fx a0) = putL ops val' ((seesE ops n env).map (·.1)) (putL ops val' fx a0) := putL_congr _ _ fun i hi => by
        obtain ⟨p, hp', rfl⟩ := List.mem_map.1 hi
        rw [hv']; simp [hkn p (hU p hp').2]
      have e3 : putL ops val (seenL ops n) a0 = putL ops val' (seenL ops n) a0 := putL_congr _ _ fun i hi => by
        rw [hv']
        by_cases hx : i ∈ fx
        · simp [hx, hval i hi hx]
        · simp [hx]
      have hrn : ∀ i ∈ List.range n, i < ops.size := fun i hi => by have := List.mem_range.1 hi; omega
      -- the whole act
      have w1 := same_putL hok (j := n) val' ((env.filter fun p => !seesB ops n p.1).map (·.1)) (putL ops val' ((seesE ops n env).map (·.1)) (putL ops val' fx a0)) fun i hi => by
        obtain ⟨p, hp', rfl⟩ := List.mem_map.1 hi
        have := (List.mem_filter.1 hp').2
        simpa using this
      have w2 := same_putL hok (j := n) val' ((List.range n).filter fun i => !seesB ops n i) (putL ops val' (seenL ops n) a0) fun i hi => by
        have := (List.mem_filter.1 hi).2
        simpa using this
      have q1 : ((fx ++ (seesE ops n env).map (·.1)) ++ (env.filter fun p => !seesB ops n p.1).map (·.1)).Perm (List.range n) := by
        refine List.Perm.trans ?_ hp
        rw [List.append_assoc, ← List.map_append]
        exact List.Perm.append_left fx ((List.filter_append_perm _ env).map _)
      rw [List.append_assoc] at q1
      have q2 : (seenL ops n ++ (List.range n).filter fun i => !seesB ops n i).Perm (List.range n) := List.filter_append_perm _ _
      rw [← putL_app, ← putL_app, putL_perm hok val' a0 (fun i hi => hrn i (q1.mem_iff.1 hi)) q1] at w1
      rw [← putL_app, putL_perm hok val' a0 (fun i hi => hrn i (q2.mem_iff.1 hi)) q2] at w2
      rw [e3, hon]
      rw [hon] at w1 w2
      rw [e1, e2] at hd
      exact hd.of_same (w2.1.symm.trans w1.1) (w2.2.symm.trans w1.2)
    rcases h with ⟨v, hob, hrest⟩ | ⟨g, hst, hob, hrest⟩
    · have hput : (putL ops vf fx a0).put o.dst v = putL ops (fun i => if i = n then v else vf i) (fx ++ [n]) a0 := by
        rw [putL_app]
        have : putL ops (fun i => if i = n then v else vf i) [n] (putL ops (fun i => if i = n then v else vf i) fx a0) = (putL ops (fun i => if i = n then v else vf i) fx a0).put (opAt ops n).dst (if n = n then v else vf n) := rfl
        rw [this, if_pos rfl, hon]
        congr 1
        exact putL_congr fx a0 fun i hi => by have := hfx i hi; rw [if_neg (by omega)]
      rw [hput] at hrest
      obtain ⟨G, env', fx', vf', g1, g2, g3, g4, g5, g6⟩ := FB.collect hok r (n + 1) env (fx ++ [n]) (fun i => if i = n then v else vf i) (fun i => if i = n then (fun u _ => u = v) else G0 i) hr (by simp at hn ⊢; omega)
        (by rw [List.range_succ]; refine List.Perm.trans ?_ (List.Perm.append_right [n] hp); rw [List.append_assoc, List.append_assoc]; exact List.Perm.append_left fx List.perm_append_comm)
        (fun i hi => by
          rcases List.mem_append.1 hi with h1 | h1
          · have := hfx i h1
            rw [if_neg (by omega), if_neg (by omega)]; exact hf i h1
          · simp at h1; subst h1; rw [if_pos rfl, if_pos rfl])
        (fun p hp' => by have := hek p hp'; rw [if_neg (by omega)]; exact he p hp') hrest
      refine ⟨G, env', fx', vf', fun i hi => by rw [g1 i (by omega), if_neg (by omega)], fun j hj hjs => ?_, g3, g4, g5, g6⟩
      by_cases hjn : j = n
      · subst hjn
        rw [g1 j (by omega), if_pos rfl]
        exact key _ G (fun i hi => by rw [g1 i (by omega), if_neg (by omega)]) hob
      · exact g2 j (by omega) hjs
    · obtain ⟨G, env', fx', vf', g1, g2, g3, g4, g5, g6⟩ := FB.collect hok r (n + 1) ((n, o.dst, g) :: env) fx vf (fun i => if i = n then g else G0 i) hr (by simp at hn ⊢; omega)
        (by rw [List.range_succ]; refine List.Perm.trans ?_ (List.Perm.append_right [n] hp); rw [List.map_cons, List.append_assoc]; exact List.Perm.append_left fx (List.perm_append_comm (l₁ := [n])))
        (fun i hi => by have := hfx i hi; rw [if_neg (by omega)]; exact hf i hi)
        (fun p hp' => by
          rcases List.mem_cons.1 hp' with rfl | hp'
          · exact ⟨if_pos rfl, hst, by rw [hon]⟩
          · have := hek p hp'; rw [if_neg (by omega)]; exact he p hp') hrest
      refine ⟨G, env', fx', vf', fun i hi => by rw [g1 i (by omega), if_neg (by omega)], fun j hj hjs => ?_, g3, g4, g5, g6⟩
      by_cases hjn : j = n
      · subst hjn
        rw [g1 j (by omega), if_pos rfl]
        exact key _ G (fun i hi => by rw [g1 i (by omega), if_neg (by omega)]) hob
      · exact g2 j (by omega) hjs

theorem wp_region_free {id : Nat} {l : List Oper} {a : Act} {w : World} (hm : P.follows .mixedOrders = true) (hok : freeOk l.toArray = true)
    (h : FB P l.toArray (Ext w) (fun env a' => ∀ val w', Ext w w' → (∀ p ∈ env, p.2.2 (val p.1) w') → Q .normal (putV val env a') w') l 0 [] a) : (Code.region id l.toArray true).wp P Q a w := by
  obtain ⟨G, env', fx', vf', g1, g2, g3, g4, g5, g6⟩ := FB.collect (a0 := a) hok l 0 [] [] (fun _ => undef) (fun _ _ _ => True) (by simp) (by simp) (by simp) (by intro i hi; cases hi) (by intro p hp; cases hp) h
  refine wp_region_any hm ?_
  have hsz : l.toArray.size = l.length := by simp
  have hG : ∀ j, j < l.toArray.size → ∀ v, Stable (G j v) := fun j hj v => by
    have := g3.mem_iff.2 (List.mem_range.2 hj)
    rcases List.mem_append.1 this with h1 | h1
    · rw [g4 j h1]; exact fun _ _ h _ => h
    · obtain ⟨p, hp, rfl⟩ := List.mem_map.1 h1
      rw [(g5 p hp).1]; exact (g5 p hp).2.1 v
  obtain ⟨G', hG'⟩ : ∃ G' : GR, G' = fun j => if j < l.toArray.size then G j else fun _ _ => True := ⟨_, rfl⟩
  have hGe : ∀ j, j < l.toArray.size → G' j = G j := fun j hj => by simp only [hG', if_pos hj]
  have hseen : ∀ j, j < l.toArray.size → ∀ d ∈ seenL l.toArray j, d < l.toArray.size := fun j hj d hd => by
    have := List.mem_range.1 (List.mem_filter.1 hd).1
    omega
  have main := wpAny_free (P := P) (Q := Q) (S := Ext w) hok G' (Stable.ext w) (fun j v => by
      by_cases hj : j < l.toArray.size
      · rw [hGe j hj]; exact hG j hj v
      · simp only [hG', if_neg hj]; exact fun _ _ _ _ => trivial) (a0 := a)
    (fun j hj val w' hS hu => by
      rw [hGe j hj]
      exact g2 j (Nat.zero_le _) hj val w' hS fun d hd => by rw [← hGe d (hseen j hj d hd)]; exact hu d hd)
    (fun val w' hS hall => by
      have hp : ∀ r ∈ fx' ++ env'.map (·.1), r < l.toArray.size := fun r hr => List.mem_range.1 (g3.mem_iff.1 hr)
      rw [← putL_perm hok val a hp g3, putL_app]
      have e1 : putL l.toArray val fx' a = putL l.toArray vf' fx' a := putL_congr fx' a fun i hi => by
        have h1 := hall i (hp i (by simp [hi]))
        rw [hGe i (hp i (by simp [hi])), g4 i hi] at h1
        exact h1
      rw [e1, ← putV_eq val env' _ fun p hp' => (g5 p hp').2.2]
      refine g6 val w' hS fun p hp' => ?_
      have hlt : p.1 < l.toArray.size := hp p.1 (by rw [List.mem_append]; exact .inr (List.mem_map.2 ⟨p, hp', rfl⟩))
      have h1 := hall p.1 hlt
      rw [hGe _ hlt, (g5 p hp').1] at h1
      exact h1)
    l.toArray.size [] (List.range l.toArray.size) (fun _ => undef) (Array.replicate l.toArray.size false) { w with drawn := w.drawn + 1 } (by simp) (by simp) (by simp) (fun i hi => by simp at hi; simp [hi]) (Ext.drew (Ext.refl _)) (by intro d hd; cases hd)
  exact main

variable {K : Env → Act → Prop} {o : Oper} {r : List Oper} {n : Nat} {env : Env} {a : Act}
theorem fb_nil (h : K env a) : FB P ops S K [] n env a := h
theorem fb_off (hU : seesE ops n env = []) (hw : Region.wanted o (yielded ops a.tmps) = false) (hr : FB P ops S K r (n + 1) env (a.put o.dst undef)) : FB P ops S K (o :: r) n env a :=
  .inl ⟨undef, fun val w _ _ => .inr ⟨by rw [hU]; exact hw, rfl⟩, hr⟩
theorem Gives.to {w : World} {v : Value} {r : Result Next} (h : Gives P w v r) : RunsTo P (fun u w1 => u = v ∧ Ext w w1) r := by
  cases r with
  | ok m w' =>
    cases m <;> simp only [Gives, RunsTo] at h ⊢
    case value u => exact h
    case skip => exact ⟨h.1.symm, h.2⟩
    case enter f args => exact h.mono fun e w'' ⟨he, hw⟩ => ⟨v, he, rfl, hw⟩
  | halt x w' => exact h.elim
theorem fb_op {v : Value} (hU : seesE ops n env = []) (hw : Region.wanted o (yielded ops a.tmps) = true) (h : ∀ w, S w → Gives P w v ((execOp a.eval o).run P w)) (hr : FB P ops S K r (n + 1) env (a.put o.dst v)) : FB P ops S K (o :: r) n env a :=
  .inl ⟨v, fun val w hS _ => .inl (by rw [hU]; exact ⟨hw, (h w hS).to⟩), hr⟩
theorem fb_eff (g : Value → World → Prop) (hst : ∀ v, Stable (g v)) (hU : seesE ops n env = []) (hw : Region.wanted o (yielded ops a.tmps) = true) (h : ∀ w, S w → RunsTo P (fun v w1 => g v w1 ∧ Ext w w1) ((execOp a.eval o).run P w))
    (hr : FB P ops S K r (n + 1) ((n, o.dst, g) :: env) a) : FB P ops S K (o :: r) n env a :=
  .inr ⟨g, hst, fun val w hS _ => .inl (by rw [hU]; exact ⟨hw, h w hS⟩), hr⟩
theorem fb_use {v : Value} {d : Nat} {t : Option Tmp} {g : Value → World → Prop} (hU : seesE ops n env = [(d, t, g)]) (hw : ∀ u, Region.wanted o (yielded ops (a.put t u).tmps) = true)
    (h : ∀ u w, S w → g u w → Gives P w v ((execOp (a.put t u).eval o).run P w)) (hr : FB P ops S K r (n + 1) env (a.put o.dst v)) : FB P ops S K (o :: r) n env a :=
  .inl ⟨v, fun val w hS hg => by
    have h1 := hg
    rw [hU] at h1
    have h2 := h1 (d, t, g) (by simp)
    refine .inl ?_
    rw [hU]
    exact ⟨hw (val d), (h (val d) w hS h2).to⟩, hr⟩
theorem fb_use_eff {d : Nat} {t : Option Tmp} {g : Value → World → Prop} (g' : Value → World → Prop) (hst : ∀ v, Stable (g' v)) (hU : seesE ops n env = [(d, t, g)]) (hw : ∀ u, Region.wanted o (yielded ops (a.put t u).tmps) = true)
    (h : ∀ u w, S w → g u w → RunsTo P (fun v w1 => g' v w1 ∧ Ext w w1) ((execOp (a.put t u).eval o).run P w)) (hr : FB P ops S K r (n + 1) ((n, o.dst, g') :: env) a) : FB P ops S K (o :: r) n env a :=
  .inr ⟨g', hst, fun val w hS hg => by
    have h1 := hg
    rw [hU] at h1
    have h2 := h1 (d, t, g) (by simp)
    refine .inl ?_
    rw [hU]
    exact ⟨hw (val d), h (val d) w hS h2⟩, hr⟩
def SliceIs (m c : Nat) (t : TypeId) (cs : Array Value) (v : Value) (w : World) : Prop := ∃ b, v = .slice (some ⟨b, 0, none⟩) m c ∧ Blk w b t cs
theorem SliceIs.stable (m c : Nat) (t : TypeId) (cs : Array Value) (v : Value) : Stable (SliceIs m c t cs v) := fun _ _ ⟨b, h1, h2⟩ e => ⟨b, h1, h2.ext e⟩
theorem fb_slice {m c : Nat} {t : TypeId} {cs : Array Value} (hU : seesE ops n env = []) (hw : Region.wanted o (yielded ops a.tmps) = true)
    (h : ∀ w, S w → (execOp a.eval o).run P w = .ok (.value (.slice (some ⟨w.heap.size, 0, none⟩) m c)) (w.alloc (.cells cs t)))
    (hr : FB P ops S K r (n + 1) ((n, o.dst, SliceIs m c t cs) :: env) a) : FB P ops S K (o :: r) n env a :=
  fb_eff _ (SliceIs.stable m c t cs) hU hw (fun w hS => by rw [h w hS]; exact ⟨⟨_, rfl, Blk.newAt rfl⟩, Ext.alloc0 _ _⟩) hr
theorem fb_split {x : Bool} {j : Nat} {b : Bool} (_hg : o.guard = some (j, b)) (_hy : yielded ops a.tmps j = some x)
    (ht : x = true → FB P ops S K (o :: r) n env a) (hf : x = false → FB P ops S K (o :: r) n env a) : FB P ops S K (o :: r) n env a := by
  cases x
  · exact hf rfl
  · exact ht rfl
end
end Go.Proofs.YtfniicgoeljmdaaGreat
