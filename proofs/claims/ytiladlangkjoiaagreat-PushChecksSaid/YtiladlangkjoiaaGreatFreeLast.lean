/- A region that draws its order: values that are fixed, in any order, then operations in a forced order, which are walked as in the text. No condition. As Free: the last operation, which waits for all others, may do what it likes. No condition. -/
import Derived.Test.YtiladlangkjoiaaGreatGen
import Derived.Test.YtiladlangkjoiaaGreatFreeWalk
namespace Go.Proofs.YtiladlangkjoiaaGreat
open Go.RowKit

section
variable {P : Program} {ops : Array Oper} {Q : Exit → Act → World → Prop} {S : World → Prop}

def forcedOk (ops : Array Oper) (n : Nat) : Bool :=
  (List.range ops.size).all (fun j => !decide (n < j) || deps ops j (j - 1)) && (Region.noSelect ops && decide (n < ops.size) && ((List.range ops.size).all fun j => onlyOn ops j fun r => decide (r < j)) &&
  ((List.range n).all fun j => (List.range j).all fun r => deps ops j r || (opAt ops r).apart ops (opAt ops j)) && (List.range n).all fun r => (List.range (n + 1)).any fun i => decide (r < i) && deps ops i r)

theorem wpAny_rest {n : Nat} (hon' : ∀ j, j < ops.size → ∀ e ∈ (opAt ops j).after, Region.binds .any e = true → e.on < j) (hch : ∀ j, n < j → j < ops.size → deps ops j (j - 1) = true) : ∀ (fuel m : Nat) (listed : Array Bool) (a : Act) (w : World), m + fuel = ops.size → n ≤ m → listed.size = ops.size →
    (∀ i, listed.getD i true = false ↔ (m ≤ i ∧ i < ops.size)) → wpList P ops Q (ops.toList.drop m) a w → wpAny P .any ops Q fuel listed a w := by
  have hat : ∀ j o, ops[j]? = some o → opAt ops j = o := fun j o h => by simp [opAt, Array.getD_eq_getD_getElem?, h]
  intro fuel
  induction fuel with
  | zero =>
    intro m listed a w hm hn hs hR h
    refine ⟨?_, ?_⟩
    · rw [List.eq_nil_iff_forall_not_mem]
      intro i hi
      have := (hR i).1 (mem_ready.1 hi).1
      omega
    · rw [List.drop_eq_nil_of_le (by simp; omega)] at h
      exact h
  | succ fuel ih =>
    intro m listed a w hm hn hs hR h
    have hml : m < ops.size := by omega
    refine ⟨fun h0 => ?_, fun j hj => ?_⟩
    · exfalso
      have : m ∈ Region.ready .any ops listed := by
        refine mem_ready.2 ⟨(hR m).2 ⟨Nat.le_refl _, hml⟩, opAt ops m, by simp [opAt, Array.getD_eq_getD_getElem?, Array.getElem?_eq_getElem hml], fun e he hb => ?_⟩
        have h1 := hon' m hml e he hb
        cases hx : listed.getD e.on true with
        | false => have := (hR e.on).1 hx; omega
        | true =>
          have hb' : e.on < listed.size := by omega
          simpa [hb'] using hx
      rw [h0] at this
      cases this
    · obtain ⟨hj0, o, ho, hdep⟩ := mem_ready.1 hj
      have hjl := (hR j).1 hj0
      have hoj := hat j o ho
      have hjm : j = m := by
        rcases Nat.lt_or_ge m j with hlt | hge
        · exfalso
          obtain ⟨e, he, hb, hon⟩ := deps_spec.1 (hch j (by omega) hjl.2)
          rw [hoj] at he
          have h1 := hdep e he hb
          have h2 := (hR (j - 1)).2 ⟨by omega, by omega⟩
          rw [hon] at h1
          have : j - 1 < listed.size := by omega
          simp [this] at h1 h2
          rw [h2] at h1; cases h1
        · omega
      subst hjm
      have hdrop : ops.toList.drop j = o :: ops.toList.drop (j + 1) := by
        rw [List.drop_eq_getElem_cons (by simpa using hjl.2)]
        have : ops.toList[j]'(by simpa using hjl.2) = o := by
          have := (Array.getElem?_eq_some_iff.1 ho).2
          simpa using this
        rw [this]
      rw [hdrop] at h
      have fin : ∀ a' w', wpList P ops Q (ops.toList.drop (j + 1)) a' w' → wpAny P .any ops Q fuel (listed.setIfInBounds j true) a' w' := fun a' w' h' => by
        refine ih (j + 1) _ a' w' (by omega) (by omega) (by simpa using hs) (fun i => ?_) h'
        by_cases hij : j = i
        · subst hij
          have hjs : j < listed.size := by omega
          constructor
          · intro hx; simp [hjs] at hx
          · intro hx; omega
        · rw [getD_set_ne true hij, hR i]; omega
      unfold wpOp
      simp only [ho]
      unfold wpList at h
      split
      · next hw => simp only [hw, if_true] at h; exact h.imp (Oper.wp_mono fin) id
      · next hw => simp only [hw] at h; exact fin _ _ h
theorem wpAny_forced (hst : Stable S) {val : Nat → Value} {n : Nat} (hok : forcedOk ops n = true) : ∀ (fuel : Nat) (R : List Nat) (listed : Array Bool) (a : Act) (w : World), fuel = R.length + (ops.size - n) → listed.size = ops.size →
    (∀ i, listed.getD i true = false ↔ (i ∈ R ∨ (n ≤ i ∧ i < ops.size))) → (∀ i ∈ R, i < n) → R.Pairwise (· < ·) → (∀ i, i < n → i ∉ R → ∀ r, deps ops i r = true → r ∉ R) → S w →
    BW P ops S val R a (fun a' => ∀ w', S w' → wpList P ops Q (ops.toList.drop n) a' w') → wpAny P .any ops Q fuel listed a w := by
  simp only [forcedOk, Bool.and_eq_true, decide_eq_true_eq] at hok
  obtain ⟨hch, ⟨⟨⟨hns, hsz⟩, hon⟩, hap⟩, hanc⟩ := hok
  have hch' : ∀ j, n < j → j < ops.size → deps ops j (j - 1) = true := fun j h1 h2 => by
    have := (List.all_eq_true.1 hch) j (List.mem_range.2 h2)
    simpa [h1] using this
  have hsel : ∀ i cs b, (opAt ops i).op ≠ .select cs b := fun i cs b => by
    unfold opAt
    rw [Array.getD_eq_getD_getElem?]
    cases hi : ops[i]? with
    | none => simp [default, instInhabitedOper.default, instInhabitedOp.default]
    | some o => exact Region.noSelect_spec hns i o cs b hi
  have hat : ∀ j o, ops[j]? = some o → opAt ops j = o := fun j o h => by simp [opAt, Array.getD_eq_getD_getElem?, h]
  have hon' : ∀ j, j < ops.size → ∀ e ∈ (opAt ops j).after, Region.binds .any e = true → e.on < j := fun j hj e he hb => by
    have := (List.all_eq_true.1 hon) j (List.mem_range.2 (by omega))
    simpa using onlyOn_spec this e he hb
  have hap' : ∀ j, j < n → ∀ r, r < j → deps ops j r = true ∨ (opAt ops r).apart ops (opAt ops j) = true := fun j hj r hr => by
    have := (List.all_eq_true.1 ((List.all_eq_true.1 hap) j (List.mem_range.2 hj))) r (List.mem_range.2 hr)
    simpa using this
  have hanc' : ∀ r, r < n → ∃ i, r < i ∧ i ≤ n ∧ deps ops i r = true := fun r hr => by
    have := (List.all_eq_true.1 hanc) r (List.mem_range.2 hr)
    obtain ⟨i, hi, h⟩ := List.any_eq_true.1 this
    simp only [Bool.and_eq_true, decide_eq_true_eq] at h
    exact ⟨i, h.1, by have := List.mem_range.1 hi; omega, h.2⟩
  intro fuel
  induction fuel with
  | zero => intro R listed a w hf; omega
  | succ fuel ih =>
    intro R listed a w hf hs hR hRn hp hcl hS h
    by_cases hRe : R = []
    · subst hRe
      exact wpAny_rest hon' hch' _ n listed a w (by simp at hf; omega) (Nat.le_refl _) hs (fun i => by simpa using hR i) (h w hS)
    have hlt : ∀ j, listed.getD j true = false → j < ops.size := fun j hj => by
      rcases (hR j).1 hj with h1 | h1
      · have := hRn j h1; omega
      · omega
    have hnotdep : ∀ j, j ∈ Region.ready .any ops listed → ∀ r, r ∈ R → deps ops j r = true → False := fun j hj r hr hd => by
      obtain ⟨hj0, o, ho, hdep⟩ := mem_ready.1 hj
      obtain ⟨e, he, hb, hon⟩ := deps_spec.1 hd
      rw [hat j o ho] at he
      have h1 := hdep e he hb
      have h2 := (hR r).2 (.inl hr)
      rw [hon] at h1
      have : r < listed.size := by have := hRn r hr; omega
      simp [this] at h1 h2
      rw [h2] at h1; cases h1
    refine ⟨fun h0 => ?_, fun j hj => ?_⟩
    · exfalso
      have rdy : ∀ i, i ≤ n → listed.getD i true = false → (∀ r, r < i → r ∉ R) → False := fun i hi hi0 hr => by
        have : i ∈ Region.ready .any ops listed := by
          refine mem_ready.2 ⟨hi0, opAt ops i, by simp [opAt, Array.getD_eq_getD_getElem?, Array.getElem?_eq_getElem (show i < ops.size by omega)], fun e he hb => ?_⟩
          have h1 := hon' i (by omega) e he hb
          cases hx : listed.getD e.on true with
          | false =>
            rcases (hR e.on).1 hx with h2 | h2
            · exact absurd h2 (hr _ h1)
            · omega
          | true =>
            have hb' : e.on < listed.size := by omega
            simpa [hb'] using hx
        rw [h0] at this
        cases this
      match R, hf with
      | [], _ => exact rdy n (Nat.le_refl _) ((hR n).2 (.inr ⟨Nat.le_refl _, hsz⟩)) fun r _ h => by cases h
      | i :: R', _ =>
        refine rdy i (by have := hRn i (by simp); omega) ((hR i).2 (.inl (by simp))) fun r hri hr => ?_
        rcases List.mem_cons.1 hr with h1 | h1
        · omega
        · have := (List.pairwise_cons.1 hp).1 _ h1; omega
    · obtain ⟨hj0, o, ho, hdep⟩ := mem_ready.1 hj
      have hjl := hlt _ hj0
      have hoj := hat j o ho
      rcases (hR j).1 hj0 with hjR | hjn
      · obtain ⟨R1, R2, rfl⟩ := List.append_of_mem hjR
        have hjn := hRn j hjR
        have hap2 : ∀ r ∈ R1, (opAt ops r).apart ops (opAt ops j) = true := by
          intro r hr
          have hrj : r < j := (List.pairwise_append.1 hp).2.2 r hr j (by simp)
          rcases hap' j hjn r hrj with h1 | h1
          · exact (hnotdep j hj r (by simp [hr]) h1).elim
          · exact h1
        obtain ⟨hyj, hrest⟩ := BW.remove hsel R1 a hap2 h
        rw [hoj] at hyj hrest
        have hn : j ∉ R1 ++ R2 := by
          have h1 := List.pairwise_append.1 hp
          have h2 := List.pairwise_cons.1 h1.2.1
          intro hm
          rcases List.mem_append.1 hm with h3 | h3
          · have := h1.2.2 j h3 j (by simp); omega
          · have := h2.1 j h3; omega
        refine hyj.wpOp ho hst hS fun w' hw' => ?_
        refine ih (R1 ++ R2) _ _ w' (by simp at hf ⊢; omega) (by simpa using hs) ?_ (fun i hi => hRn i (by simp at hi ⊢; rcases hi with h1 | h1 <;> simp [h1])) ?_ ?_ hw' hrest
        · intro i
          by_cases hij : j = i
          · subst hij
            simp only [hn, false_or]
            have : j < listed.size := by omega
            constructor
            · intro h1; simp [this] at h1
            · intro h1; omega
          · rw [getD_set_ne true hij, hR i]
            simp [List.mem_append, List.mem_cons, Ne.symm hij]
        · have h1 := List.pairwise_append.1 hp
          have h2 := List.pairwise_cons.1 h1.2.1
          exact List.pairwise_append.2 ⟨h1.1, h2.2, fun x hx y hy => h1.2.2 x hx y (by simp [hy])⟩
        · intro i hi hiR r hd hr
          have hr' : r ∈ R1 ++ j :: R2 := by simp at hr ⊢; rcases hr with h1 | h1 <;> simp [h1]
          by_cases hij : i = j
          · subst hij
            exact hnotdep i hj r hr' hd
          · exact hcl i hi (by simp at hiR ⊢; exact ⟨hiR.1, hij, hiR.2⟩) r hd hr'
      · exfalso
        have hjn' : j = n := by
          rcases Nat.lt_or_ge n j with hlt' | hge
          · exfalso
            obtain ⟨e, he, hb, hon⟩ := deps_spec.1 (hch' j hlt' hjn.2)
            rw [hoj] at he
            have h1 := hdep e he hb
            have h2 := (hR (j - 1)).2 (.inr ⟨by omega, by omega⟩)
            rw [hon] at h1
            have : j - 1 < listed.size := by omega
            simp [this] at h1 h2
            rw [h2] at h1; cases h1
          · omega
        subst hjn'
        rcases List.eq_nil_or_concat R with h1 | ⟨R', r, h1⟩
        · exact hRe h1
        · rw [List.concat_eq_append] at h1
          subst h1
          have hrn := hRn r (by simp)
          obtain ⟨i, hi1, hi2, hd⟩ := hanc' r hrn
          by_cases hij : i = j
          · subst hij
            exact hnotdep i hj r (by simp) hd
          · refine hcl i (by omega) (fun hm => ?_) r hd (by simp)
            rcases List.mem_append.1 hm with h2 | h2
            · have := (List.pairwise_append.1 hp).2.2 i h2 r (by simp); omega
            · simp at h2; omega
theorem wp_region_forced {id : Nat} {l : List Oper} (n : Nat) (S : World → Prop) {a : Act} {w : World} (hst : Stable S) (hS : S w.drew) (hm : P.follows .mixedOrders = true) (hok : forcedOk l.toArray n = true)
    (h : BL P l.toArray S (l.take n) a (fun a' => ∀ w', S w' → wpList P l.toArray Q (l.drop n) a' w')) : (Code.region id l.toArray true).wp P Q a w := by
  have hnl : n < l.length := by
    simp only [forcedOk, Bool.and_eq_true, decide_eq_true_eq] at hok
    simpa using hok.2.1.1.1.2
  obtain ⟨val, hv⟩ := BL.bw2 (ops := l.toArray) (l.take n) 0 a (fun j hj => by simp at hj ⊢; rw [List.getElem?_take]; split <;> simp_all <;> omega) h
  have hlen : (l.take n).length = n := by simp; omega
  rw [hlen] at hv
  refine wp_region_any hm ?_
  refine wpAny_forced hst hok _ (List.range' 0 n) _ _ _ (by simp; omega) (by simp) (fun i => ?_) (fun i hi => ?_) (List.pairwise_lt_range' ..) (fun i hi hiR => ?_) hS (by simpa using hv)
  · simp only [List.mem_range', Nat.one_mul, Nat.zero_add, List.size_toArray]
    rcases Nat.lt_or_ge i l.length with hi | hi
    · simp [hi]; omega
    · simp [hi]; omega
  · rw [List.mem_range'] at hi
    obtain ⟨k, hk, rfl⟩ := hi
    omega
  · exfalso
    exact hiR (List.mem_range'.2 ⟨i, hi, by omega⟩)
end
end Go.Proofs.YtiladlangkjoiaaGreat

namespace Go.Proofs.YtiladlangkjoiaaGreat
open Go.RowKit

section
variable {P : Program} {ops : Array Oper} {Q : Exit → Act → World → Prop} {S : World → Prop}
def waitOk (ops : Array Oper) (z : Nat) : Bool := (List.range z).all fun r => (List.range (z + 1)).any fun i => decide (r < i) && deps ops i r
def endOk (ops : Array Oper) (z : Nat) : Bool := (List.range ops.size).all fun j => !decide (z < j) || deps ops j (j - 1)
def PtrIs (n0 : Nat) (t : TypeId) (cs : Array Value) (v : Value) (w : World) : Prop := ∃ b, v = .pointer (some ⟨b, 0, none⟩) ∧ n0 ≤ b ∧ Blk w b t cs
theorem PtrIs.stable (n0 : Nat) (t : TypeId) (cs : Array Value) (v : Value) : Stable (PtrIs n0 t cs v) := fun _ _ ⟨b, h1, h2, h3⟩ e => ⟨b, h1, h2, h3.ext e⟩
def NewP (w : World) (v : Value) : Prop := ∃ b, v = .pointer (some ⟨b, 0, none⟩) ∧ w.heap.size ≤ b
theorem exists_max {R : List Nat} (h : R ≠ []) : ∃ r ∈ R, ∀ k ∈ R, k ≤ r := by
  induction R with
  | nil => exact absurd rfl h
  | cons a R ih =>
    by_cases hR : R = []
    · subst hR; exact ⟨a, by simp, by simp⟩
    · obtain ⟨r, h1, h2⟩ := ih hR
      rcases Nat.le_total a r with h3 | h3
      · exact ⟨r, by simp [h1], fun k hk => by rcases List.mem_cons.1 hk with rfl | hk; exact h3; exact h2 k hk⟩
      · exact ⟨a, by simp, fun k hk => by rcases List.mem_cons.1 hk with rfl | hk; exact Nat.le_refl _; exact Nat.le_trans (h2 k hk) h3⟩
theorem wpAny_freeL {z : Nat} (hsz : z < ops.size) (hok : freeOk ops = true) (hlast : waitOk ops z = true) (htail : endOk ops z = true) (al : List Nat) (G : GR) (hst : Stable S) (hG : ∀ j v, Stable (G j v)) {a0 : Act}
    (hOb : ∀ j, j < z → ∀ val w, S w → (∀ d ∈ seenL ops j, G d (val d) w) → Does P ops (opAt ops j) (putL ops val (seenL ops j) a0) w (G j))
    (hA : ∀ j ∈ al, j < z → ∀ val w, S w → (∀ d ∈ seenL ops j, G d (val d) w) → Does P ops (opAt ops j) (putL ops val (seenL ops j) a0) w (fun v w1 => G j v w1 ∧ NewP w v))
    (hP : ∀ j ∈ al, ∀ v w, G j v w → ∃ b, v = .pointer (some ⟨b, 0, none⟩) ∧ b < w.heap.size)
    (hQ : ∀ val w, S w → (∀ j, j < z → G j (val j) w) → (∀ d, d < z → ∀ d', d' < z → d ∈ al → d' ∈ al → d ≠ d' → val d ≠ val d') → wpList P ops Q (ops.toList.drop z) (putL ops val (List.range z) a0) w) :
    ∀ (fuel : Nat) (D R : List Nat) (val : Nat → Value) (listed : Array Bool) (w : World), fuel = R.length → (D ++ R).Perm (List.range z) → listed.size = ops.size → (∀ i, i < ops.size → (listed.getD i true = false ↔ i ∉ D)) →
      (∀ i ∈ D, ∀ r, deps ops i r = true → r ∈ D) → (∀ d ∈ D, ∀ d' ∈ D, d ∈ al → d' ∈ al → d ≠ d' → val d ≠ val d') → S w → (∀ d ∈ D, G d (val d) w) → wpAny P .any ops Q (fuel + (ops.size - z)) listed (putL ops val D a0) w := by
  obtain ⟨hsel, hchk⟩ := freeOk_spec hok
  have hat : ∀ j o, ops[j]? = some o → opAt ops j = o := fun j o h => by simp [opAt, Array.getD_eq_getD_getElem?, h]
  have hlater : ∀ r, r < z → ∃ i, i ≤ z ∧ r < i ∧ deps ops i r = true := fun r hr => by
    have h1 := (List.all_eq_true.1 hlast) r (List.mem_range.2 hr)
    obtain ⟨i, hi, h2⟩ := List.any_eq_true.1 h1
    simp only [Bool.and_eq_true, decide_eq_true_eq] at h2
    exact ⟨i, by have := List.mem_range.1 hi; omega, h2.1, h2.2⟩
  have hch : ∀ j, z < j → j < ops.size → deps ops j (j - 1) = true := fun j h1 h2 => by
    have := (List.all_eq_true.1 htail) j (List.mem_range.2 h2)
    simpa [h1] using this
  intro fuel
  induction fuel with
  | zero =>
    intro D R val listed w hf hp hs hR hcl hne' hS hg
    obtain rfl : R = [] := List.eq_nil_of_length_eq_zero hf.symm
    have hperm : D.Perm (List.range z) := by simpa using hp
    have hD : ∀ d ∈ D, d < ops.size := fun d hd => by have := List.mem_range.1 (hperm.mem_iff.1 hd); omega
    have hfull : ∀ i, i < z → i ∈ D := fun i hi => hperm.mem_iff.2 (List.mem_range.2 hi)
    rw [Nat.zero_add]
    refine wpAny_rest (n := z) (fun j hj e he hb => (hchk j hj).1 e he hb) hch (ops.size - z) z listed _ w (by omega) (Nat.le_refl _) hs (fun i => ?_) ?_
    · by_cases hi : i < ops.size
      · rw [hR i hi]
        constructor
        · intro h
          exact ⟨Classical.byContradiction fun hx => h (hfull i (by omega)), hi⟩
        · rintro ⟨h1, h2⟩ h3
          have := List.mem_range.1 (hperm.mem_iff.1 h3)
          omega
      · constructor
        · intro h
          have hi' : ¬ i < listed.size := by omega
          simp [hi'] at h
        · intro h; omega
    · rw [putL_perm hok val a0 hD hperm]
      exact hQ val w hS (fun j hj => hg j (hfull j hj)) fun d hd d' hd' => hne' d (hfull d hd) d' (hfull d' hd')
  | succ fuel ih =>
    intro D R val listed w hf hp hs hR hcl hne' hS hg
    have hDz : ∀ d ∈ D, d < z := fun d hd => List.mem_range.1 (hp.mem_iff.1 (by simp [hd]))
    have hD : ∀ d ∈ D, d < ops.size := fun d hd => by have := hDz d hd; omega
    have hRl : ∀ d ∈ R, d < z := fun d hd => List.mem_range.1 (hp.mem_iff.1 (by simp [hd]))
    have hndDR : (D ++ R).Nodup := hp.nodup_iff.2 List.nodup_range
    have hnd : D.Nodup := (List.nodup_append.1 hndDR).1
    have hdis : ∀ d ∈ R, d ∉ D := fun d hd hd' => (List.nodup_append.1 hndDR).2.2 d hd' d hd rfl
    have hmem : ∀ i, i < z → i ∉ D → i ∈ R := fun i hi hx => by
      have := hp.mem_iff.2 (List.mem_range.2 hi)
      rcases List.mem_append.1 this with h | h
      · exact absurd h hx
      · exact h
    have hne : R ≠ [] := fun e => by rw [e] at hf; cases hf
    rw [show fuel + 1 + (ops.size - z) = (fuel + (ops.size - z)) + 1 by omega]
    refine ⟨fun h0 => ?_, fun j hj => ?_⟩
    · exfalso
      have hex : ∃ i, i < z ∧ i ∉ D := by
        match R, hne, hRl, hdis with
        | r :: R', _, hRl, hdis => exact ⟨r, hRl r (by simp), hdis r (by simp)⟩
      obtain ⟨i, ⟨hi, hiD⟩, hmin⟩ : ∃ i, (i < z ∧ i ∉ D) ∧ ∀ k, k < i → ¬ (k < z ∧ k ∉ D) := by
        obtain ⟨i, hi⟩ := hex
        induction i using Nat.strongRecOn with
        | ind i ihh =>
          by_cases hk : ∃ k, k < i ∧ (k < z ∧ k ∉ D)
          · obtain ⟨k, hk1, hk2⟩ := hk
            exact ihh k hk1 hk2
          · exact ⟨i, hi, fun k hki hc => hk ⟨k, hki, hc⟩⟩
      have hio : i < ops.size := by omega
      have : i ∈ Region.ready .any ops listed := by
        refine mem_ready.2 ⟨(hR i hio).2 hiD, opAt ops i, by simp [opAt, Array.getD_eq_getD_getElem?, Array.getElem?_eq_getElem hio], fun e he hb => ?_⟩
        have h1 := (hchk i hio).1 e he hb
        have h2 : e.on ∈ D := Classical.byContradiction fun hx => hmin e.on h1 ⟨by omega, hx⟩
        have h3 : listed.getD e.on true ≠ false := fun hx => (hR e.on (by omega)).1 hx h2
        have hi' : e.on < listed.size := by omega
        simp [hi'] at h3 ⊢
        exact h3
      rw [h0] at this
      cases this
    · obtain ⟨hj0, o, ho, hdep⟩ := mem_ready.1 hj
      have hjs : j < ops.size := (Array.getElem?_eq_some_iff.1 ho).1
      have hoj := hat j o ho
      have hjD : j ∉ D := (hR j hjs).1 hj0
      have hdD : ∀ r, deps ops j r = true → r ∈ D := fun r hr => by
        obtain ⟨e, he, hb, hon⟩ := deps_spec.1 hr
        have hlt := (hchk j hjs).1 e he hb
        rw [hoj] at he
        have h2 := hdep e he hb
        rw [hon] at h2 hlt
        refine Classical.byContradiction fun hx => ?_
        have h3 := (hR r (by omega)).2 hx
        have hd' : r < listed.size := by omega
        simp [hd'] at h2 h3
        rw [h3] at h2; cases h2
      have hjl : j < z := by
        refine Classical.byContradiction fun hx => ?_
        have hjz : j = z := by
          rcases Nat.lt_or_ge z j with h | h
          · have h1 := hdD (j - 1) (hch j h hjs)
            have := hDz _ h1
            omega
          · omega
        obtain ⟨r, hr1, hr2⟩ := exists_max hne
        obtain ⟨i, hi1, hi2, hi3⟩ := hlater r (hRl r hr1)
        rcases Nat.lt_or_ge i z with h | h
        · have hiD : i ∈ D := Classical.byContradiction fun hy => by have := hr2 i (hmem i h hy); omega
          exact hdis r hr1 (hcl i hiD r hi3)
        · have : i = j := by omega
          subst this
          exact hdis r hr1 (hdD r hi3)
      have huD : ∀ d ∈ seenL ops j, d ∈ D := fun d hd => hdD d ((hchk j hjs).2.1 d hd)
      have hsnd : (seenL ops j).Nodup := List.Pairwise.filter _ List.nodup_range
      obtain ⟨RR, h1, h2⟩ := split_perm (seenL ops j) D hsnd hnd huD
      have hns : ∀ i ∈ RR, seesB ops j i = false := fun i hi => by
        obtain ⟨h3, h4⟩ := h2 i hi
        rcases Nat.lt_or_ge i j with hlt | hge
        · cases hx : seesB ops j i with
          | false => rfl
          | true => exact absurd (List.mem_filter.2 ⟨List.mem_range.2 hlt, hx⟩) h4
        · exact ((hchk j hjs).2.2 i (hD i h3)).2 hge
      have he : putL ops val D a0 = putL ops val RR (putL ops val (seenL ops j) a0) := by
        rw [← putL_perm hok val a0 (fun r hr => hD r (h1.mem_iff.1 hr)) h1, putL_app]
      obtain ⟨e1, e2⟩ := same_putL hok (j := j) val RR (putL ops val (seenL ops j) a0) hns
      have hdo0 : Does P ops (opAt ops j) (putL ops val (seenL ops j) a0) w (fun v w1 => G j v w1 ∧ (j ∈ al → NewP w v)) := by
        by_cases hja : j ∈ al
        · refine (hA j hja hjl val w hS fun d hd => hg d (huD d hd)).imp (fun h => ⟨h.1, RunsTo.mono (fun v w1 h => ⟨⟨h.1.1, fun _ => h.1.2⟩, h.2⟩) h.2⟩) (fun h => ⟨h.1, h.2.1, fun _ => h.2.2⟩)
        · refine (hOb j hjl val w hS fun d hd => hg d (huD d hd)).imp (fun h => ⟨h.1, RunsTo.mono (fun v w1 h => ⟨⟨h.1, fun k => absurd k hja⟩, h.2⟩) h.2⟩) (fun h => ⟨h.1, h.2, fun k => absurd k hja⟩)
      have hdo := hdo0.of_same (a' := putL ops val D a0) (by rw [he]; exact e1) (by rw [he]; exact e2)
      rw [hoj] at hdo
      refine hdo.wpOp ho fun v w' hv hw' => ?_
      obtain ⟨hv, hnew⟩ := hv
      have hcg : ∀ d ∈ D, (if d = j then v else val d) = val d := fun d hd => if_neg fun e : d = j => hjD (e ▸ hd)
      have hput : (putL ops val D a0).put o.dst v = putL ops (fun i => if i = j then v else val i) (D ++ [j]) a0 := by
        rw [putL_app]
        have : putL ops (fun i => if i = j then v else val i) [j] (putL ops (fun i => if i = j then v else val i) D a0) = (putL ops (fun i => if i = j then v else val i) D a0).put (opAt ops j).dst (if j = j then v else val j) := rfl
        rw [this, if_pos rfl, hoj]
        congr 1
        exact putL_congr D a0 fun i hi => (hcg i hi).symm
      rw [hput]
      have hjR : j ∈ R := hmem j hjl hjD
      refine ih (D ++ [j]) (R.erase j) _ _ w' (by rw [List.length_erase_of_mem hjR]; omega) ?_ (by simpa using hs) ?_ ?_ ?_ (hst _ _ hS hw') ?_
      · refine List.Perm.trans ?_ hp
        rw [List.append_assoc]
        exact List.Perm.append_left D (List.perm_cons_erase hjR).symm
      · intro i hi
        by_cases hij : j = i
        · subst hij
          have : j < listed.size := by omega
          simp [this]
        · rw [getD_set_ne true hij, hR i hi]
          simp [Ne.symm hij]
      · intro i hi r hr
        rcases List.mem_append.1 hi with h | h
        · exact List.mem_append.2 (.inl (hcl i h r hr))
        · simp at h
          subst h
          exact List.mem_append.2 (.inl (hdD r hr))
      · have hvs : ∀ d ∈ D, d ∈ al → j ∈ al → val d ≠ v := fun d hd hda hja hvd => by
          obtain ⟨b, hb1, hb2⟩ := hP d hda _ _ (hg d hd)
          obtain ⟨b', hb3, hb4⟩ := hnew hja
          rw [hvd, hb3] at hb1
          injection hb1 with hb1
          injection hb1 with hb1
          injection hb1 with hb1
          omega
        intro d hd d' hd' hda hda' hdd
        rcases List.mem_append.1 hd with h | h
        · rcases List.mem_append.1 hd' with h' | h'
          · simp only [hcg d h, hcg d' h']
            exact hne' d h d' h' hda hda' hdd
          · simp at h'
            subst h'
            simp only [hcg d h, if_true]
            exact hvs d h hda hda'
        · simp at h
          subst h
          rcases List.mem_append.1 hd' with h' | h'
          · simp only [hcg d' h', if_true]
            exact fun e => hvs d' h' hda' hda e.symm
          · simp at h'
            exact absurd h'.symm hdd
      · intro d hd
        rcases List.mem_append.1 hd with h | h
        · simp only [hcg d h]
          exact hG d _ _ _ (hg d h) hw'
        · simp at h
          subst h
          simp only [if_true]
          exact hv
theorem FB.mono {K K' : Env → Act → Prop} (hk : ∀ e a, K e a → K' e a) : ∀ (l : List Oper) (n : Nat) (env : Env) (a : Act), FB P ops S K l n env a → FB P ops S K' l n env a
  | [], _, _, _, h => hk _ _ h
  | o :: r, n, env, a, h => by
    rcases h with ⟨v, h1, h2⟩ | ⟨g, h0, h1, h2⟩
    · exact .inl ⟨v, h1, FB.mono hk r _ _ _ h2⟩
    · exact .inr ⟨g, h0, h1, FB.mono hk r _ _ _ h2⟩
theorem FB.collectL {K : Env → Act → Prop} {a0 : Act} {z : Nat} (hz : z ≤ ops.size) (hok : freeOk ops = true) : ∀ (l : List Oper) (n : Nat) (env : Env) (fx : List Nat) (vf : Nat → Value) (G0 : GR), l = (ops.toList.take z).drop n → n + l.length = z →
    (fx ++ env.map (·.1)).Perm (List.range n) → (∀ i ∈ fx, G0 i = fun u _ => u = vf i) → (∀ p ∈ env, G0 p.1 = p.2.2 ∧ (∀ v, Stable (p.2.2 v)) ∧ p.2.1 = (opAt ops p.1).dst) →
    FB P ops S K l n env (putL ops vf fx a0) →
    ∃ (G : GR) (env' : Env) (fx' : List Nat) (vf' : Nat → Value), (∀ i, i < n → G i = G0 i) ∧ (∀ j, n ≤ j → j < z → ∀ val w, S w → (∀ d ∈ seenL ops j, G d (val d) w) → Does P ops (opAt ops j) (putL ops val (seenL ops j) a0) w (G j)) ∧
      (fx' ++ env'.map (·.1)).Perm (List.range z) ∧ (∀ i ∈ fx', G i = fun u _ => u = vf' i) ∧ (∀ p ∈ env', G p.1 = p.2.2 ∧ (∀ v, Stable (p.2.2 v)) ∧ p.2.1 = (opAt ops p.1).dst) ∧ K env' (putL ops vf' fx' a0)
  | [], n, env, fx, vf, G0, _, hn, hp, hf, he, h => by
    have : n = z := by simpa using hn
    subst this
    exact ⟨G0, env, fx, vf, fun _ _ => rfl, fun j h1 h2 => by omega, hp, hf, he, h⟩
  | o :: r, n, env, fx, vf, G0, hl, hn, hp, hf, he, h => by
    have hnz : n < z := by simp at hn; omega
    have hnl : n < ops.size := by omega
    have hon : opAt ops n = o := by
      have h1 : ops.toList[n]? = some o := by
        have := congrArg List.head? hl
        rw [List.head?_drop, List.getElem?_take_of_lt hnz] at this
        simpa using this.symm
      unfold opAt
      rw [Array.getD_eq_getD_getElem?, ← Array.getElem?_toList, h1]
      rfl
    have hr : r = (ops.toList.take z).drop (n + 1) := by
      have := congrArg List.tail hl
      rw [List.tail_drop] at this
      simpa using this
    have hfx : ∀ i ∈ fx, i < n := fun i hi => List.mem_range.1 (hp.mem_iff.1 (by simp [hi]))
    have hek : ∀ p ∈ env, p.1 < n := fun p hp' => List.mem_range.1 (hp.mem_iff.1 (by
      rw [List.mem_append]; exact .inr (List.mem_map.2 ⟨p, hp', rfl⟩)))
    have hnd : (fx ++ env.map (·.1)).Nodup := hp.nodup_iff.2 List.nodup_range
    -- what the obligation of n says of the true act
    have key : ∀ (g : Value → World → Prop) (G : GR), (∀ i, i < n → G i = G0 i) → Obl P ops S n env (putL ops vf fx a0) g o → ∀ val w, S w → (∀ d ∈ seenL ops n, G d (val d) w) → Does P ops (opAt ops n) (putL ops val (seenL ops n) a0) w g := by
      intro g G hG hob val w hS hu
      have hval : ∀ d ∈ seenL ops n, d ∈ fx → val d = vf d := fun d hd hdf => by
        have h1 := hu d hd
        rw [hG d (hfx d hdf), hf d hdf] at h1
        exact h1
      have hU : ∀ p ∈ seesE ops n env, p.1 ∈ seenL ops n ∧ p ∈ env := fun p hp' => by
        obtain ⟨h1, h2⟩ := List.mem_filter.1 hp'
        exact ⟨List.mem_filter.2 ⟨List.mem_range.2 (hek p h1), h2⟩, h1⟩
      have hob' : ∀ val w, S w → (∀ p ∈ seesE ops n env, p.2.2 (val p.1) w) → Does P ops o (putL ops val ((seesE ops n env).map (·.1)) (putL ops vf fx a0)) w g := fun val w hS hu => by
        rw [← putV_eq val (seesE ops n env) _ fun p hp' => (he p (List.mem_filter.1 hp').1).2.2]
        exact hob val w hS hu
      have hd := hob' val w hS fun p hp' => by
        obtain ⟨h1, h2⟩ := hU p hp'
        have h3 := hu p.1 h1
        rw [hG _ (hek p h2), (he p h2).1] at h3
        exact h3
      obtain ⟨val', hv'⟩ : ∃ v : Nat → Value, v = fun i => if i ∈ fx then vf i else val i := ⟨_, rfl⟩
      have e1 : putL ops vf fx a0 = putL ops val' fx a0 := putL_congr fx a0 fun i hi => by rw [hv']; simp [hi]
      have hkn : ∀ p ∈ env, p.1 ∉ fx := fun p hp' hx => (List.nodup_append.1 hnd).2.2 p.1 hx p.1 (List.mem_map.2 ⟨p, hp', rfl⟩) rfl
      have e2 : putL ops val ((seesE ops n env).map (·.1)) (putL ops val' fx a0) = putL ops val' ((seesE ops n env).map (·.1)) (putL ops val' fx a0) := putL_congr _ _ fun i hi => by
        obtain ⟨p, hp', rfl⟩ := List.mem_map.1 hi
        rw [hv']; simp [hkn p (hU p hp').2]
      have e3 : putL ops val (seenL ops n) a0 = putL ops val' (seenL ops n) a0 := putL_congr _ _ fun i hi => by
        rw [hv']
        by_cases hx : i ∈ fx
        · simp [hx, hval i hi hx]
        · simp [hx]
      have hrn : ∀ i ∈ List.range n, i < ops.size := fun i hi => by have := List.mem_range.1 hi; omega
      -- the whole act
      have w1 := same_putL hok (j := n) val' ((env.filter fun p => !seesB ops n p.1).map (·.1)) (putL ops val' ((seesE ops n env).map (·.1)) (putL ops val' fx a0)) fun i hi => by
        obtain ⟨p, hp', rfl⟩ := List.mem_map.1 hi
        have := (List.mem_filter.1 hp').2
        simpa using this
      have w2 := same_putL hok (j := n) val' ((List.range n).filter fun i => !seesB ops n i) (putL ops val' (seenL ops n) a0) fun i hi => by
        have := (List.mem_filter.1 hi).2
        simpa using this
      have q1 : ((fx ++ (seesE ops n env).map (·.1)) ++ (env.filter fun p => !seesB ops n p.1).map (·.1)).Perm (List.range n) := by
        refine List.Perm.trans ?_ hp
        rw [List.append_assoc, ← List.map_append]
        exact List.Perm.append_left fx ((List.filter_append_perm _ env).map _)
      rw [List.append_assoc] at q1
      have q2 : (seenL ops n ++ (List.range n).filter fun i => !seesB ops n i).Perm (List.range n) := List.filter_append_perm _ _
      rw [← putL_app, ← putL_app, putL_perm hok val' a0 (fun i hi => hrn i (q1.mem_iff.1 hi)) q1] at w1
      rw [← putL_app, putL_perm hok val' a0 (fun i hi => hrn i (q2.mem_iff.1 hi)) q2] at w2
      rw [e3, hon]
      rw [hon] at w1 w2
      rw [e1, e2] at hd
      exact hd.of_same (w2.1.symm.trans w1.1) (w2.2.symm.trans w1.2)
    rcases h with ⟨v, hob, hrest⟩ | ⟨g, hst, hob, hrest⟩
    · have hput : (putL ops vf fx a0).put o.dst v = putL ops (fun i => if i = n then v else vf i) (fx ++ [n]) a0 := by
        rw [putL_app]
        have : putL ops (fun i => if i = n then v else vf i) [n] (putL ops (fun i => if i = n then v else vf i) fx a0) = (putL ops (fun i => if i = n then v else vf i) fx a0).put (opAt ops n).dst (if n = n then v else vf n) := rfl
        rw [this, if_pos rfl, hon]
        congr 1
        exact putL_congr fx a0 fun i hi => by have := hfx i hi; rw [if_neg (by omega)]
      rw [hput] at hrest
      obtain ⟨G, env', fx', vf', g1, g2, g3, g4, g5, g6⟩ := FB.collectL hz hok r (n + 1) env (fx ++ [n]) (fun i => if i = n then v else vf i) (fun i => if i = n then (fun u _ => u = v) else G0 i) hr (by simp at hn ⊢; omega)
        (by rw [List.range_succ]; refine List.Perm.trans ?_ (List.Perm.append_right [n] hp); rw [List.append_assoc, List.append_assoc]; exact List.Perm.append_left fx List.perm_append_comm)
        (fun i hi => by
          rcases List.mem_append.1 hi with h1 | h1
          · have := hfx i h1
            rw [if_neg (by omega), if_neg (by omega)]; exact hf i h1
          · simp at h1; subst h1; rw [if_pos rfl, if_pos rfl])
        (fun p hp' => by have := hek p hp'; rw [if_neg (by omega)]; exact he p hp') hrest
      refine ⟨G, env', fx', vf', fun i hi => by rw [g1 i (by omega), if_neg (by omega)], fun j hj hjs => ?_, g3, g4, g5, g6⟩
      by_cases hjn : j = n
      · subst hjn
        rw [g1 j (by omega), if_pos rfl]
        exact key _ G (fun i hi => by rw [g1 i (by omega), if_neg (by omega)]) hob
      · exact g2 j (by omega) hjs
    · obtain ⟨G, env', fx', vf', g1, g2, g3, g4, g5, g6⟩ := FB.collectL hz hok r (n + 1) ((n, o.dst, g) :: env) fx vf (fun i => if i = n then g else G0 i) hr (by simp at hn ⊢; omega)
        (by rw [List.range_succ]; refine List.Perm.trans ?_ (List.Perm.append_right [n] hp); rw [List.map_cons, List.append_assoc]; exact List.Perm.append_left fx (List.perm_append_comm (l₁ := [n])))
        (fun i hi => by have := hfx i hi; rw [if_neg (by omega)]; exact hf i hi)
        (fun p hp' => by
          rcases List.mem_cons.1 hp' with rfl | hp'
          · exact ⟨if_pos rfl, hst, by rw [hon]⟩
          · have := hek p hp'; rw [if_neg (by omega)]; exact he p hp') hrest
      refine ⟨G, env', fx', vf', fun i hi => by rw [g1 i (by omega), if_neg (by omega)], fun j hj hjs => ?_, g3, g4, g5, g6⟩
      by_cases hjn : j = n
      · subst hjn
        rw [g1 j (by omega), if_pos rfl]
        exact key _ G (fun i hi => by rw [g1 i (by omega), if_neg (by omega)]) hob
      · exact g2 j (by omega) hjs

theorem wp_region_freeT {id : Nat} {l : List Oper} {a : Act} {w : World} (z : Nat) (al : List (Nat × TypeId × Array Value)) (hm : P.follows .mixedOrders = true) (hok : (freeOk l.toArray && (waitOk l.toArray z && (endOk l.toArray z && decide (z < l.length)))) = true)
    (hal : ∀ q ∈ al, (opAt l.toArray q.1).guard = none ∧ ∀ (a : Act) w, (execOp a.eval (opAt l.toArray q.1)).run P w = .ok (.value (.pointer (some ⟨w.heap.size, 0, none⟩))) (w.alloc (.cells q.2.2 q.2.1)))
    (h : FB P l.toArray (Ext w) (fun env a' => (∀ q ∈ al, ∃ t, (q.1, t, PtrIs w.heap.size q.2.1 q.2.2) ∈ env) ∧ ∀ val w', Ext w w' → (∀ p ∈ env, p.2.2 (val p.1) w') → (∀ q ∈ al, ∀ q' ∈ al, q.1 ≠ q'.1 → val q.1 ≠ val q'.1) → wpList P l.toArray Q (l.drop z) (putV val env a') w') (l.take z) 0 [] a) : (Code.region id l.toArray true).wp P Q a w := by
  simp only [Bool.and_eq_true, decide_eq_true_eq] at hok
  obtain ⟨hok, hlast, htail, hlen⟩ := hok
  have hsz : z < l.toArray.size := by simpa using hlen
  obtain ⟨G, env', fx', vf', g1, g2, g3, g4, g5, g6, g7⟩ := FB.collectL (a0 := a) (z := z) (by omega) hok (l.take z) 0 [] [] (fun _ => undef) (fun _ _ _ => True) (by simp) (by simp; omega) (by simp) (by intro i hi; cases hi) (by intro p hp; cases hp) h
  refine wp_region_any hm ?_
  have hG : ∀ j, j < z → ∀ v, Stable (G j v) := fun j hj v => by
    have := g3.mem_iff.2 (List.mem_range.2 hj)
    rcases List.mem_append.1 this with h1 | h1
    · rw [g4 j h1]; exact fun _ _ h _ => h
    · obtain ⟨p, hp, rfl⟩ := List.mem_map.1 h1
      rw [(g5 p hp).1]; exact (g5 p hp).2.1 v
  obtain ⟨G', hG'⟩ : ∃ G' : GR, G' = fun j => if j < z then G j else fun _ _ => True := ⟨_, rfl⟩
  have hGe : ∀ j, j < z → G' j = G j := fun j hj => by simp only [hG', if_pos hj]
  have hseen : ∀ j, j < z → ∀ d ∈ seenL l.toArray j, d < z := fun j hj d hd => by
    have := List.mem_range.1 (List.mem_filter.1 hd).1
    omega
  have hpz : ∀ r ∈ fx' ++ env'.map (·.1), r < z := fun r hr => List.mem_range.1 (g3.mem_iff.1 hr)
  have hGal : ∀ q ∈ al, q.1 < z ∧ G' q.1 = PtrIs w.heap.size q.2.1 q.2.2 := fun q hq => by
    obtain ⟨t, ht⟩ := g6 q hq
    have hlt : q.1 < z := hpz q.1 (by rw [List.mem_append]; exact .inr (List.mem_map.2 ⟨_, ht, rfl⟩))
    exact ⟨hlt, by rw [hGe _ hlt]; exact (g5 _ ht).1⟩
  have main := wpAny_freeL (P := P) (Q := Q) (S := Ext w) hsz hok hlast htail (al.map (·.1)) G' (Stable.ext w) (fun j v => by
      by_cases hj : j < z
      · rw [hGe j hj]; exact hG j hj v
      · simp only [hG', if_neg hj]; exact fun _ _ _ _ => trivial) (a0 := a)
    (fun j hj val w' hS hu => by
      rw [hGe j hj]
      exact g2 j (Nat.zero_le _) hj val w' hS fun d hd => by rw [← hGe d (hseen j hj d hd)]; exact hu d hd)
    (fun j hj hjz val w' hS hu => by
      obtain ⟨q, hq, rfl⟩ := List.mem_map.1 hj
      rw [(hGal q hq).2]
      obtain ⟨h1, h2⟩ := hal q hq
      refine .inl ⟨by unfold Region.wanted; rw [h1], ?_⟩
      rw [h2]
      exact ⟨⟨⟨_, rfl, hS.size, Blk.newAt rfl⟩, _, rfl, Nat.le_refl _⟩, Ext.alloc0 _ _⟩)
    (fun j hj v w' hg => by
      obtain ⟨q, hq, rfl⟩ := List.mem_map.1 hj
      rw [(hGal q hq).2] at hg
      obtain ⟨b, hb, _, hB⟩ := hg
      exact ⟨b, hb, hB.lt⟩)
    (fun val w' hS hall hne => by
      have hp : ∀ r ∈ fx' ++ env'.map (·.1), r < l.toArray.size := fun r hr => by have := hpz r hr; omega
      rw [← putL_perm hok val a hp g3, putL_app]
      have e1 : putL l.toArray val fx' a = putL l.toArray vf' fx' a := putL_congr fx' a fun i hi => by
        have h1 := hall i (hpz i (by simp [hi]))
        rw [hGe i (hpz i (by simp [hi])), g4 i hi] at h1
        exact h1
      rw [e1, ← putV_eq val env' _ fun p hp' => (g5 p hp').2.2]
      refine g7 val w' hS (fun p hp' => ?_) fun q hq q' hq' hqq => hne _ (hGal q hq).1 _ (hGal q' hq').1 (List.mem_map.2 ⟨q, hq, rfl⟩) (List.mem_map.2 ⟨q', hq', rfl⟩) hqq
      have hlt : p.1 < z := hpz p.1 (by rw [List.mem_append]; exact .inr (List.mem_map.2 ⟨p, hp', rfl⟩))
      have h1 := hall p.1 hlt
      rw [hGe _ hlt, (g5 p hp').1] at h1
      exact h1)
    z [] (List.range z) (fun _ => undef) (Array.replicate l.toArray.size false) { w with drawn := w.drawn + 1 } (by simp) (by simp) (by simp) (fun i hi => by simp at hi; simp [hi]) (by intro i hi; cases hi) (by intro d hd; cases hd) (Ext.drew (Ext.refl _)) (by intro d hd; cases hd)
  have he : z + (l.toArray.size - z) = l.toArray.size := by omega
  rw [he] at main
  exact main
theorem wp_region_freeL {id : Nat} {l : List Oper} {a : Act} {w : World} (z : Nat) (hm : P.follows .mixedOrders = true) (hok : (freeOk l.toArray && (waitOk l.toArray z && (endOk l.toArray z && decide (z < l.length)))) = true)
    (h : FB P l.toArray (Ext w) (fun env a' => ∀ val w', Ext w w' → (∀ p ∈ env, p.2.2 (val p.1) w') → wpList P l.toArray Q (l.drop z) (putV val env a') w') (l.take z) 0 [] a) : (Code.region id l.toArray true).wp P Q a w :=
  wp_region_freeT z [] hm hok (by intro q hq; cases hq) (FB.mono (fun _ _ h => ⟨by intro q hq; (cases hq), fun val w' h1 h2 _ => h val w' h1 h2⟩) _ _ _ _ h)
theorem fb_alloc {K : Env → Act → Prop} {o : Oper} {r : List Oper} {n : Nat} {env : Env} {a : Act} {t : TypeId} {cs : Array Value} {w0 : World} (hU : seesE ops n env = []) (hw : Region.wanted o (yielded ops a.tmps) = true)
    (h : ∀ w, Ext w0 w → (execOp a.eval o).run P w = .ok (.value (.pointer (some ⟨w.heap.size, 0, none⟩))) (w.alloc (.cells cs t)))
    (hr : FB P ops (Ext w0) K r (n + 1) ((n, o.dst, PtrIs w0.heap.size t cs) :: env) a) : FB P ops (Ext w0) K (o :: r) n env a :=
  fb_eff _ (PtrIs.stable _ t cs) hU hw (fun w hS => by rw [h w hS]; exact ⟨⟨_, rfl, hS.size, Blk.newAt rfl⟩, Ext.alloc0 _ _⟩) hr
end
end Go.Proofs.YtiladlangkjoiaaGreat
