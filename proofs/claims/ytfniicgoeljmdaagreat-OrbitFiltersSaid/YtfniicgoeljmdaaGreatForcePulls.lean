/- As wp_region_forced, inside a function that hands out. No condition. The pulls of the bodies, handed out: the program. No condition. -/
import Derived.Test.YtfniicgoeljmdaaGreatForceOps
import Derived.Test.YtfniicgoeljmdaaGreatIter
import Derived.Test.YtfniicgoeljmdaaGreatForceSum
import Derived.Test.YtfniicgoeljmdaaGreatSpanRoot
namespace Go.Proofs.YtfniicgoeljmdaaGreat
open Go.RowKit Go.Shelf

section
variable {P : Program} {ops : Array Oper} {Q : Exit → Act → World → Prop} {S : World → Prop} {m' : Nat} {F : Fence}
/-- A fence that lets every call by. -/
def PlainF (F : Fence) : Prop := (∀ f, F.fn f) ∧ (F.depth.isSome = true → False) ∧ ∀ {P : Program} {f : FuncId} {args : Array Value} {w : World} {R : Ending → World → Prop} {n : Nat}, Calls P f args w R → CallsIn F n P f args w R
theorem plain_wide : PlainF Fence.wide := ⟨fun _ => trivial, fun h => (by cases h), fun h => callsIn_wide.2 h⟩
theorem plain_round (l : Nat) : PlainF (Fence.wide.inRound l) := ⟨fun _ => trivial, fun h => (by cases h), fun h => CallsIn.inRound l (callsIn_wide.2 h)⟩
def isDefer : Op → Bool
  | .defer _ => true
  | _ => false
def noDefer (ops : Array Oper) : Bool := (List.range ops.size).all fun i => !isDefer (opAt ops i).op
theorem noDefer_spec (h : noDefer ops = true) : ∀ (i : Nat) (o : Oper), ops[i]? = some o → ∀ c, o.op ≠ Op.defer c := fun i o hi c e => by
  have hil : i < ops.size := (Array.getElem?_eq_some_iff.1 hi).1
  have h1 := (List.all_eq_true.1 h) i (List.mem_range.2 hil)
  have h2 : opAt ops i = o := by simp [opAt, Array.getD_eq_getD_getElem?, hi]
  rw [h2, e] at h1
  cases h1
theorem Gives.uponIn (hF : PlainF F) {w0 : World} {o : Oper} {a : Act} {v : Value} {r : Result Next} {K : Act → World → Prop} (h : Gives P w0 v r) (hK : ∀ w', Ext w0 w' → K (a.put o.dst v) w') : o.uponIn F m' P a K Q r := by
  cases r with
  | ok n w' =>
    cases n <;> simp only [Gives, Oper.uponIn] at h ⊢
    case value u => obtain ⟨rfl, h⟩ := h; exact hK _ h
    case skip => obtain ⟨rfl, h⟩ := h; exact hK _ h
    case enter f args => exact ⟨fun h => (hF.2.1 h).elim, hF.2.2 (h.mono fun e w'' ⟨he, hw⟩ => by subst he; exact hK _ hw)⟩
  | halt x w' => exact h.elim
theorem Yl.wpOpIn (hF : PlainF F) (hnd : ∀ (i : Nat) (o : Oper), ops[i]? = some o → ∀ c, o.op ≠ Op.defer c) {i : Nat} {o : Oper} {v : Value} {a : Act} (hi : ops[i]? = some o) (hy : Yl P ops S o v a)
    {K : Act → World → Prop} {w : World} (hst : Stable S) (hS : S w) (h : ∀ w', S w' → K (a.put o.dst v) w') : wpOpIn F m' P ops Q i K a w := by
  unfold Go.wpOpIn
  simp only [hi]
  rcases hy with ⟨hw, hv⟩ | ⟨hw, rfl⟩
  · simp only [hw, if_true]; exact ⟨fun _ _ => hF.1 _, by rw [Oper.semAt_eq _ _ _ (hnd i o hi)]; exact (hv w hS).uponIn hF fun w' e => h w' (hst _ _ hS e)⟩
  · simp only [hw, Bool.false_eq_true, if_false]; exact ⟨fun _ _ => hF.1 _, h _ hS⟩
/-- A tail in a forced order, walked in the text's order. -/
theorem wpAnyIn_rest {n : Nat} (hon' : ∀ j, j < ops.size → ∀ e ∈ (opAt ops j).after, Region.binds .any e = true → e.on < j) (hch : ∀ j, n < j → j < ops.size → deps ops j (j - 1) = true) : ∀ (fuel m : Nat) (listed : Array Bool) (a : Act) (w : World), m + fuel = ops.size → n ≤ m → listed.size = ops.size →
    (∀ i, listed.getD i true = false ↔ (m ≤ i ∧ i < ops.size)) → wpListIn F m' P ops Q (ops.toList.drop m) a w → wpAnyIn F m' P .any ops Q fuel listed a w := by
  have hat : ∀ j o, ops[j]? = some o → opAt ops j = o := fun j o h => by simp [opAt, Array.getD_eq_getD_getElem?, h]
  intro fuel
  induction fuel with
  | zero =>
    intro m listed a w hm hn hs hR h
    refine ⟨?_, ?_⟩
    · rw [List.eq_nil_iff_forall_not_mem]
      intro i hi
      have := (hR i).1 (mem_ready.1 hi).1
      omega
    · rw [List.drop_eq_nil_of_le (by simp; omega)] at h
      exact h
  | succ fuel ih =>
    intro m listed a w hm hn hs hR h
    have hml : m < ops.size := by omega
    refine ⟨fun h0 => ?_, fun j hj => ?_⟩
    · exfalso
      have : m ∈ Region.ready .any ops listed := by
        refine mem_ready.2 ⟨(hR m).2 ⟨Nat.le_refl _, hml⟩, opAt ops m, by simp [opAt, Array.getD_eq_getD_getElem?, Array.getElem?_eq_getElem hml], fun e he hb => ?_⟩
        have h1 := hon' m hml e he hb
        cases hx : listed.getD e.on true with
        | false => have := (hR e.on).1 hx; omega
        | true =>
          have hb' : e.on < listed.size := by omega
          simpa [hb'] using hx
      rw [h0] at this
      cases this
    · obtain ⟨hj0, o, ho, hdep⟩ := mem_ready.1 hj
      have hjl := (hR j).1 hj0
      have hoj := hat j o ho
      have hjm : j = m := by
        rcases Nat.lt_or_ge m j with hlt | hge
        · exfalso
          obtain ⟨e, he, hb, hon⟩ := deps_spec.1 (hch j (by omega) hjl.2)
          rw [hoj] at he
          have h1 := hdep e he hb
          have h2 := (hR (j - 1)).2 ⟨by omega, by omega⟩
          rw [hon] at h1
          have : j - 1 < listed.size := by omega
          simp [this] at h1 h2
          rw [h2] at h1; cases h1
        · omega
      subst hjm
      have hdrop : ops.toList.drop j = o :: ops.toList.drop (j + 1) := by
        rw [List.drop_eq_getElem_cons (by simpa using hjl.2)]
        have : ops.toList[j]'(by simpa using hjl.2) = o := by
          have := (Array.getElem?_eq_some_iff.1 ho).2
          simpa using this
        rw [this]
      rw [hdrop] at h
      have fin : ∀ a' w', wpListIn F m' P ops Q (ops.toList.drop (j + 1)) a' w' → wpAnyIn F m' P .any ops Q fuel (listed.setIfInBounds j true) a' w' := fun a' w' h' => by
        refine ih (j + 1) _ a' w' (by omega) (by omega) (by simpa using hs) (fun i => ?_) h'
        by_cases hij : j = i
        · subst hij
          have hjs : j < listed.size := by omega
          constructor
          · intro hx; simp [hjs] at hx
          · intro hx; omega
        · rw [getD_set_ne true hij, hR i]; omega
      unfold wpOpIn
      simp only [ho]
      unfold wpListIn at h
      split
      · next hw => simp only [hw, if_true] at h; exact Oper.wpIn_mono fin h
      · next hw => simp only [hw] at h; exact ⟨h.1, fin _ _ h.2⟩
theorem wpAnyIn_forced (hF : PlainF F) (hnd : ∀ (i : Nat) (o : Oper), ops[i]? = some o → ∀ c, o.op ≠ Op.defer c) (hst : Stable S) {val : Nat → Value} {n : Nat} (hok : forcedOk ops n = true) : ∀ (fuel : Nat) (R : List Nat) (listed : Array Bool) (a : Act) (w : World), fuel = R.length + (ops.size - n) → listed.size = ops.size →
    (∀ i, listed.getD i true = false ↔ (i ∈ R ∨ (n ≤ i ∧ i < ops.size))) → (∀ i ∈ R, i < n) → R.Pairwise (· < ·) → (∀ i, i < n → i ∉ R → ∀ r, deps ops i r = true → r ∉ R) → S w →
    BW P ops S val R a (fun a' => ∀ w', S w' → wpListIn F m' P ops Q (ops.toList.drop n) a' w') → wpAnyIn F m' P .any ops Q fuel listed a w := by
  simp only [forcedOk, Bool.and_eq_true, decide_eq_true_eq] at hok
  obtain ⟨hch, ⟨⟨⟨hns, hsz⟩, hon⟩, hap⟩, hanc⟩ := hok
  have hch' : ∀ j, n < j → j < ops.size → deps ops j (j - 1) = true := fun j h1 h2 => by
    have := (List.all_eq_true.1 hch) j (List.mem_range.2 h2)
    simpa [h1] using this
  have hsel : ∀ i cs b, (opAt ops i).op ≠ .select cs b := fun i cs b => by
    unfold opAt
    rw [Array.getD_eq_getD_getElem?]
    cases hi : ops[i]? with
    | none => simp [default, instInhabitedOper.default, instInhabitedOp.default]
    | some o => exact Region.noSelect_spec hns i o cs b hi
  have hat : ∀ j o, ops[j]? = some o → opAt ops j = o := fun j o h => by simp [opAt, Array.getD_eq_getD_getElem?, h]
  have hon' : ∀ j, j < ops.size → ∀ e ∈ (opAt ops j).after, Region.binds .any e = true → e.on < j := fun j hj e he hb => by
    have := (List.all_eq_true.1 hon) j (List.mem_range.2 (by omega))
    simpa using onlyOn_spec this e he hb
  have hap' : ∀ j, j < n → ∀ r, r < j → deps ops j r = true ∨ (opAt ops r).apart ops (opAt ops j) = true := fun j hj r hr => by
    have := (List.all_eq_true.1 ((List.all_eq_true.1 hap) j (List.mem_range.2 hj))) r (List.mem_range.2 hr)
    simpa using this
  have hanc' : ∀ r, r < n → ∃ i, r < i ∧ i ≤ n ∧ deps ops i r = true := fun r hr => by
    have := (List.all_eq_true.1 hanc) r (List.mem_range.2 hr)
    obtain ⟨i, hi, h⟩ := List.any_eq_true.1 this
    simp only [Bool.and_eq_true, decide_eq_true_eq] at h
    exact ⟨i, h.1, by have := List.mem_range.1 hi; omega, h.2⟩
  intro fuel
  induction fuel with
  | zero => intro R listed a w hf; omega
  | succ fuel ih =>
    intro R listed a w hf hs hR hRn hp hcl hS h
    by_cases hRe : R = []
    · subst hRe
      exact wpAnyIn_rest hon' hch' _ n listed a w (by simp at hf; omega) (Nat.le_refl _) hs (fun i => by simpa using hR i) (h w hS)
    have hlt : ∀ j, listed.getD j true = false → j < ops.size := fun j hj => by
      rcases (hR j).1 hj with h1 | h1
      · have := hRn j h1; omega
      · omega
    have hnotdep : ∀ j, j ∈ Region.ready .any ops listed → ∀ r, r ∈ R → deps ops j r = true → False := fun j hj r hr hd => by
      obtain ⟨hj0, o, ho, hdep⟩ := mem_ready.1 hj
      obtain ⟨e, he, hb, hon⟩ := deps_spec.1 hd
      rw [hat j o ho] at he
      have h1 := hdep e he hb
      have h2 := (hR r).2 (.inl hr)
      rw [hon] at h1
      have : r < listed.size := by have := hRn r hr; omega
      simp [this] at h1 h2
      rw [h2] at h1; cases h1
    refine ⟨fun h0 => ?_, fun j hj => ?_⟩
    · exfalso
      have rdy : ∀ i, i ≤ n → listed.getD i true = false → (∀ r, r < i → r ∉ R) → False := fun i hi hi0 hr => by
        have : i ∈ Region.ready .any ops listed := by
          refine mem_ready.2 ⟨hi0, opAt ops i, by simp [opAt, Array.getD_eq_getD_getElem?, Array.getElem?_eq_getElem (show i < ops.size by omega)], fun e he hb => ?_⟩
          have h1 := hon' i (by omega) e he hb
          cases hx : listed.getD e.on true with
          | false =>
            rcases (hR e.on).1 hx with h2 | h2
            · exact absurd h2 (hr _ h1)
            · omega
          | true =>
            have hb' : e.on < listed.size := by omega
            simpa [hb'] using hx
        rw [h0] at this
        cases this
      match R, hf with
      | [], _ => exact rdy n (Nat.le_refl _) ((hR n).2 (.inr ⟨Nat.le_refl _, hsz⟩)) fun r _ h => by cases h
      | i :: R', _ =>
        refine rdy i (by have := hRn i (by simp); omega) ((hR i).2 (.inl (by simp))) fun r hri hr => ?_
        rcases List.mem_cons.1 hr with h1 | h1
        · omega
        · have := (List.pairwise_cons.1 hp).1 _ h1; omega
    · obtain ⟨hj0, o, ho, hdep⟩ := mem_ready.1 hj
      have hjl := hlt _ hj0
      have hoj := hat j o ho
      rcases (hR j).1 hj0 with hjR | hjn
      · obtain ⟨R1, R2, rfl⟩ := List.append_of_mem hjR
        have hjn := hRn j hjR
        have hap2 : ∀ r ∈ R1, (opAt ops r).apart ops (opAt ops j) = true := by
          intro r hr
          have hrj : r < j := (List.pairwise_append.1 hp).2.2 r hr j (by simp)
          rcases hap' j hjn r hrj with h1 | h1
          · exact (hnotdep j hj r (by simp [hr]) h1).elim
          · exact h1
        obtain ⟨hyj, hrest⟩ := BW.remove hsel R1 a hap2 h
        rw [hoj] at hyj hrest
        have hn : j ∉ R1 ++ R2 := by
          have h1 := List.pairwise_append.1 hp
          have h2 := List.pairwise_cons.1 h1.2.1
          intro hm
          rcases List.mem_append.1 hm with h3 | h3
          · have := h1.2.2 j h3 j (by simp); omega
          · have := h2.1 j h3; omega
        refine hyj.wpOpIn hF hnd ho hst hS fun w' hw' => ?_
        refine ih (R1 ++ R2) _ _ w' (by simp at hf ⊢; omega) (by simpa using hs) ?_ (fun i hi => hRn i (by simp at hi ⊢; rcases hi with h1 | h1 <;> simp [h1])) ?_ ?_ hw' hrest
        · intro i
          by_cases hij : j = i
          · subst hij
            simp only [hn, false_or]
            have : j < listed.size := by omega
            constructor
            · intro h1; simp [this] at h1
            · intro h1; omega
          · rw [getD_set_ne true hij, hR i]
            simp [List.mem_append, List.mem_cons, Ne.symm hij]
        · have h1 := List.pairwise_append.1 hp
          have h2 := List.pairwise_cons.1 h1.2.1
          exact List.pairwise_append.2 ⟨h1.1, h2.2, fun x hx y hy => h1.2.2 x hx y (by simp [hy])⟩
        · intro i hi hiR r hd hr
          have hr' : r ∈ R1 ++ j :: R2 := by simp at hr ⊢; rcases hr with h1 | h1 <;> simp [h1]
          by_cases hij : i = j
          · subst hij
            exact hnotdep i hj r hr' hd
          · exact hcl i hi (by simp at hiR ⊢; exact ⟨hiR.1, hij, hiR.2⟩) r hd hr'
      · exfalso
        have hjn' : j = n := by
          rcases Nat.lt_or_ge n j with hlt' | hge
          · exfalso
            obtain ⟨e, he, hb, hon⟩ := deps_spec.1 (hch' j hlt' hjn.2)
            rw [hoj] at he
            have h1 := hdep e he hb
            have h2 := (hR (j - 1)).2 (.inr ⟨by omega, by omega⟩)
            rw [hon] at h1
            have : j - 1 < listed.size := by omega
            simp [this] at h1 h2
            rw [h2] at h1; cases h1
          · omega
        subst hjn'
        rcases List.eq_nil_or_concat R with h1 | ⟨R', r, h1⟩
        · exact hRe h1
        · rw [List.concat_eq_append] at h1
          subst h1
          have hrn := hRn r (by simp)
          obtain ⟨i, hi1, hi2, hd⟩ := hanc' r hrn
          by_cases hij : i = j
          · subst hij
            exact hnotdep i hj r (by simp) hd
          · refine hcl i (by omega) (fun hm => ?_) r hd (by simp)
            rcases List.mem_append.1 hm with h2 | h2
            · have := (List.pairwise_append.1 hp).2.2 i h2 r (by simp); omega
            · simp at h2; omega
theorem wpIn_region_forced (hF : PlainF F) {id : Nat} {l : List Oper} (n : Nat) (S : World → Prop) {a : Act} {w : World} (hst : Stable S) (hS : S w.drew) (hm : P.follows .mixedOrders = true) (hok : forcedOk l.toArray n = true) (hnd : noDefer l.toArray = true)
    (h : BL P l.toArray S (l.take n) a (fun a' => ∀ w', S w' → wpListIn F m' P l.toArray Q (l.drop n) a' w')) : (Code.region id l.toArray true).wpIn F m' P Q a w := by
  have hnl : n < l.length := by
    simp only [forcedOk, Bool.and_eq_true, decide_eq_true_eq] at hok
    simpa using hok.2.1.1.1.2
  obtain ⟨val, hv⟩ := BL.bw2 (ops := l.toArray) (l.take n) 0 a (fun j hj => by simp at hj ⊢; rw [List.getElem?_take]; split <;> simp_all <;> omega) h
  have hlen : (l.take n).length = n := by simp; omega
  rw [hlen] at hv
  refine wpIn_region_any hm ?_
  refine wpAnyIn_forced hF (noDefer_spec hnd) hst hok _ (List.range' 0 n) _ _ _ (by simp; omega) (by simp) (fun i => ?_) (fun i hi => ?_) (List.pairwise_lt_range' ..) (fun i hi hiR => ?_) hS (by simpa using hv)
  · simp only [List.mem_range', Nat.one_mul, Nat.zero_add, List.size_toArray]
    rcases Nat.lt_or_ge i l.length with hi | hi
    · simp [hi]; omega
    · simp [hi]; omega
  · rw [List.mem_range'] at hi
    obtain ⟨k, hk, rfl⟩ := hi
    omega
  · exfalso
    exact hiR (List.mem_range'.2 ⟨i, hi, by omega⟩)
end
end Go.Proofs.YtfniicgoeljmdaaGreat

namespace Go.Proofs.YtfniicgoeljmdaaGreat
open Go.RowKit Go.Shelf
attribute [local go_sem] Oper.semAt_some

theorem pullsF_get (l : List Body) (home tick : Int) (a : Ar) : ∀ (r : List Body) (j i : Nat), (pullsF l home tick a r j)[i]? = (r[i]?).map fun b => (j + i, pullM b (atM l home ((j + i : Nat) : Int) tick) a)
  | [], _, _ => by simp [pullsF]
  | b :: r, j, 0 => by simp [pullsF]
  | b :: r, j, i + 1 => by
    rw [pullsF, List.getElem?_cons_succ, List.getElem?_cons_succ, pullsF_get l home tick a r (j + 1) i, show j + 1 + i = j + (i + 1) by omega]
theorem pullsM_get {l : List Body} {home tick : Int} {a : Ar} {k : Nat} {x : Body} (h : l[k]? = some x) : (pullsM l home tick a)[k]? = some (k, pullM x (atM l home k tick) a) := by
  unfold pullsM
  rw [pullsF_get, h, Nat.zero_add]; rfl
theorem pullsM_len (l : List Body) (home tick : Int) (a : Ar) : (pullsM l home tick a).length = l.length := pullsF_len _ _ _ _ _ _
theorem take_get {α : Type} {l : List α} {k : Nat} {x : α} (h : l[k]? = some x) : l.take (k + 1) = l.take k ++ [x] := by rw [List.take_add_one, h]; rfl
theorem ext_grown {w w' : World} (h : Ext w w') : w.grownBy w' none := ⟨h.os, h.tape, h.output, h.size, fun i hi _ => h.block i hi⟩
def pullE (p : Nat × Ar) : Array Value := #[.int .i64 p.1, .agg #[.int .i64 p.2.x.lo, .int .i64 p.2.x.hi, .int .i64 p.2.y.lo, .int .i64 p.2.y.hi]]
set_option maxHeartbeats 1000000 in
theorem fPulls_c (A : Option Addr) (n c : Nat) (home tick xl xh yl yh : Int) (w : World) :
    Calls Tryz.prog 160 #[.agg #[.slice A n c, .int .i64 home], .int .i64 tick, .agg #[.int .i64 xl, .int .i64 xh, .int .i64 yl, .int .i64 yh]] w fun e w' => ∃ b1 b2 b3, e = .returned (.func (.func 198) #[] #[.pointer (some ⟨b1, 0, none⟩), .pointer (some ⟨b2, 0, none⟩), .pointer (some ⟨b3, 0, none⟩)]) ∧ Ext w w' ∧ (w.heap.size ≤ b1 ∧ w.heap.size ≤ b2 ∧ w.heap.size ≤ b3) ∧
      Blk w' b1 24 #[.slice A n c, .int .i64 home] ∧ Blk w' b2 2 #[.int .i64 tick] ∧ Blk w' b3 112 #[.int .i64 xl, .int .i64 xh, .int .i64 yl, .int .i64 yh] := by
  go_enter Tryz.func160, Tryz.ntmps160
  go_wp2_with fail
  go_ret
  exact ⟨_, _, _, rfl, by (repeat' (first | exact Ext.refl _ | assumption | apply Ext.alloc | apply Ext.drew | refine Ext.set ?_ (by dsimp only; omega) _ | refine Ext.trans ?_ (by assumption))), ⟨by omega, by omega, by omega⟩, ((Blk.newAt rfl).alloc _).alloc _, (Blk.newAt (by simp)).alloc _, Blk.newAt (by simp)⟩

set_option maxRecDepth 100000 in
set_option maxHeartbeats 4000000 in
theorem fPulls_iter (g1 g2 g3 : Nat) (A : Option Addr) (n c : Nat) (home tick : Int) (l : List Body) (a : Ar) (w0 w : World) (hE : Ext w0 w) (hl : Bodies w0 A n l) (hok : ∀ b ∈ l, 0 ≤ b.mu ∧ b.mu ≤ 1125899906842624 ∧ 0 ≤ b.radius ∧ b.radius ≤ 1048576) (hat : ∀ k : Nat, placeP (atM l home k tick)) (ha : SmA 33554432 a)
    (hB1 : Blk w g1 24 #[.slice A n c, .int .i64 home]) (hB2 : Blk w g2 2 #[.int .i64 tick]) (hB3 : Blk w g3 112 #[.int .i64 a.x.lo, .int .i64 a.x.hi, .int .i64 a.y.lo, .int .i64 a.y.hi]) :
    IterOf Tryz.prog 198 #[.pointer (some ⟨g1, 0, none⟩), .pointer (some ⟨g2, 0, none⟩), .pointer (some ⟨g3, 0, none⟩)] pullE w0.heap.size [g1, g2, g3] (pullsM l home tick a) w := by
  intro m lr J Jx W hW hJ hJx hY h0
  have hEW : Ext w0 W := hE.trans hW
  have hlenL := pullsM_len l home tick a
  have hget := fun (k : Nat) (x : Body) (h : l[k]? = some x) => pullsM_get (home := home) (tick := tick) (a := a) h
  have HOK := Lib.hid hok
  have HAT := Lib.hid hat
  have HLN := Lib.hid hl.len
  have HAA := Lib.hid ha
  generalize pullsM l home tick a = L at *
  have hY' : ∀ (pre : List { x // x ∈ L }) (x : { x // x ∈ L }) W1, J pre W1 → pre.length < L.length → YieldAt Fence.wide (m - 1) Tryz.prog lr #[.int .i64 x.1.1, .agg #[.int .i64 x.1.2.x.lo, .int .i64 x.1.2.x.hi, .int .i64 x.1.2.y.lo, .int .i64 x.1.2.y.hi]] W1 fun e W' =>
      (e = .returned (.bool true) ∧ J (pre ++ [x]) W' ∧ KpX w0.heap.size [g1, g2, g3] W1 W') ∨ (e = .returned (.bool false) ∧ Jx (pre ++ [x]) W') := fun pre x W1 h1 h2 => hY pre x W1 h1 h2
  have HY := Lib.hid hY'
  have HG := Lib.hid hget
  have HL := Lib.hid hlenL
  have hn := hl.le
  have Hl := Lib.hid hl
  have HB1 := Lib.hid (hB1.ext hW)
  have HB2 := Lib.hid (hB2.ext hW)
  have HB3 := Lib.hid (hB3.ext hW)
  have H0 := Lib.hid h0
  have HE0 := Lib.hid hEW
  clear hY hY' hB1 hB2 hB3 hget hlenL hok hat ha hE hl h0 hEW
  refine callsIn_of_wp Tryz.func198 rfl trivial ?_
  simp only [Tryz.ntmps198, List.size_toArray, List.length_cons, List.length_nil, Nat.reduceAdd, Nat.reduceSub, Array.replicate_succ, Array.replicate_zero, List.push_toArray, List.append_toArray, List.nil_append, List.cons_append]
  have hc := HB1.out.cell
  have hlt1 := HB1.out.lt
  gi_wp2
  gi_loopw [9] (fun i wr => ∃ (k : Nat) (pre : List { x // x ∈ L }), k ≤ n ∧ i = .int .i64 k ∧ Hid (pre.map Subtype.val = L.take k) ∧ Hid (J pre wr) ∧ Hid (Ext w0 wr) ∧ Hid (Blk wr g1 24 #[.slice A n c, .int .i64 home]) ∧ Hid (Blk wr g2 2 #[.int .i64 tick]) ∧ Hid (Blk wr g3 112 #[.int .i64 a.x.lo, .int .i64 a.x.hi, .int .i64 a.y.lo, .int .i64 a.y.hi])) (fun i _ => n - (intOf i).toNat)
  case atStart => exact ⟨0, [], Nat.zero_le _, rfl, rfl, H0.out, HE0.out, HB1.out, HB2.out, HB3.out⟩
  case round =>
    clear hc hlt1 HB1 HB2 HB3 H0 HE0
    obtain ⟨k, pre, hk, rfl, HP, HJ1, HE1, HB1, HB2, HB3⟩ := hrel
    by_cases hlt : k < n
    · have hkl : k < l.length := by have := HLN.out; omega
      have hx : l[k]? = some l[k] := List.getElem?_eq_getElem hkl
      have hxm := List.getElem_mem hkl
      generalize l[k] = x at *
      have hLk := HG.out k x hx
      have hmem : (k, pullM x (atM l home k tick) a) ∈ L := List.mem_of_getElem? hLk
      obtain ⟨hin, b, off, rfl, hcx⟩ := Hl.out.get hx
      obtain ⟨hd0, hd1, A', n', c', hd2, hl'⟩ := bodyAt.ext HE1.out hcx
      have HOF := Lib.hid fun W (hW : Ext wr W) => fOf_c b off n c home l k x tick A' n' c' W (Bodies.ext (HE1.out.trans hW) Hl.out) hx (hW.cell hd0) (hW.cell hd1) (hW.cell hd2)
      have HPU := Lib.hid fun W => fPull_c x (atM l home k tick) a A' n' c' W (HOK.out x hxm) (HAT.out k) HAA.out
      have Hstep := Lib.hid (take_get hLk)
      have HLEN := Lib.hid (show pre.length < L.length by have h3 := congrArg List.length HP.out; rw [List.length_map, List.length_take] at h3; have := HL.out; have := HLN.out; omega)
      have hc1 := HB1.out.cell
      have hc2 := HB2.out.cell
      have hc3 := HB3.out.cell
      have hl1 := HB1.out.lt
      have hl2 := HB2.out.lt
      have hl3 := HB3.out.lt
      clear hcx hd0 hd1 hd2 hl' hin hx hxm hLk
      gi_wp2
      refine wpIn_region_forced plain_wide 8 (Ext _) (Stable.ext _) (Ext.drew (Ext.refl _)) (by kernel_rfl) (by kernel_rfl) (by kernel_rfl) ?_
      simp only [List.take_succ_cons, List.take_zero, List.drop_succ_cons, List.drop_zero]
      (repeat' (first | (refine bl_off (by rfl) ?_; simp only [Act.put, List.setIfInBounds_toArray, List.set_cons_zero, List.set_cons_succ]) | (apply bl_op; rfl; (intro w1 h1; obtain ⟨hc, hf, hz⟩ := bcell h1; go_simp; (try go_bits); (first | exact ⟨rfl, Ext.refl _⟩ | (apply gives_call; first | (go_at_call 199; exact HOF.out _ (by (repeat' (first | exact Ext.refl _ | assumption | apply Ext.alloc | apply Ext.drew | refine Ext.set ?_ (by dsimp only; omega) _ | refine Ext.trans ?_ (by assumption))))) | (go_at_call 200; exact HPU.out _)) | (go_invoke; go_simp; apply gives_call; first | (go_at_call 199; exact HOF.out _ (by (repeat' (first | exact Ext.refl _ | assumption | apply Ext.alloc | apply Ext.drew | refine Ext.set ?_ (by dsimp only; omega) _ | refine Ext.trans ?_ (by assumption))))) | (go_at_call 200; exact HPU.out _)))); simp only [Act.put, List.setIfInBounds_toArray, List.set_cons_zero, List.set_cons_succ]) | (refine bl_split rfl rfl (fun hx => ?_) (fun hx => ?_) <;> simp only [hx])))
      refine bl_nil ?_
      intro w3 h3
      have hJ3 := hJ pre wr w3 none HJ1.out (ext_grown h3) (by intro r hr; cases hr)
      have HB1' := Lib.hid (HB1.out.ext h3)
      have HB2' := Lib.hid (HB2.out.ext h3)
      have HB3' := Lib.hid (HB3.out.ext h3)
      have HE3 := Lib.hid (HE1.out.trans h3)
      obtain ⟨fn, tmps, assign, body, hy, hR⟩ : YieldAt Fence.wide (m - 1) Tryz.prog lr #[.int .i64 (k : Int), .agg #[.int .i64 (pullM x (atM l home k tick) a).x.lo, .int .i64 (pullM x (atM l home k tick) a).x.hi, .int .i64 (pullM x (atM l home k tick) a).y.lo, .int .i64 (pullM x (atM l home k tick) a).y.hi]] w3 _ := HY.out pre ⟨_, hmem⟩ w3 hJ3 HLEN.out
      clear hc1 hc2 hc3 hl1 hl2 hl3 hJ3 h3 HB1 HB2 HB3 HE1 HJ1
      gi_wp2
      refine ⟨fun h => (by cases h), hR.mono ?_⟩
      rintro e W3 (⟨rfl, hJ4, hk4⟩ | ⟨rfl, hJx4⟩)
      · have HB1 := Lib.hid (hk4.2 g1 (by simp) _ _ HB1'.out)
        have HB2 := Lib.hid (hk4.2 g2 (by simp) _ _ HB2'.out)
        have HB3 := Lib.hid (hk4.2 g3 (by simp) _ _ HB3'.out)
        have HE4 := Lib.hid (Below.trans HE3.out hk4.1)
        have HJ4 := Lib.hid hJ4
        clear hJ4 hk4
        gi_wp2
        go_roundw
        case rel => exact ⟨k + 1, pre ++ [⟨_, hmem⟩], by omega, by go_num, Lib.hid (by rw [List.map_append, HP.out, Hstep.out]; rfl), HJ4, HE4, HB1, HB2, HB3⟩
        case measure => simp [intOf]; omega
      · gi_wp2
        refine bodyPost_ret (results_none rfl _ _ _) rfl ?_
        exact ⟨⟨_, rfl⟩, .inr ⟨pre ++ [⟨_, hmem⟩], by rw [List.map_append, HP.out]; exact (Hstep.out ▸ List.take_prefix (k + 1) L), hJx4⟩⟩
    · obtain rfl : k = n := by omega
      gi_wp2
      go_end0
      refine ⟨⟨_, rfl⟩, .inl ⟨pre, ?_, HJ1.out⟩⟩
      rw [HP.out, List.take_of_length_le (by have := HL.out; have := HLN.out; omega)]
end Go.Proofs.YtfniicgoeljmdaaGreat
